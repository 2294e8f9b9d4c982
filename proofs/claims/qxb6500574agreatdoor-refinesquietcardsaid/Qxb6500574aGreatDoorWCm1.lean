/-
  THE WALK of comp: the compiler's state in memory.
-/
import Derived.Test.Qxb6500574aGreatDoorWCm0
namespace Go.Proofs.Qxb6500574aGreatDoor
open Go Go.RowKit
set_option linter.unusedVariables false
set_option linter.unusedSimpArgs false
open Go.Lib
/-- labels of the compiler's own blocks -/
def QC (l : Nat) : Prop := 1050 ≤ l
/-- label of list j of function state x -/
def labF (x j : Nat) : Nat := 10000 + x + 13 * j
theorem labF_inj {x y i j : Nat} (hx : x < 13) (hy : y < 13) (h : labF x i = labF y j) : x = y ∧ i = j := by unfold labF at h; omega
/-- where a function state's lists lie -/
structure FnL where
  c : Option Nat
  lo : Sl
  up : Sl
  cn : Sl
  nu : Option Nat
  st : Option Nat
  cd : Sl
  lp : Sl
  br : List (Sl × List (Nat × Nat))
def fptr (g x : Nat) : Value := .pointer (some ⟨g, x * 11, none⟩)
def pptr (g : Nat) : Option Nat → Value
  | none => .pointer none
  | some x => fptr g x
def fnV (g : Nat) (x : FnD × FnL) : List Value := [.pointer (x.2.c.map fun b => ⟨b, 0, none⟩), pptr g x.1.parent, .int .i64 x.1.np, x.2.lo.v x.1.locals.length, .int .i64 x.1.nslots, x.2.up.v x.1.ups.length, x.2.cn.v x.1.consts.length, .map x.2.nu, .map x.2.st, x.2.cd.v x.1.code.length, x.2.lp.v x.1.loops.length]
theorem fnV_len (g : Nat) (x : FnD × FnL) : (fnV g x).length = 11 := rfl
def nmV (s : Bs) : List Value := [sv s]
theorem nmV_len (s : Bs) : (nmV s).length = 1 := rfl
def lpV (x : LpD × (Sl × List (Nat × Nat))) : List Value := [.int .i64 x.1.base, x.2.1.v x.1.breaks.length]
theorem lpV_len (x : LpD × (Sl × List (Nat × Nat))) : (lpV x).length = 2 := rfl
/-- a patcher -/
def patV (p : Nat × Nat) : Value := .func (.func 240) #[] #[.pointer (some ⟨p.1, 0, none⟩), .pointer (some ⟨p.2, 0, none⟩)]
structure Pat (w : World) (o : Nat → Nat) (g x : Nat) (p : Nat × Nat) (n : Nat) : Prop where
  f : Has w p.1 #[fptr g x] 94
  a : Has w p.2 #[.int .i64 n] 3
  lf : o p.1 = 0
  la : o p.2 = 0
/-- a loop that is open, number d -/
structure LpOne (w : World) (o : Nat → Nat) (g x d : Nat) (l : LpD) (b : Sl × List (Nat × Nat)) : Prop where
  row : Row w o (labF x (7 + d)) 1 1 b.1 l.breaks.length (b.2.map patV)
  pat : ∀ (i : Nat) p n, b.2[i]? = some p → l.breaks[i]? = some n → Pat w o g x p n
structure FnOne (w : World) (o : Nat → Nat) (g x : Nat) (d : FnD × FnL) : Prop where
  lo : Row w o (labF x 0) 9 1 d.2.lo d.1.locals.length (d.1.locals.flatMap nmV)
  up : Row w o (labF x 1) 135 2 d.2.up d.1.ups.length (d.1.ups.flatMap dCells)
  cn : Row w o (labF x 2) 68 3 d.2.cn d.1.consts.length (d.1.consts.flatMap vCells)
  nu : ∀ b, d.2.nu = some b → MapAt w o (labF x 3) b (ent16 nk (numsF 0 d.1.consts))
  ss : ∀ b, d.2.st = some b → MapAt w o (labF x 4) b (ent16 sk (strsF 0 d.1.consts))
  cd : Row w o (labF x 5) 105 2 d.2.cd d.1.code.length (d.1.code.flatMap iCells)
  lp : Row w o (labF x 6) 139 2 d.2.lp d.1.loops.length ((d.1.loops.zip d.2.br).flatMap lpV)
  bl : d.2.br.length = d.1.loops.length
  br : ∀ (i : Nat) l b, d.1.loops[i]? = some l → d.2.br[i]? = some b → LpOne w o g x i l b
structure FnsRep (w : World) (o : Nat → Nat) (g : Nat) (xs : List (FnD × FnL)) : Prop where
  here : Blk w o 1051 g (xs.flatMap (fnV g)).toArray 102
  one : ∀ (x : Nat) d, xs[x]? = some d → FnOne w o g x d
section
variable {Q : Nat → Prop} {w w1 : World} {o o1 : Nat → Nat} {g x : Nat} {d d' : FnD × FnL} {xs : List (FnD × FnL)}
theorem Pat.st {p : Nat × Nat} {n : Nat} (h : Pat w o g x p n) (t : Stp Q w o w1 o1) (h0 : ¬ Q 0) : Pat w1 o1 g x p n :=
  ⟨t.has h.f (by rw [h.lf]; exact h0), t.has h.a (by rw [h.la]; exact h0), (t.ext _ h.f.lt).trans h.lf, (t.ext _ h.a.lt).trans h.la⟩
theorem LpOne.st {i : Nat} {l : LpD} {b : Sl × List (Nat × Nat)} (h : LpOne w o g x i l b) (t : Stp Q w o w1 o1) (h0 : ¬ Q 0) (hq : ¬ Q (labF x (7 + i))) : LpOne w1 o1 g x i l b :=
  ⟨h.row.st t hq, fun j p n a1 a2 => (h.pat j p n a1 a2).st t h0⟩
theorem FnOne.st (h : FnOne w o g x d) (t : Stp Q w o w1 o1) (h0 : ¬ Q 0) (hq : ∀ j, ¬ Q (labF x j)) : FnOne w1 o1 g x d :=
  ⟨h.lo.st t (hq 0), h.up.st t (hq 1), h.cn.st t (hq 2), fun b e => (h.nu b e).st t (hq 3), fun b e => (h.ss b e).st t (hq 4), h.cd.st t (hq 5), h.lp.st t (hq 6), h.bl, fun i l b a1 a2 => (h.br i l b a1 a2).st t h0 (hq _)⟩
theorem FnsRep.st (h : FnsRep w o g xs) (t : Stp Q w o w1 o1) (h0 : ¬ Q 0) (h1 : ¬ Q 1051) (hq : ∀ x j, ¬ Q (labF x j)) : FnsRep w1 o1 g xs :=
  ⟨h.here.st t h1, fun x d hx => (h.one x d hx).st t h0 (hq x)⟩
/-- the cells of state x -/
theorem FnsRep.cell (h : FnsRep w o g xs) (hx : xs[x]? = some d) {j : Nat} (hj : j < 11) : w.cell? ⟨g, x * 11 + j, none⟩ = (fnV g d)[j]? := by
  rw [h.here.has.cell, List.getElem?_toArray]
  exact flatMap_at _ 11 (fnV_len g) xs x j d hx hj
/-- a cell of state x turned -/
theorem fns_put (hb : Has w g (xs.flatMap (fnV g)).toArray 102) (hx : xs[x]? = some d) {j : Nat} (hj : j < 11) {u : Value} (e : fnV g d' = (fnV g d).set j u) : Has (w.setCell ⟨g, x * 11 + j, none⟩ u) g ((xs.set x d').flatMap (fnV g)).toArray 102 := by
  have := hb.put (x * 11 + j) u
  rw [flatMap_set _ 11 (fnV_len g) xs x j d d' u hx hj e]
  simpa using this
/-- state x turned -/
theorem FnsRep.set (h : FnsRep w o g xs) (hl : xs.length = 13) (hx : xs[x]? = some d) (t : Stp Q w o w1 o1) (h0 : ¬ Q 0) (hq : ∀ y j, y < 13 → y ≠ x → ¬ Q (labF y j))
    (hh : Has w1 g ((xs.set x d').flatMap (fnV g)).toArray 102) (ho : FnOne w1 o1 g x d') : FnsRep w1 o1 g (xs.set x d') := by
  have hi : x < xs.length := (List.getElem?_eq_some_iff.1 hx).1
  refine ⟨⟨hh, (t.ext g h.here.has.lt).trans h.here.lb⟩, fun j y hj => ?_⟩
  by_cases e : x = j
  · subst e
    rw [List.getElem?_set_self hi] at hj
    cases hj
    exact ho
  · rw [List.getElem?_set_ne e] at hj
    have hj2 := (List.getElem?_eq_some_iff.1 hj).1
    exact (h.one j y hj).st t h0 (fun i => hq j i (by omega) (fun hc => e hc.symm))
end
/-- where the compiler lies -/
structure CC where
  cb : Nat
  gF : Nat
  ps : Value
  dv : Value
  sn : Sl
  bf : Sl
  bl : Bs
def FnL.ok (l : FnL) (cb : Nat) : Prop := l.c = some cb ∧ (∃ b, l.nu = some b) ∧ ∃ b, l.st = some b
def comC (C : CC) (n np : Nat) : Array Value := #[C.ps, C.dv, C.sn.v n, .slice (some ⟨C.gF, 0, none⟩) 13 13, .int .i64 np, C.bf.v C.bl.length]
/-- the compiler in memory; states beyond np: stale -/
structure CRep (w : World) (o : Nat → Nat) (C : CC) (N : List Nd) (c : CmD) : Prop where
  blk : Blk w o 1050 C.cb (comC C N.length c.np) 51
  nds : Row w o 1042 134 8 C.sn N.length (N.flatMap ndV)
  buf : Row w o 1052 5 1 C.bf C.bl.length (C.bl.flatMap bCells)
  fns : ∃ xs, FnsRep w o C.gF xs ∧ xs.length = 13 ∧ ∀ x, x < c.np → ∃ l, xs[x]? = some (c.fn x, l) ∧ l.ok C.cb
  len : c.fns.length = 13
  np : c.np ≤ 13
  ow : Ow w o
section
variable {Q : Nat → Prop} {w w1 : World} {o o1 : Nat → Nat} {C : CC} {N : List Nd} {c : CmD} {x : Nat}
theorem CRep.st (h : CRep w o C N c) (t : Stp Q w o w1 o1) (h0 : ¬ Q 0) (h2 : ¬ Q 1042) (hq : ∀ l, QC l → ¬ Q l) : CRep w1 o1 C N c := by
  obtain ⟨xs, a1, a2, a3⟩ := h.fns
  exact ⟨h.blk.st t (hq _ (by unfold QC; omega)), h.nds.st t h2, h.buf.st t (hq _ (by unfold QC; omega)), ⟨xs, a1.st t h0 (hq _ (by unfold QC; omega)) (fun x j => hq _ (by unfold QC labF; omega)), a2, a3⟩, h.len, h.np, t.hi h.ow⟩
theorem CRep.fresh (h : CRep w o C N c) (hf : Fr (fun _ => False) w w1) : CRep w1 o C N c := h.st (Stp.fresh (fun _ => False) o hf) (fun x => x) (fun x => x) (fun _ _ x => x)
theorem CRep.alloc (h : CRep w o C N c) (b : Obj) : CRep (w.alloc b) o C N c := h.fresh ((Fr.refl _ _).alloc b)
/-- state x: its own list, its lists -/
structure FnAt (w : World) (o : Nat → Nat) (C : CC) (c : CmD) (x : Nat) (xs : List (FnD × FnL)) (l : FnL) : Prop where
  rep : FnsRep w o C.gF xs
  len : xs.length = 13
  all : ∀ y, y < c.np → ∃ l, xs[y]? = some (c.fn y, l) ∧ l.ok C.cb
  at_ : xs[x]? = some (c.fn x, l)
  ok : l.ok C.cb
theorem CRep.fn (h : CRep w o C N c) (hx : x < c.np) : ∃ xs l, FnAt w o C c x xs l := by
  obtain ⟨xs, a1, a2, a3⟩ := h.fns
  obtain ⟨l, b1, b2⟩ := a3 x hx
  exact ⟨xs, l, a1, a2, a3, b1, b2⟩
theorem FnAt.st {xs : List (FnD × FnL)} {l : FnL} (h : FnAt w o C c x xs l) (t : Stp Q w o w1 o1) (h0 : ¬ Q 0) (hq : ∀ l, QC l → ¬ Q l) : FnAt w1 o1 C c x xs l :=
  ⟨h.rep.st t h0 (hq _ (by unfold QC; omega)) (fun x j => hq _ (by unfold QC labF; omega)), h.len, h.all, h.at_, h.ok⟩
theorem FnAt.fresh {xs : List (FnD × FnL)} {l : FnL} (h : FnAt w o C c x xs l) (hf : Fr (fun _ => False) w w1) : FnAt w1 o C c x xs l := h.st (Stp.fresh (fun _ => False) o hf) (fun x => x) (fun _ _ x => x)
theorem FnAt.one {xs : List (FnD × FnL)} {l : FnL} (h : FnAt w o C c x xs l) : FnOne w o C.gF x (c.fn x, l) := h.rep.one x _ h.at_
theorem FnAt.cell {xs : List (FnD × FnL)} {l : FnL} (h : FnAt w o C c x xs l) (j : Nat) (hj : j < 11) : w.cell? ⟨C.gF, x * 11 + j, none⟩ = (fnV C.gF (c.fn x, l))[j]? := h.rep.cell h.at_ hj
theorem FnAt.frozen {xs : List (FnD × FnL)} {l : FnL} (h : FnAt w o C c x xs l) (j : Nat) : w.frozen? ⟨C.gF, j, none⟩ = false := h.rep.here.has.frozen j
theorem FnAt.lt {xs : List (FnD × FnL)} {l : FnL} (h : FnAt w o C c x xs l) : C.gF < w.heap.size := h.rep.here.has.lt
/-- labels that a step on state x may turn -/
def QF1 (x l : Nat) : Prop := l = 1051 ∨ ∃ j, l = labF x j
theorem QF1.qc {x l : Nat} (h : QF1 x l) : QC l := by
  unfold QC
  rcases h with h | ⟨j, h⟩
  · omega
  · unfold labF at h; omega
/-- state x turned: the whole compiler -/
theorem FnAt.set {xs : List (FnD × FnL)} {l l' : FnL} {u : FnD → FnD} (F : FnAt w o C c x xs l) (h : CRep w o C N c) (hx : x < c.np) (t : Stp (QF1 x) w o w1 o1) (hh : Has w1 C.gF ((xs.set x (u (c.fn x), l')).flatMap (fnV C.gF)).toArray 102) (ho : FnOne w1 o1 C.gF x (u (c.fn x), l')) (hk : l'.ok C.cb) :
    CRep w1 o1 C N (c.upd x u) := by
  have h13 : x < 13 := Nat.lt_of_lt_of_le hx h.np
  have q0 : ¬ QF1 x 0 := by intro hc; have := hc.qc; unfold QC at this; omega
  have q2 : ¬ QF1 x 1042 := by intro hc; have := hc.qc; unfold QC at this; omega
  have q50 : ¬ QF1 x 1050 := by
    rintro (hc | ⟨j, hc⟩)
    · omega
    · unfold labF at hc; omega
  have q52 : ¬ QF1 x 1052 := by
    rintro (hc | ⟨j, hc⟩)
    · omega
    · unfold labF at hc; omega
  refine ⟨h.blk.st t q50, h.nds.st t q2, h.buf.st t q52, ⟨xs.set x (u (c.fn x), l'), ?_, by rw [List.length_set]; exact F.len, fun y hy => ?_⟩, by rw [upd_len]; exact h.len, h.np, t.hi h.ow⟩
  · refine F.rep.set F.len F.at_ t q0 (fun y j hy hne hc => ?_) hh ho
    rcases hc with hc | ⟨i, hc⟩
    · unfold labF at hc; omega
    · exact hne (labF_inj hy h13 hc).1
  · have hlt : x < c.fns.length := by rw [h.len]; exact h13
    rw [fn_upd c hlt]
    by_cases e : y = x
    · subst e
      rw [if_pos rfl, List.getElem?_set_self (by rw [F.len]; exact h13)]
      exact ⟨l', rfl, hk⟩
    · rw [if_neg e, List.getElem?_set_ne (fun hc => e hc.symm)]
      exact F.all y hy
theorem FnAt.setA {xs : List (FnD × FnL)} {l l' : FnL} {u : FnD → FnD} (F : FnAt w o C c x xs l) (h : CRep w o C N c) (hx : x < c.np) (t : Stp (QF1 x) w o w1 o1) (hh : Has w1 C.gF ((xs.set x (u (c.fn x), l')).flatMap (fnV C.gF)).toArray 102) (ho : FnOne w1 o1 C.gF x (u (c.fn x), l')) (hk : l'.ok C.cb) :
    FnAt w1 o1 C (c.upd x u) x (xs.set x (u (c.fn x), l')) l' := by
  have h13 : x < 13 := Nat.lt_of_lt_of_le hx h.np
  have hlt : x < c.fns.length := by rw [h.len]; exact h13
  have q0 : ¬ QF1 x 0 := by intro hc; have := hc.qc; unfold QC at this; omega
  refine ⟨?_, by rw [List.length_set]; exact F.len, fun y hy => ?_, ?_, hk⟩
  · refine F.rep.set F.len F.at_ t q0 (fun y j hy hne hc => ?_) hh ho
    rcases hc with hc | ⟨i, hc⟩
    · unfold labF at hc; omega
    · exact hne (labF_inj hy h13 hc).1
  · rw [fn_upd c hlt]
    by_cases e : y = x
    · subst e
      rw [if_pos rfl, List.getElem?_set_self (by rw [F.len]; exact h13)]
      exact ⟨l', rfl, hk⟩
    · rw [if_neg e, List.getElem?_set_ne (fun hc => e hc.symm)]
      exact F.all y hy
  · rw [fn_upd c hlt, if_pos rfl, List.getElem?_set_self (by rw [F.len]; exact h13)]
/-- a header of state x that is written: a store into its cell j -/
theorem FnAt.put {xs : List (FnD × FnL)} {l : FnL} {d' : FnD × FnL} (F : FnAt w o C c x xs l) (t : Stp Q w o w1 o1) (h1 : ¬ Q 1051) {j : Nat} (hj : j < 11) {u : Value} (e : fnV C.gF d' = (fnV C.gF (c.fn x, l)).set j u) :
    Has (w1.setCell ⟨C.gF, x * 11 + j, none⟩ u) C.gF ((xs.set x d').flatMap (fnV C.gF)).toArray 102 ∧ Stp (fun k => k = 1051) w1 o1 (w1.setCell ⟨C.gF, x * 11 + j, none⟩ u) o1 := by
  have hb := F.rep.here.st t h1
  exact ⟨fns_put hb.has F.at_ hj e, (Stp.refl _ _ _).setCell (p := ⟨C.gF, x * 11 + j, none⟩) hb.lb u⟩
end
end Go.Proofs.Qxb6500574aGreatDoor
