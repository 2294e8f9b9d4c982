/-
  THE WALK of comp: a break's patcher is laid to its loop: memory.
-/
import Derived.Test.Qxb6500574aGreatDoorWCm31
namespace Go.Proofs.Qxb6500574aGreatDoor
open Go Go.RowKit
set_option linter.unusedVariables false
set_option linter.unusedSimpArgs false
open Go.Lib
theorem rowFun : IsRow Tryz.prog 137 1 .nilFunc 1 8 := ⟨by kernel_rfl, by kernel_rfl, rfl, by decide⟩
theorem setf_same {α β : Type} (u : α → List β) : ∀ (l : List α) (i : Nat) (x y : α), l[i]? = some x → u y = u x → (l.set i y).flatMap u = l.flatMap u := by
  intro l
  induction l with
  | nil => intro i x y h; simp at h
  | cons z l ih =>
    intro i x y h e
    cases i with
    | zero => simp at h; subst h; simp [e]
    | succ i => simp only [List.getElem?_cons_succ] at h; simp [ih i x y h e]
section
variable {w w1 w2 : World} {o : Nat → Nat} {C : CC} {N : List Nd} {c : CmD} {x : Nat} {xs : List (FnD × FnL)} {L : FnL}
/-- what stands of the innermost loop -/
structure LpLast (w : World) (o : Nat → Nat) (C : CC) (c : CmD) (x : Nat) (L : FnL) (ls : List LpD) (l0 : LpD) (bs : List (Sl × List (Nat × Nat))) (b0 : Sl × List (Nat × Nat)) (g1 : Nat) : Prop where
  he : (c.fn x).loops = ls ++ [l0]
  hb : L.br = bs ++ [b0]
  hs : bs.length = ls.length
  a1 : L.lp.a = some ⟨g1, 0, none⟩
  a2 : ls.length + 1 ≤ L.lp.c
  lt : g1 < w.heap.size
  c10 : w.cell? ⟨C.gF, x * 11 + 10, none⟩ = some (.slice (some ⟨g1, 0, none⟩) (ls.length + 1 : Nat) L.lp.c)
  k0 : w.cell? ⟨g1, ls.length * 2, none⟩ = some (.int .i64 (l0.base : Nat))
  k1 : w.cell? ⟨g1, ls.length * 2 + 1, none⟩ = some (.slice b0.1.a (l0.breaks.length : Nat) b0.1.c)
  fz : ∀ j, w.frozen? ⟨g1, j, none⟩ = false
  lp : LpOne w o C.gF x ls.length l0 b0
theorem FnAt.last (F : FnAt w o C c x xs L) {ls : List LpD} {l0 : LpD} (he : (c.fn x).loops = ls ++ [l0]) : ∃ bs b0 g1, LpLast w o C c x L ls l0 bs b0 g1 := by
  have c10 := F.cell 10 (by omega)
  have hbl : L.br.length = ls.length + 1 := by have := F.one.bl; rw [he] at this; simpa using this
  obtain ⟨bs, b0, hbe⟩ : ∃ bs b0, L.br = bs ++ [b0] := by
    rcases List.eq_nil_or_concat L.br with h | ⟨a, b, h⟩
    · rw [h] at hbl; simp at hbl
    · exact ⟨a, b, by simpa using h⟩
  have hbs : bs.length = ls.length := by rw [hbe] at hbl; simpa using hbl
  have hrow := F.one.lp
  have hlp := F.one.br ls.length l0 b0 (by rw [he]; simp) (by rw [hbe, List.getElem?_append_right (by omega), hbs]; simp)
  rw [he, hbe] at hrow
  simp only [fnV, List.getElem?_cons_succ, List.getElem?_cons_zero, Sl.v, he, List.length_append, List.length_singleton] at c10
  simp only [List.length_append, List.length_singleton] at hrow
  obtain ⟨g1, a1, a2, a3, a4, a5, a6⟩ := hrow.cells (by omega)
  have hz : ((ls ++ [l0]).zip (bs ++ [b0])) = ls.zip bs ++ [(l0, b0)] := by rw [List.zip_append hbs.symm]; rfl
  have hzl : (ls.zip bs).length = ls.length := by rw [List.length_zip, hbs]; omega
  have k0 : w.cell? ⟨g1, ls.length * 2, none⟩ = some (.int .i64 (l0.base : Nat)) := by
    rw [a5 _ (by omega), hz]
    have := flatMap_at lpV 2 lpV_len (ls.zip bs ++ [(l0, b0)]) ls.length 0 (l0, b0) (by rw [List.getElem?_append_right (by omega), hzl]; simp) (by omega)
    simpa [lpV] using this
  have k1 : w.cell? ⟨g1, ls.length * 2 + 1, none⟩ = some (.slice b0.1.a (l0.breaks.length : Nat) b0.1.c) := by
    rw [a5 _ (by omega), hz]
    have := flatMap_at lpV 2 lpV_len (ls.zip bs ++ [(l0, b0)]) ls.length 1 (l0, b0) (by rw [List.getElem?_append_right (by omega), hzl]; simp) (by omega)
    simpa [lpV] using this
  rw [a1] at c10
  exact ⟨bs, b0, g1, he, hbe, hbs, a1, a2, a4, c10, k0, k1, a6, hlp⟩
theorem brk_mem (F : FnAt w o C c x xs L) (R : CRep w o C N c) (hx : x < c.np) {ls : List LpD} {l0 : LpD} {bs : List (Sl × List (Nat × Nat))} {b0 : Sl × List (Nat × Nat)} {g1 : Nat} (K : LpLast w o C c x L ls l0 bs b0 g1) {p : Nat × Nat} {pos : Nat} (hp : Pat w o C.gF x p pos) (hfr : Fr (fun _ => False) w w1) {g' cap' : Nat}
    (q1 : w2.ownsRow 0 1 1 (.slice (some ⟨g', 0, none⟩) (l0.breaks.length + 1 : Nat) cap') (l0.breaks.length + 1) (b0.2.map patV ++ [patV p])) (q2 : Fr (fun k => (b0.1.v l0.breaks.length).ownBlock = some k) w1 w2) (q3 : (b0.1.v l0.breaks.length).ownBlock = some g' ∨ w.heap.size ≤ g') (q4 : g' < w2.heap.size) :
    (w2.cell? ⟨g1, ls.length * 2 + 1, none⟩ = some (.slice b0.1.a (l0.breaks.length : Nat) b0.1.c) ∧ g1 < w2.heap.size ∧ w2.frozen? ⟨g1, ls.length * 2 + 1, none⟩ = false) ∧
    ∃ o', CRep (w2.setCell ⟨g1, ls.length * 2 + 1, none⟩ (.slice (some ⟨g', 0, none⟩) (l0.breaks.length + 1 : Nat) cap')) o' C N (c.upd x fun d => { d with loops := d.loops.dropLast ++ [{ l0 with breaks := l0.breaks ++ [pos] }] }) ∧ Stp (QF1 x) w o (w2.setCell ⟨g1, ls.length * 2 + 1, none⟩ (.slice (some ⟨g', 0, none⟩) (l0.breaks.length + 1 : Nat) cap')) o' := by
  obtain ⟨r1, r2⟩ := K.lp.row.app hfr q1 q2 q3 q4
  have hrow := F.one.lp
  rw [K.he, K.hb] at hrow
  simp only [List.length_append, List.length_singleton] at hrow
  have hrow2 := hrow.st r2 (by unfold labF; omega)
  have hz : ((ls ++ [l0]).zip (bs ++ [b0])) = ls.zip bs ++ [(l0, b0)] := by rw [List.zip_append K.hs.symm]; rfl
  have hzl : (ls.zip bs).length = ls.length := by rw [List.length_zip, K.hs]; omega
  obtain ⟨g2, e1, e2, e3, e4, e5, e6⟩ := hrow2.cells (by omega)
  have eg : g2 = g1 := by rw [K.a1] at e1; cases e1; rfl
  subst eg
  have d1 : w2.cell? ⟨g2, ls.length * 2 + 1, none⟩ = some (.slice b0.1.a (l0.breaks.length : Nat) b0.1.c) := by
    rw [e5 _ (by omega), hz]
    have := flatMap_at lpV 2 lpV_len (ls.zip bs ++ [(l0, b0)]) ls.length 1 (l0, b0) (by rw [List.getElem?_append_right (by omega), hzl]; simp) (by omega)
    simpa [lpV] using this
  refine ⟨⟨d1, e4, e6 _⟩, ?_⟩
  have hset := flatMap_set lpV 2 lpV_len (ls.zip bs ++ [(l0, b0)]) ls.length 1 (l0, b0) ({ l0 with breaks := l0.breaks ++ [pos] }, (⟨some ⟨g', 0, none⟩, cap'⟩, b0.2 ++ [p])) (.slice (some ⟨g', 0, none⟩) (l0.breaks.length + 1 : Nat) cap') (by rw [List.getElem?_append_right (by omega), hzl]; simp) (by omega) (by simp [lpV, Sl.v])
  have hset2 : (ls.zip bs ++ [(l0, b0)]).set ls.length (({ l0 with breaks := l0.breaks ++ [pos] } : LpD), ((⟨some ⟨g', 0, none⟩, cap'⟩ : Sl), b0.2 ++ [p])) = (ls ++ [({ l0 with breaks := l0.breaks ++ [pos] } : LpD)]).zip (bs ++ [((⟨some ⟨g', 0, none⟩, cap'⟩ : Sl), b0.2 ++ [p])]) := by
    rw [List.set_append_right _ _ (by omega), hzl, Nat.sub_self, List.zip_append K.hs.symm]
    rfl
  rw [hset2] at hset
  rw [hz] at hrow2
  obtain ⟨t1, t2⟩ := hrow2.put e1 (ls.length * 2 + 1) (.slice (some ⟨g', 0, none⟩) (l0.breaks.length + 1 : Nat) cap') hset.symm
  have sA : Stp (fun k => k = labF x (7 + ls.length) ∨ k = labF x 6) w o _ (upd o g' (labF x (7 + ls.length))) := (r2.weaken (fun k h => .inl h)).trans (t2.weaken (fun k h => .inr h))
  have sF : Stp (QF1 x) w o _ (upd o g' (labF x (7 + ls.length))) := sA.weaken (fun k h => .inr (h.elim (fun h => ⟨_, h⟩) (fun h => ⟨_, h⟩)))
  refine ⟨_, ?_, sF⟩
  have hdl : (c.fn x).loops.dropLast = ls := by rw [K.he]; simp
  have hone : FnOne (w2.setCell ⟨g2, ls.length * 2 + 1, none⟩ (.slice (some ⟨g', 0, none⟩) (l0.breaks.length + 1 : Nat) cap')) (upd o g' (labF x (7 + ls.length))) C.gF x ({ c.fn x with loops := ls ++ [{ l0 with breaks := l0.breaks ++ [pos] }] }, { L with lp := L.lp, br := bs ++ [(⟨some ⟨g', 0, none⟩, cap'⟩, b0.2 ++ [p])] }) := by
    refine F.one.loops sA (fun j hj => by unfold labF; omega) (by simp only [List.length_append, List.length_singleton]; exact t1) (by simp [K.hs]) (fun i l b h1 h2 => ?_)
    by_cases hi : i < ls.length
    · rw [List.getElem?_append_left hi] at h1
      rw [List.getElem?_append_left (by have := K.hs; omega)] at h2
      exact (F.one.br i l b (by rw [K.he, List.getElem?_append_left hi]; exact h1) (by rw [K.hb, List.getElem?_append_left (by have := K.hs; omega)]; exact h2)).st sA (by unfold labF; omega) (by unfold labF; omega)
    · have hi2 := (List.getElem?_eq_some_iff.1 h1).1
      simp only [List.length_append, List.length_singleton] at hi2
      have hie : i = ls.length := by omega
      subst hie
      rw [List.getElem?_append_right (Nat.le_refl _), Nat.sub_self] at h1
      rw [List.getElem?_append_right (by have := K.hs; omega), K.hs, Nat.sub_self] at h2
      cases h1
      cases h2
      refine ⟨?_, fun j p' n' u1 u2 => ?_⟩
      · have := r1.st t2 (by unfold labF; omega)
        simp only [List.length_append, List.length_singleton, List.map_append, List.map_cons, List.map_nil]
        exact this
      · have hbl2 : b0.2.length = l0.breaks.length := by
          have := K.lp.row.len
          simpa using this
        by_cases hj : j < l0.breaks.length
        · simp only at u1 u2
          rw [List.getElem?_append_left (by omega)] at u1
          rw [List.getElem?_append_left hj] at u2
          exact (K.lp.pat j p' n' u1 u2).st sA (by unfold labF; omega)
        · have hj2 := (List.getElem?_eq_some_iff.1 u2).1
          simp only [List.length_append, List.length_singleton] at hj2 u1 u2
          have hje : j = l0.breaks.length := by omega
          subst hje
          rw [List.getElem?_append_right (by omega), hbl2, Nat.sub_self] at u1
          rw [List.getElem?_append_right (Nat.le_refl _), Nat.sub_self] at u2
          cases u1
          cases u2
          exact hp.st sA (by unfold labF; omega)
  have hh : Has (w2.setCell ⟨g2, ls.length * 2 + 1, none⟩ (.slice (some ⟨g', 0, none⟩) (l0.breaks.length + 1 : Nat) cap')) C.gF ((xs.set x ({ c.fn x with loops := ls ++ [{ l0 with breaks := l0.breaks ++ [pos] }] }, { L with lp := L.lp, br := bs ++ [(⟨some ⟨g', 0, none⟩, cap'⟩, b0.2 ++ [p])] })).flatMap (fnV C.gF)).toArray 102 := by
    rw [setf_same (fnV C.gF) xs x (c.fn x, L) _ F.at_ (by simp [fnV, K.he])]
    exact (F.rep.here.st sA (by unfold labF; omega)).has
  have := F.set (u := fun d => { d with loops := d.loops.dropLast ++ [{ l0 with breaks := l0.breaks ++ [pos] }] }) (l' := { L with lp := L.lp, br := bs ++ [(⟨some ⟨g', 0, none⟩, cap'⟩, b0.2 ++ [p])] }) R hx sF (by rw [hdl]; exact hh) (by rw [hdl]; exact hone) F.ok
  exact this
end
end Go.Proofs.Qxb6500574aGreatDoor
