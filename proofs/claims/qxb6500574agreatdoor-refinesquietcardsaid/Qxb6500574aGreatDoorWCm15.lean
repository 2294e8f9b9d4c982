/-
  THE WALK of comp: the state at a place, with what room is left (CB); each small function as a step of it.
-/
import Derived.Test.Qxb6500574aGreatDoorWCm14
import Derived.Test.Qxb6500574aGreatDoorWCo11
namespace Go.Proofs.Qxb6500574aGreatDoor
open Go Go.RowKit
set_option linter.unusedVariables false
set_option linter.unusedSimpArgs false
open Go.Lib
/-- within function f, whose locals alive are L, within r; the functions up to a stand; p instructions and k constants more find room -/
structure CB (w : World) (o : Nat → Nat) (C : CC) (N : List Nd) (f : Nat) (L : List Bs) (r : En) (a p k : Nat) (c : CmD) : Prop where
  R : CRep w o C N c
  I : Inv c ((f, L) :: r)
  fa : f ≤ a
  np : c.np = a + 1
  pc : (c.fn f).code.length + p ≤ 65000
  kc : (c.fn f).consts.length + k ≤ 65000
/-- a step's end -/
def CT (w : World) (o : Nat → Nat) (C : CC) (N : List Nd) (f : Nat) (L : List Bs) (r : En) (a p k : Nat) (c : CmD) (e : Ending) (w' : World) : Prop := e = .returned (.tuple #[]) ∧ ∃ o', CB w' o' C N f L r a p k c ∧ Stp QC w o w' o'
section
variable {w w1 : World} {o o1 : Nat → Nat} {C : CC} {N : List Nd} {c c' : CmD} {f a b p k : Nat} {L L' : List Bs} {r : En}
theorem CB.hf (h : CB w o C N f L r a p k c) : f < c.np := by have := h.np; have := h.fa; omega
theorem CB.fresh (h : CB w o C N f L r a p k c) (hf : Fr (fun _ => False) w w1) : CB w1 o C N f L r a p k c := ⟨h.R.fresh hf, h.I, h.fa, h.np, h.pc, h.kc⟩
theorem CB.alloc (h : CB w o C N f L r a p k c) (b : Obj) : CB (w.alloc b) o C N f L r a p k c := h.fresh ((Fr.refl _ _).alloc b)
/-- less room -/
theorem CB.le (h : CB w o C N f L r a p k c) {p' k' : Nat} (hp : p' ≤ p) (hk : k' ≤ k) : CB w o C N f L r a p' k' c := ⟨h.R, h.I, h.fa, h.np, by have := h.pc; omega, by have := h.kc; omega⟩
theorem CB.go (h : CB w o C N f L r a p k c) {kc d p' k' : Nat} (P : Po f L L' r a b c c' kc) (hc : (c'.fn f).code.length ≤ (c.fn f).code.length + d) (hd : d + p' ≤ p) (hk : kc + k' ≤ k) (R : CRep w1 o1 C N c') : CB w1 o1 C N f L' r b p' k' c' :=
  ⟨R, P.iv, Nat.le_trans h.fa P.gr.ab, P.gr.np h.np, by have := h.pc; omega, by have := h.kc; have := P.cn; omega⟩
theorem CB.qs {x : Nat} (h : Stp (QF1 x) w o w1 o1) : Stp QC w o w1 o1 := h.weaken (fun _ h => h.qc)
theorem CB.emit (h : CB w o C N f L r a p k c) (l : List In) {kb m cap : Nat} (hb : Has w kb (l.flatMap iCells).toArray 105) (hm : l.length = m) (hp : 0 < m) (hl : m ≤ p) :
    Calls Tryz.prog 65 #[fptr C.gF f, .slice (some ⟨kb, 0, none⟩) m cap] w (CT w o C N f L r a (p - m) k (c.emit f l)) := by
  have hpc := h.pc
  refine (emit_any h.R h.hf l hb hm hp (by omega)).mono ?_
  rintro e w' ⟨rfl, o', R', S'⟩
  exact ⟨rfl, o', h.go (d := m) (Po.emit a h.I l) (by rw [(emit_code h.I l).1, List.length_append, hm]; exact Nat.le_refl _) (by omega) (by omega) R', CB.qs S'⟩
theorem CB.emitK (h : CB w o C N f L r a p k c) {op y kb : Nat} {x z : Int} (ha : x = op) (hb : z = y) (hk : kb = w.heap.size) (hl : 1 ≤ p) :
    Calls Tryz.prog 65 #[fptr C.gF f, .slice (some ⟨kb, 0, none⟩) 1 1] (w.alloc (.cells #[.int .u8 x, .int .u16 z] 105)) (CT w o C N f L r a (p - 1) k (c.emit f [(op, y)])) := by
  have hpc := h.pc
  refine (_root_.Go.Proofs.Qxb6500574aGreatDoor.emitK h.R h.hf ha hb (by omega) hk).mono ?_
  rintro e w' ⟨rfl, o', R', S'⟩
  exact ⟨rfl, o', h.go (d := 1) (Po.emit a h.I _) (by rw [(emit_code h.I _).1, List.length_append]; exact Nat.le_refl _) (by omega) (by omega) R', CB.qs S'⟩
theorem CB.bind (h : CB w o C N f L r a p k c) (s : Bs) (hL : L.length + 1 ≤ 12) (hl : 1 ≤ p) : Calls Tryz.prog 166 #[fptr C.gF f, sv s] w (CT w o C N f (L ++ [s]) r a (p - 1) k (c.bind f s)) := by
  have hpc := h.pc
  refine (bind_any h.R h.hf s (by rw [h.I.loc]; omega) (by omega)).mono ?_
  rintro e w' ⟨rfl, o', R', S'⟩
  obtain ⟨p1, p2, _⟩ := Po.bind a h.I s hL
  exact ⟨rfl, o', h.go (d := 1) p1 (by rw [p2, List.length_append]; exact Nat.le_refl _) (by omega) (by omega) R', CB.qs S'⟩
theorem CB.declare (h : CB w o C N f L r a p k c) (s : Bs) (hL : L.length + 1 ≤ 12) : Calls Tryz.prog 168 #[fptr C.gF f, sv s] w fun e w' => e = .returned (.int .i64 L.length) ∧ ∃ o', CB w' o' C N f (L ++ [s]) r a p k (c.declare f s) ∧ Stp QC w o w' o' := by
  refine (declare_any h.R h.hf s (by rw [h.I.loc]; omega)).mono ?_
  rintro e w' ⟨rfl, o', R', S'⟩
  exact ⟨by rw [h.I.loc], o', h.go (d := 0) (Po.declare a h.I s hL) (by rw [(declare_code h.I s).1]; exact Nat.le_refl _) (by omega) (by omega) R', CB.qs S'⟩
theorem CB.leave (h : CB w o C N f L r a p k c) (base : Nat) (hb : base < 65536) (hl : 1 ≤ p) : Calls Tryz.prog 100 #[fptr C.gF f, .int .i64 base] w (CT w o C N f (L.take base) r a (p - 1) k (c.leave f base)) := by
  have hpc := h.pc
  refine (leave_any h.R h.hf base hb (by omega)).mono ?_
  rintro e w' ⟨rfl, o', R', S'⟩
  obtain ⟨p1, p2, _⟩ := Po.leave a h.I base
  exact ⟨rfl, o', h.go (d := 1) p1 (by rw [p2, List.length_append]; split <;> simp) (by omega) (by omega) R', CB.qs S'⟩
theorem CB.jump (h : CB w o C N f L r a p k c) (op : Nat) (hl : 1 ≤ p) : Calls Tryz.prog 174 #[fptr C.gF f, .int .u8 op] w fun e w' => ∃ b1 b2 o', e = .returned (patV (b1, b2)) ∧ CB w' o' C N f L r a (p - 1) k (c.jump f op) ∧ Stp QC w o w' o' ∧ Pat w' o' C.gF f (b1, b2) (c.fn f).code.length := by
  have hpc := h.pc
  refine (jump_any h.R h.hf op (by omega)).mono ?_
  rintro e w' ⟨b1, b2, o', rfl, R', S', P'⟩
  obtain ⟨p1, p2, _⟩ := Po.jump (a := a) h.I op
  exact ⟨b1, b2, o', rfl, h.go (d := 1) p1 (by rw [p2, List.length_append]; exact Nat.le_refl _) (by omega) (by omega) R', CB.qs S', P'⟩
theorem CB.land (h : CB w o C N f L r a p k c) {b1 b2 q : Nat} (hp : Pat w o C.gF f (b1, b2) q) (hl : q < (c.fn f).code.length) : Calls Tryz.prog 240 #[.pointer (some ⟨b1, 0, none⟩), .pointer (some ⟨b2, 0, none⟩)] w (CT w o C N f L r a p k (c.land f q)) := by
  have hpc := h.pc
  refine (land_any h.R h.hf hp hl (by omega)).mono ?_
  rintro e w' ⟨rfl, R', S'⟩
  exact ⟨rfl, o, h.go (d := 0) (Po.land a h.I q) (by rw [(land_code h.I q).1, landL_len]; exact Nat.le_refl _) (by omega) (by omega) R', S'.weaken (fun _ e => by unfold QC; unfold labF at e; omega)⟩
theorem CB.open (h : CB w o C N f L r a p k c) (base : Nat) (hl : (c.fn f).loops.length ≤ 1000) : Calls Tryz.prog 238 #[fptr C.gF f, .int .i64 base] w (CT w o C N f L r a p k (c.open_ f base)) := by
  refine (open_any h.R h.hf base hl).mono ?_
  rintro e w' ⟨rfl, o', R', S'⟩
  exact ⟨rfl, o', h.go (d := 0) (Po.open_ a h.I base) (by rw [(open_code h.I base).1]; exact Nat.le_refl _) (by omega) (by omega) R', CB.qs S'⟩
theorem shut_len {x : Nat} : ∀ (hs : List Nat) (l : List In), (hs.foldl (fun l p => landL l p x) l).length = l.length := by
  intro hs
  induction hs with
  | nil => intro l; rfl
  | cons y hs ih => intro l; rw [List.foldl_cons, ih, landL_len]
theorem CB.shut (h : CB w o C N f L r a p k c) {ls : List LpD} {l0 : LpD} (he : (c.fn f).loops = ls ++ [l0]) (hbk : ∀ q ∈ l0.breaks, q < (c.fn f).code.length) (hm : ls.length ≤ 1000) (hq : l0.breaks.length ≤ 100000) : Calls Tryz.prog 239 #[fptr C.gF f] w (CT w o C N f L r a p k (c.shut f)) := by
  have hpc := h.pc
  refine (shut_any h.R h.hf he hbk (by omega) hm hq).mono ?_
  rintro e w' ⟨rfl, o', R', S'⟩
  obtain ⟨p1, p2, _⟩ := Po.shut a h.I
  exact ⟨rfl, o', h.go (d := 0) p1 (by rw [p2, shut_len]; exact Nat.le_refl _) (by omega) (by omega) R', CB.qs S'⟩
theorem CB.number (h : CB w o C N f L r a p k c) (n : Nat) (hv : (numV n).ok) (hl : 1 ≤ k) : Calls Tryz.prog 231 #[fptr C.gF f, nk n] w fun e w' => e = .returned (.int .u16 ((c.const f (numV n)).2 : Nat)) ∧ ∃ o', CB w' o' C N f L r a p (k - 1) (c.const f (numV n)).1 ∧ Stp QC w o w' o' := by
  have hkc := h.kc
  refine (cnumber_any h.R h.hf n h.I.2.2.2.1.ok (by omega)).mono ?_
  rintro e w' ⟨rfl, o', R', S'⟩
  obtain ⟨p1, p2, _⟩ := Po.const a h.I (numV n) hv (by omega)
  exact ⟨rfl, o', h.go (d := 0) p1 (by rw [p2]; exact Nat.le_refl _) (by omega) (by omega) R', CB.qs S'⟩
theorem CB.text (h : CB w o C N f L r a p k c) (s : Bs) (hv : (strV s).ok) (hl : 1 ≤ k) : Calls Tryz.prog 232 #[fptr C.gF f, sk s] w fun e w' => e = .returned (.int .u16 ((c.const f (strV s)).2 : Nat)) ∧ ∃ o', CB w' o' C N f L r a p (k - 1) (c.const f (strV s)).1 ∧ Stp QC w o w' o' := by
  have hkc := h.kc
  refine (ctext_any h.R h.hf s h.I.2.2.2.1.ok (by omega)).mono ?_
  rintro e w' ⟨rfl, o', R', S'⟩
  obtain ⟨p1, p2, _⟩ := Po.const a h.I (strV s) hv (by omega)
  exact ⟨rfl, o', h.go (d := 0) p1 (by rw [p2]; exact Nat.le_refl _) (by omega) (by omega) R', CB.qs S'⟩
theorem CB.variable (h : CB w o C N f L r a p k c) {s : Bs} (hs : nmOk s) (lo up gl : Nat) (h21 : lo ≠ 21 ∧ up ≠ 21 ∧ gl ≠ 21) (hl : 1 ≤ p) (hk : 1 ≤ k) : Calls Tryz.prog 233 #[fptr C.gF f, sv s, .int .u8 lo, .int .u8 up, .int .u8 gl] w (CT w o C N f L r a (p - 1) (k - 1) (c.variable f s lo up gl)) := by
  have hpc := h.pc
  have hkc := h.kc
  refine (variable_any (by intro e; subst e; exact absurd hs.1 (by simp)) h.I h.R h.hf lo up gl (by omega) (by omega)).mono ?_
  rintro e w' ⟨rfl, o', R', S'⟩
  obtain ⟨i, p1, p2, _⟩ := Po.variable (a := a) h.I hs lo up gl h.fa (by omega) h21
  exact ⟨rfl, o', h.go (d := 1) p1 (by rw [p2, List.length_append]; exact Nat.le_refl _) (by omega) (by omega) R', S'⟩
end
/-- the loops that are open: few, and few breaks in each -/
structure LpB (lo : Nat) (l : List LpD) : Prop where
  n : l.length ≤ lo
  b : ∀ x ∈ l, x.breaks.length ≤ 20 * lo
theorem LpB.le {lo lo' : Nat} {l : List LpD} (h : LpB lo l) (hl : lo ≤ lo') : LpB lo' l := ⟨by have := h.n; omega, fun x hx => by have := h.b x hx; omega⟩
theorem LpB.open {lo lo' m : Nat} {l : List LpD} (h : LpB lo l) (hl : lo + 1 ≤ lo') : LpB lo' (l ++ [⟨m, []⟩]) := ⟨by have := h.n; simp; omega, fun x hx => by
  rcases List.mem_append.1 hx with hx | hx
  · have := h.b x hx; omega
  · rw [List.mem_singleton.1 hx]; simp⟩
theorem LpB.add {lo lo' : Nat} {l : List LpD} (h : LpB lo l) {hs : List Nat} (hl : lo ≤ lo') (hb : hs.length + 20 * lo ≤ 20 * lo') : LpB lo' (addB l hs) := by
  rcases snoc_ex l with rfl | ⟨l', y, rfl⟩
  · exact ⟨by simp [addB], fun x hx => by simp [addB] at hx⟩
  · rw [addB_snoc]
    have hn := h.n
    simp only [List.length_append, List.length_singleton] at hn
    refine ⟨by simp; omega, fun x hx => ?_⟩
    rcases List.mem_append.1 hx with hx | hx
    · have := h.b x (by simp [hx]); omega
    · have := h.b y (by simp)
      rw [List.mem_singleton.1 hx]
      simp
      omega
theorem LpB.nil (lo : Nat) : LpB lo [] := ⟨by simp, fun x hx => by cases hx⟩
/-- what the walk of the tasks says, k steps deep -/
structure CW (N : List Nd) (C : CC) (k : Nat) : Prop where
  ex : ∀ (w : World) (o : Nat → Nat) f L r lo a b n x c, Sh N 1 n lo a b x 0 0 false → CB w o C N f L r a (17 * (n - lo)) (n - lo) c → 2 * n + 2 ≤ k → Calls Tryz.prog 165 #[fptr C.gF f, .int .i64 n] w (CQ w o C N (comN N k 1 f n c))
  ca : ∀ (w : World) (o : Nat → Nat) f L r lo a b n x c, Sh N 1 n lo a b x 0 0 false → (N.getD n nd0).k = 19 → CB w o C N f L r a (17 * (n - lo)) (n - lo) c → 2 * n + 1 ≤ k → Calls Tryz.prog 167 #[fptr C.gF f, .int .i64 n] w (CQ w o C N (comN N k 2 f n c))
  st : ∀ (w : World) (o : Nat → Nat) f L r lo a b n al' lp lb c, Sh N 0 n lo a b 120 L.length al' lp → CB w o C N f L r a (17 * (n - lo)) (n - lo) c → LpI lp lb L (c.fn f).loops → LpB lo (c.fn f).loops → 2 * n + 2 ≤ k → Calls Tryz.prog 102 #[fptr C.gF f, .int .i64 n] w (CQ w o C N (comN N k 0 f n c))
  bl : ∀ (w : World) (o : Nat → Nat) f L r lo hi a b n l al' lp lb c, Chain N n l → SeqS (fun x lo a b al al' => Sh N 0 x lo a b 120 al al' lp) l lo hi a b L.length al' → hi < N.length → CB w o C N f L r a (17 * (hi - lo) + 1) (hi - lo) c → LpI lp lb L (c.fn f).loops → LpB lo (c.fn f).loops → 2 * hi + 3 ≤ k → Calls Tryz.prog 64 #[fptr C.gF f, .int .i64 n] w (CQ w o C N (comN N k 3 f n c))
section
variable {w : World} {o : Nat → Nat} {C : CC} {N : List Nd} {c : CmD} {f a b n lo hi x p q k : Nat} {L : List Bs} {r : En}
theorem CB.pre (h : CB w o C N f L r a p q c) {m : Nat} (hp : 17 * m ≤ p) (hq : m ≤ q) : Pre f L r a m c := ⟨h.I, h.fa, by have := h.pc; omega, by have := h.kc; omega⟩
/-- an expression: what it leaves in plain words -/
theorem CB.exP (A : CA N k) (h : CB w o C N f L r a p q c) (hs : Sh N 1 n lo a b x 0 0 false) (hp : 17 * (n - lo) ≤ p) (hq : n - lo ≤ q) (hk : 2 * n + 2 ≤ k) : ∃ seg kc, Po f L L r a b c (comN N k 1 f n c) kc ∧ kc ≤ n - lo ∧ ((comN N k 1 f n c).fn f).code = (c.fn f).code ++ seg ∧ ((comN N k 1 f n c).fn f).loops = (c.fn f).loops ∧ seg.length ≤ 17 * (n - lo) := by
  obtain ⟨seg, kc, p1, p2, p3, p4, _, p5, _⟩ := A.ex f L r lo a b n x c hs (h.pre hp hq) hk
  exact ⟨seg, kc, p1, p2, p3, p4, by omega⟩
theorem CB.ex (A : CA N k) (W : CW N C k) (h : CB w o C N f L r a p q c) (hs : Sh N 1 n lo a b x 0 0 false) (hp : 17 * (n - lo) ≤ p) (hq : n - lo ≤ q) (hk : 2 * n + 2 ≤ k) : Calls Tryz.prog 165 #[fptr C.gF f, .int .i64 n] w (CT w o C N f L r b (p - 17 * (n - lo)) (q - (n - lo)) (comN N k 1 f n c)) := by
  refine (W.ex w o f L r lo a b n x c hs (h.le hp hq) hk).mono ?_
  rintro e w' ⟨rfl, o', R', S'⟩
  obtain ⟨seg, kc, p1, p2, p3, _, p5⟩ := h.exP A hs hp hq hk
  exact ⟨rfl, o', h.go (d := seg.length) p1 (by rw [p3, List.length_append]; exact Nat.le_refl _) (by omega) (by omega) R', S'⟩
theorem CB.ca (A : CA N k) (W : CW N C k) (h : CB w o C N f L r a p q c) (hs : Sh N 1 n lo a b x 0 0 false) (h19 : (N.getD n nd0).k = 19) (hp : 17 * (n - lo) ≤ p) (hq : n - lo ≤ q) (hk : 2 * n + 1 ≤ k) : Calls Tryz.prog 167 #[fptr C.gF f, .int .i64 n] w (CT w o C N f L r b (p - 3 * (n - lo)) (q - (n - lo)) (comN N k 2 f n c)) := by
  refine (W.ca w o f L r lo a b n x c hs h19 (h.le hp hq) hk).mono ?_
  rintro e w' ⟨rfl, o', R', S'⟩
  obtain ⟨seg, kc, p1, p2, p3, _, _, p5, _⟩ := A.ca f L r lo a b n x c hs h19 (h.pre hp hq) hk
  exact ⟨rfl, o', h.go (d := seg.length) p1 (by rw [p3, List.length_append]; exact Nat.le_refl _) (by omega) (by omega) R', S'⟩
theorem CB.blP (A : CA N k) {l : List Nat} {al' lb : Nat} {lp : Bool} (h : CB w o C N f L r a p q c) (hc : Chain N n l) (hs : SeqS (fun x lo a b al al' => Sh N 0 x lo a b 120 al al' lp) l lo hi a b L.length al') (hN : hi < N.length) (hL : LpI lp lb L (c.fn f).loops) (hp : 17 * (hi - lo) + 1 ≤ p) (hq : hi - lo ≤ q) (hk : 2 * hi + 3 ≤ k) :
    ∃ seg kc, Po f L L r a b c (comN N k 3 f n c) kc ∧ kc ≤ hi - lo ∧ ((comN N k 3 f n c).fn f).code = (c.fn f).code ++ seg ∧ ((comN N k 3 f n c).fn f).loops = addB (c.fn f).loops (holes (c.fn f).code.length seg) ∧ seg.length ≤ 17 * (hi - lo) + 1 := by
  obtain ⟨seg, L', kc, p1, p2, p3, p4, p5, p6, _, p7, _⟩ := A.bl f L r lo hi a b n l al' lp lb c hc hs hN (h.pre (by omega) hq) hL hk
  have e : L' = L := (p3.eq_of_length p4.symm).symm
  subst e
  simp only [if_true] at p7
  exact ⟨seg, kc, p1, p2, p5, p6, by omega⟩
theorem CB.bl (A : CA N k) (W : CW N C k) {l : List Nat} {al' lb : Nat} {lp : Bool} (h : CB w o C N f L r a p q c) (hc : Chain N n l) (hs : SeqS (fun x lo a b al al' => Sh N 0 x lo a b 120 al al' lp) l lo hi a b L.length al') (hN : hi < N.length) (hL : LpI lp lb L (c.fn f).loops) (hll : LpB lo (c.fn f).loops) (hp : 17 * (hi - lo) + 1 ≤ p) (hq : hi - lo ≤ q) (hk : 2 * hi + 3 ≤ k) :
    Calls Tryz.prog 64 #[fptr C.gF f, .int .i64 n] w (CT w o C N f L r b (p - (17 * (hi - lo) + 1)) (q - (hi - lo)) (comN N k 3 f n c)) := by
  refine (W.bl w o f L r lo hi a b n l al' lp lb c hc hs hN (h.le hp hq) hL hll hk).mono ?_
  rintro e w' ⟨rfl, o', R', S'⟩
  obtain ⟨seg, kc, p1, p2, p3, _, p5⟩ := h.blP A hc hs hN hL hp hq hk
  exact ⟨rfl, o', h.go (d := seg.length) p1 (by rw [p3, List.length_append]; exact Nat.le_refl _) (by omega) (by omega) R', S'⟩
end
end Go.Proofs.Qxb6500574aGreatDoor
