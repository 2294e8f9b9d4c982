/-
  THE WALK of the parser layer: flat.go: the state of expr and stmt.
-/
import Derived.Test.Qxb6500574aGreatDoorWFl2
import Derived.Test.Qxb6500574aGreatDoorWTa2
namespace Go.Proofs.Qxb6500574aGreatDoor
open Go Go.RowKit
set_option linter.unusedVariables false
set_option linter.unusedSimpArgs false
open Go.Lib
/-- amid expr or stmt: w: where it began; W: now; A: the arena; nb: the block of the node under way -/
structure FSt (w : World) (o : Nat → Nat) (sb : Nat) (nm tk : Value) (W : World) (oW : Nat → Nat) (A : List Nd) (nb : Nat) (cs : Array Value) : Prop where
  st : Stp QF w o W oW
  f : ∃ sn, FRep W oW sb nm tk sn A
  b : Has W nb cs 134
  lb : oW nb = 0
  hz : w.heap.size ≤ nb
section
variable {w W w2 : World} {o oW o2 : Nat → Nat} {sb : Nat} {nm tk : Value} {sn : Sl} {A A2 N : List Nd} {nb : Nat} {cs : Array Value} {P : Nat → Prop} {lo hi n f mx : Nat} {v V : Value} {ms : List Mb} {m : Bks}
theorem FSt.start (F : FRep w o sb nm tk sn A) (cs : Array Value) : FSt w o sb nm tk (w.alloc (.cells cs 134)) o A w.heap.size cs :=
  ⟨(Stp.refl _ _ _).alloc _, ⟨sn, F.alloc _⟩, Has.new _ _ _, F.ow _ (Nat.le_refl _), Nat.le_refl _⟩
theorem FSt.put (h : FSt w o sb nm tk W oW A nb cs) (i : Nat) (u : Value) {cs' : Array Value} (e : cs.setIfInBounds i u = cs') : FSt w o sb nm tk (W.setCell ⟨nb, i, none⟩ u) oW A nb cs' := by
  subst e
  obtain ⟨sn, F⟩ := h.f
  exact ⟨h.st.own (p := ⟨nb, i, none⟩) h.hz u, ⟨sn, F.st (Q := fun l => l = 0) ((Stp.refl _ W oW).setCell (p := ⟨nb, i, none⟩) h.lb u) (by decide) (by decide)⟩, h.b.put i u, h.lb, h.hz⟩
theorem FSt.call (h : FSt w o sb nm tk W oW A nb cs) {sn' : Sl} (F : FRep w2 o2 sb nm tk sn' A2) (t : Stp QF W oW w2 o2) : FSt w o sb nm tk w2 o2 A2 nb cs :=
  ⟨h.st.trans t, ⟨sn', F⟩, t.has h.b (by rw [h.lb]; unfold QF; omega), (t.ext nb h.b.lt).trans h.lb, h.hz⟩
def ExC (N : List Nd) (mx : Nat) : Prop := ∀ {w o sb nm tk sn A lo n v} {P : Nat → Prop}, TrA w P N lo n v → (GoodE N n ∨ (N.getD n nd0).k = 17) → (∀ k, P k → k < w.heap.size ∧ o k = 0) → n < mx → FRep w o sb nm tk sn A → A.length = lo + 1 → Calls Tryz.prog 164 #[.pointer (some ⟨sb, 0, none⟩), v] w (LayQ w o sb nm tk A N lo n)
def StC (N : List Nd) (mx : Nat) : Prop := ∀ {w o sb nm tk sn A lo n v} {P : Nat → Prop}, TrA w P N lo n v → GoodS N n → (∀ k, P k → k < w.heap.size ∧ o k = 0) → n < mx → FRep w o sb nm tk sn A → A.length = lo + 1 → Calls Tryz.prog 163 #[.pointer (some ⟨sb, 0, none⟩), v] w (LayQ w o sb nm tk A N lo n)
theorem qf0 : ¬ QF 0 := by unfold QF; omega
/-- expr of a child -/
theorem FSt.ex (h : FSt w o sb nm tk W oW A nb cs) (C : ExC N mx) (t : TrA w P N lo n v) (hg : GoodE N n ∨ (N.getD n nd0).k = 17) (hP : ∀ k, P k → k < w.heap.size ∧ o k = 0) (hn : n < mx) (hA : A.length = lo + 1) (hz : (N.getD n nd0).next = 0) :
    Calls Tryz.prog 164 #[.pointer (some ⟨sb, 0, none⟩), v] W fun e w' => e = .returned (.int .i64 (n : Nat)) ∧ ∃ o', FSt w o sb nm tk w' o' (A ++ fulN N lo n) nb cs := by
  obtain ⟨sn, F⟩ := h.f
  refine (C (t.st hP h.st qf0) hg (pst hP h.st) hn F hA).mono ?_
  rintro e w' ⟨rfl, o', sn', q1, q2⟩
  rw [seg_ful hz] at q1
  exact ⟨rfl, o', h.call q1 q2⟩
/-- chain of a list -/
theorem FSt.ch (h : FSt w o sb nm tk W oW A nb cs) (C : LayC N mx) (hN : N.length ≤ 3000) (hL : Lst N lo hi f ms) (hT : ∀ x ∈ ms, TrA w P N x.1 x.2.1 x.2.2) (hO : ∀ x ∈ ms, Ok3 N x.2.1) (hx : hi < mx) (hV : SlM ms V m) (hM : Mm w P m) (hP : ∀ k, P k → k < w.heap.size ∧ o k = 0) (hA : A.length = lo + 1) :
    Calls Tryz.prog 63 #[.pointer (some ⟨sb, 0, none⟩), V] W fun e w' => e = .returned (.int .i64 (f : Nat)) ∧ ∃ o', FSt w o sb nm tk w' o' (A ++ fulN N lo hi) nb cs := by
  obtain ⟨sn, F⟩ := h.f
  refine (chain_any C hN hL (fun x hx => (hT x hx).st hP h.st qf0) hO hx hV (hM.st hP h.st qf0) (pst hP h.st) F hA).mono ?_
  rintro e w' ⟨rfl, o', sn', q1, q2⟩
  exact ⟨rfl, o', h.call q1 q2⟩
/-- the node is added -/
theorem FSt.add (h : FSt w o sb nm tk W oW A nb cs) {m : Nat} (hm : A.length = m) (hl : m ≤ 5000) (d : Nd) : Calls Tryz.prog 230 #[.pointer (some ⟨sb, 0, none⟩), .agg (ndV d).toArray] W fun e w' => e = .returned (.int .i64 (m : Nat)) ∧ ∃ o' sn', FRep w' o' sb nm tk sn' (A ++ [d]) ∧ Stp QF w o w' o' := by
  subst hm
  obtain ⟨sn, F⟩ := h.f
  refine (add_any F hl d).mono ?_
  rintro e w' ⟨rfl, o', sn', q1, q2⟩
  exact ⟨rfl, o', sn', q1, h.st.trans q2⟩
/-- a block of the tree, now -/
theorem FSt.has (h : FSt w o sb nm tk W oW A nb cs) (hP : ∀ k, P k → k < w.heap.size ∧ o k = 0) {b : Nat} {cs' : Array Value} {T : TypeId} (hb : P b ∧ Has w b cs' T) : Has W b cs' T := h.st.has hb.2 (by rw [(hP b hb.1).2]; exact qf0)
/-- the end -/
theorem LayQ.fin {w' : World} {o' : Nat → Nat} {sn' : Sl} {A0 : List Nd} {d : Nd} (hA : A0.length = lo + 1) (hlo : lo ≤ n) (hd : (N.getD (n + 1) nd0).cut = d) (F : FRep w' o' sb nm tk sn' (A0 ++ fulN N lo n ++ [d])) (t : Stp QF w o w' o') : LayQ w o sb nm tk A0 N lo (n + 1) (.returned (.int .i64 ((n + 1 : Nat) : Int))) w' := by
  refine ⟨rfl, o', sn', ?_, t⟩
  rw [← ful_root hd hlo, ← List.append_assoc]
  exact F
end
end Go.Proofs.Qxb6500574aGreatDoor
