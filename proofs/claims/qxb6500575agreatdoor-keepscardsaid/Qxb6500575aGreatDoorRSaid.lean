/-
  What a call says: plain, out of CallPost.
-/
import Derived.Test.Qxb6500575aGreatDoorRSound
import Derived.Test.Qxb6500575aGreatDoorTellE
namespace Go.Proofs.Qxb6500575aGreatDoor
open Go Go.RowKit
set_option linter.unusedVariables false
set_option linter.unusedSimpArgs false

def Said (P : ProgD) (f fuel : Int) (args : List BV) (d d' : KD) (n n' hi' er us len : Int) (str : List UInt8) : Prop :=
  (owedP P f args ≠ 0 ∧ er = owedP P f args ∧ us = 0 ∧ len = 0 ∧ str = [124] ∧ hi' = 0 ∧ n' = n ∧ d' = d) ∨
  (owedP P f args = 0 ∧ ((((P.sig f).1.params.length + (P.sig f).1.locals.length : Nat) : Int) ≤ hi' ∧ hi' ≤ 124) ∧ (fuel ≤ 0 → d' = d) ∧ (0 ≤ us ∧ (us = 0 ∨ us ≤ fuel)) ∧
    ((er = 0 ∧ len = (P.sig f).1.results.length ∧ (∀ t l, (P.sig f).1.results = t :: l → ∃ r, str = t :: r) ∧ (fuel ≤ 0 → str = [124]) ∧ (((P.sig f).1.results.length + ((P.sig f).1.params.length + (P.sig f).1.locals.length) : Nat) : Int) ≤ hi') ∨
     (11 ≤ er ∧ er ≤ 17 ∧ len = 0 ∧ (fuel ≤ 0 → er = 17 ∧ str = [124]))))
theorem sig_small {p : ProgD} {T : Nat → Typing} (h : ProgT p T) (f : Int) : (p.sig f).1.params.length ≤ 3 ∧ (p.sig f).1.results.length ≤ 1 ∧ (p.sig f).1.locals.length ≤ 4 ∧ TyL (p.sig f).1.params := by
  unfold ProgD.sig
  split
  · exact ⟨by simp, by simp, by simp, fun _ h => by cases h⟩
  split
  · exact ⟨by simp, by simp, by simp, fun _ h => by cases h⟩
  · rename_i u hu
    have := h.ps u (List.mem_of_getElem? hu)
    exact ⟨this.1, this.2.1, this.2.2.1, this.2.2.2.1⟩
/-- a call, as Do sees it -/
def CallSaid (R : RP TapeD) (n : Int) (d : KD) (f : Int) (args : List BV) (fuel : Int) (e : Ending) (w' : World) : Prop :=
  ∃ L' K' hi n' d' s' va vc bs us er ev, RunW R w' L' K' ⟨[], [], 0, hi⟩ n' d' s' ∧ e = .returned (.tuple #[.slice va bs.length vc, .int .i64 us, ev]) ∧ w'.ownsRow 0 70 2 (.slice va bs.length vc) bs.length (bvCells bs) ∧ bs.length ≤ 3 ∧
    (∀ W, GlobOk W → Calls Tryz.prog 34 #[ev] W fun e w'' => e = .returned (.int .i64 er) ∧ Fr (fun _ => False) W w'') ∧ Said R.P f fuel args d d' n n' hi er us bs.length (valsT bs ++ 124 :: s'.trace)
theorem call_said {R : RP TapeD} {T : Nat → Typing} (pt : ProgT R.P T) {K : KL} {n : Int} {d : KD} {t : List UInt8} {f fuel : Int} {args : List BV} {e : Ending} {w' : World} (h : CallPost R K n d (tape0 t) f args fuel e w') : CallSaid R n d f args fuel e w' := by
  obtain ⟨L', K', hi, n', d', s', hr, h⟩ := h
  have hsm := sig_small pt f
  rcases h with ⟨h1, rfl, rfl, rfl, rfl, rfl, rfl⟩ | ⟨h1, h2, h3, us, h4, h5⟩
  · refine ⟨L', K', 0, n', d', tape0 t, none, 0, [], 0, owedP R.P f args, _, hr, rfl, World.ownsRow_nil _ _ _ _, by simp, fun W hW => tell_errno _ h1 W hW, .inl ⟨h1, rfl, rfl, rfl, rfl, rfl, rfl, rfl⟩⟩
  · rcases h5 with ⟨v, bs, rfl, g1, g2, g3, g4⟩ | ⟨c, c1, c2, rfl, c3⟩
    · have hlen : bs.length = (R.P.sig f).1.results.length := by rw [← g2]; simp
      obtain ⟨va, vc, rfl⟩ : ∃ va vc, v = .slice va bs.length vc := by
        rcases g1.2 with ⟨h, h0⟩ | ⟨g, c, cur, h, _⟩
        · exact ⟨none, 0, by rw [h, h0]⟩
        · exact ⟨_, _, h⟩
      refine ⟨L', K', hi, n', d', s', va, vc, bs, us, 0, _, hr, rfl, g1, by omega, fun W hW => (tell_nil W).mono (fun e w'' h => ⟨h.1, by rw [h.2]; exact Fr.refl _ _⟩), .inr ⟨h1, h2, fun hz => (h3 hz).2.1, h4, .inl ⟨rfl, by rw [hlen], ?_, ?_, by rw [← hlen]; exact g4⟩⟩⟩
      · intro t l ht
        rw [ht] at g2
        cases bs with
        | nil => simp at g2
        | cons b bs =>
          simp at g2
          simp only [valsT, List.flatMap_cons, valT, List.cons_append]
          exact ⟨_, by rw [g2.1]⟩
      · intro hz
        rw [g3 hz, (h3 hz).2.2]
        rfl
    · exact ⟨L', K', hi, n', d', s', none, 0, [], us, c, _, hr, rfl, World.ownsRow_nil _ _ _ _, by simp, fun W hW => tell_errno _ (by omega) W hW, .inr ⟨h1, h2, fun hz => (h3 hz).2.1, h4, .inr ⟨c1, c2, rfl, fun hz => ⟨c3 hz, by rw [(h3 hz).2.2]; rfl⟩⟩⟩⟩
end Go.Proofs.Qxb6500575aGreatDoor
