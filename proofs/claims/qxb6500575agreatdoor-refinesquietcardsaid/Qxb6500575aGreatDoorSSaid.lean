/-
  What a call says, exactly: plain, out of CallPost.
-/
import Derived.Test.Qxb6500575aGreatDoorSSt
import Derived.Test.Qxb6500575aGreatDoorTellE
namespace Go.Proofs.Qxb6500575aGreatDoor
open Go Go.RowKit
set_option linter.unusedVariables false
set_option linter.unusedSimpArgs false

abbrev ansV (er us len : Int) (str : List UInt8) : Value := .agg #[.int .i64 er, .int .i64 us, .int .i64 len, sv str]
/-- the answer of an operation that calls nothing -/
def sameV (kind : Int) (z : List UInt8) : Value := if kind = 11 then ansV 0 0 0 z else if kind = 12 then ansV 0 0 1 [] else ansV 0 0 0 []
/-- the answer of a call: er us len str; n, d: the fetches and the memory ahead, n', d': behind -/
def Said (P : ProgD) (H : HF TSem) (tp : List UInt8) (f fuel : Int) (args : List BV) (d d' : KD) (n n' er us len : Int) (str : List UInt8) : Prop :=
  (owedP P f args ≠ 0 ∧ er = owedP P f args ∧ us = 0 ∧ len = 0 ∧ str = [124] ∧ n' = n ∧ d' = d) ∨
  (owedP P f args = 0 ∧ ∃ t vs s, FEnds P H fuel (cfg0 P f args n d (tp, 0, [])) ⟨t, vs, ⟨[], us, n', d'.flat, d'.max, s⟩⟩ ∧ s.2.2.length ≤ 700 ∧
    ((t = 1 ∧ er = 0 ∧ len = vs.length ∧ str = valsT (vs.reverse.map V.bv) ++ 124 :: s.2.2) ∨ (11 ≤ t ∧ t ≤ 17 ∧ er = t ∧ len = 0 ∧ str = 124 :: s.2.2)))
theorem sig_small {p : ProgD} {T : Nat → Typing} (h : ProgT p T) (f : Int) : (p.sig f).1.params.length ≤ 3 ∧ (p.sig f).1.results.length ≤ 1 ∧ (p.sig f).1.locals.length ≤ 4 ∧ TyL (p.sig f).1.params := by
  unfold ProgD.sig
  split
  · exact ⟨by simp, by simp, by simp, fun _ h => by cases h⟩
  split
  · exact ⟨by simp, by simp, by simp, fun _ h => by cases h⟩
  · rename_i u hu
    have := h.ps u (List.mem_of_getElem? hu)
    exact ⟨this.1, this.2.1, this.2.2.1, this.2.2.2.1⟩
/-- a call, as Do sees it -/
def CallSaid (R : RP TapeD) (H : HF TSem) (tp : List UInt8) (n : Int) (d : KD) (f : Int) (args : List BV) (fuel : Int) (e : Ending) (w' : World) : Prop :=
  ∃ L' K' hi n' d' s' va vc bs us er ev, RunW R w' L' K' ⟨[], [], 0, hi⟩ n' d' s' ∧ e = .returned (.tuple #[.slice va bs.length vc, .int .i64 us, ev]) ∧ w'.ownsRow 0 70 2 (.slice va bs.length vc) bs.length (bvCells bs) ∧ bs.length ≤ 3 ∧
    (∀ W, GlobOk W → Calls Tryz.prog 34 #[ev] W fun e w'' => e = .returned (.int .i64 er) ∧ Fr (fun _ => False) W w'') ∧ Said R.P H tp f fuel args d d' n n' er us bs.length (valsT bs ++ 124 :: s'.trace)
theorem call_said {R : RP TapeD} {H : HF TSem} {T : Nat → Typing} (pt : ProgT R.P T) {K : KL} {n : Int} {d : KD} {t : List UInt8} {f fuel : Int} {args : List BV} {e : Ending} {w' : World} (hok : ∀ {w : World} (s : TapeD), R.H.Rep w s → TapeOk s) (h : CallPost semT H R K n d (tape0 t) f args fuel e w') : CallSaid R H t n d f args fuel e w' := by
  obtain ⟨L', K', hi, n', d', s', hr, h⟩ := h
  have hsm := sig_small pt f
  have htr : s'.trace.length ≤ 700 := by
    have h7 : TapeOk s' := hok _ hr.host
    have := h7.tr
    have := h7.kle
    omega
  rcases h with ⟨h1, rfl, rfl, rfl, rfl, rfl, rfl⟩ | ⟨h1, us, tt, vs, h2, h3⟩
  · exact ⟨L', K', 0, n', d', tape0 t, none, 0, [], 0, owedP R.P f args, _, hr, rfl, World.ownsRow_nil _ _ _ _, by simp, fun W hW => tell_errno _ h1 W hW, .inl ⟨h1, rfl, rfl, rfl, rfl, rfl, rfl⟩⟩
  · rcases h3 with ⟨rfl, v, rfl, g1, g2, g3⟩ | ⟨c1, c2, rfl, rfl⟩
    · have hlen : vs.length = (R.P.sig f).1.results.length := by have := congrArg List.length g2; simpa using this
      obtain ⟨va, vc, rfl⟩ : ∃ va vc, v = .slice va vs.length vc := by
        rcases g1.2 with ⟨h, h0⟩ | ⟨g, c, cur, h, _⟩
        · exact ⟨none, 0, by rw [h, h0]⟩
        · exact ⟨_, _, h⟩
      have hbl : (vs.reverse.map V.bv).length = vs.length := by simp
      refine ⟨L', K', hi, n', d', s', va, vc, vs.reverse.map V.bv, us, 0, _, hr, by rw [hbl], by rw [hbl]; exact g1, by rw [hbl]; omega, fun W hW => (tell_nil W).mono (fun e w'' h => ⟨h.1, by rw [h.2]; exact Fr.refl _ _⟩), .inr ⟨h1, 1, vs, semT s', h2, htr, .inl ⟨rfl, rfl, by rw [hbl], rfl⟩⟩⟩
    · exact ⟨L', K', hi, n', d', s', none, 0, [], us, tt, _, hr, rfl, World.ownsRow_nil _ _ _ _, by simp, fun W hW => tell_errno _ (by omega) W hW, .inr ⟨h1, tt, [], semT s', h2, htr, .inr ⟨c1, c2, rfl, rfl, rfl⟩⟩⟩
end Go.Proofs.Qxb6500575aGreatDoor
