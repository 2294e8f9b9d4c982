/-
  THE WALK of complaw: Format.
-/
import Derived.Test.Qxb6500574aGreatDoorWKp0
namespace Go.Proofs.Qxb6500574aGreatDoor
open Go Go.RowKit
set_option linter.unusedVariables false
set_option linter.unusedSimpArgs false
section
set_option maxRecDepth 100000
set_option maxHeartbeats 1000000
variable {w : World} {o : Nat → Nat} {C : CC} {sx bc : Nat} {num : Value} {c : CmD} {A : VL}
theorem cformat_any (h : CM bc w o A C sx num c) {x : Nat} (hx : x < 18446744073709551616) (a0 a1 : Nat) :
    Calls Tryz.prog 25 #[.agg #[.pointer (some ⟨a0, 0, none⟩), .pointer (some ⟨a1, 0, none⟩), num], .int .u64 x] w fun e w' => e = .returned (sv (fmtN x)) ∧ ∃ o' A', CM bc w' o' A' C sx num c ∧ Stp QM w o w' o' := by
  have hnm := h.nm
  have F0 : Fr (fun _ => False) w (w.alloc (.cells #[.pointer (some ⟨a0, 0, none⟩), .pointer (some ⟨a1, 0, none⟩), num] 27)) := (Fr.refl _ _).alloc _
  have M0 : CM bc _ o A C sx num c := h.st (Stp.fresh (fun _ => False) o F0) (fun x => x) (fun x => x) (fun _ _ x => x)
  have S0 : Stp QM w o _ o := Stp.fresh QM o F0
  obtain ⟨⟨m, f, e, s, R, hc, hd⟩, oc⟩ := M0.I
  obtain ⟨t1, t2, t3, t4⟩ := R.txt
  have FM := format_any t1 t2 t3 t4 hx
  have HM0 : Hid (CM bc _ o A C sx num c) := M0
  have HS0 : Hid (Stp QM w o _ o) := S0
  have HIM : Hid (∀ w2, (∃ S, Txt w2 A.bf S) → Fr (fun j => j = A.bf) (w.alloc (.cells #[.pointer (some ⟨a0, 0, none⟩), .pointer (some ⟨a1, 0, none⟩), num] 27)) w2 → ∃ o' A', CM bc w2 o' A' C sx num c ∧ Stp QM w o w2 o') := by
    intro w2 q1 q2
    obtain ⟨r1, r2⟩ := R.bufSt q2 q1
    obtain ⟨hc2, oc2⟩ := r2.keep0 notVM0 hc oc
    obtain ⟨o3, M3, T3⟩ := HM0.out.run (A' := A) ⟨⟨m, f, e, s, r1, hc2, hd⟩, oc⟩ (CSt.of r2)
    exact ⟨o3, A, M3, HS0.out.trans (T3.weaken (fun l hl => .inr (.inl hl)))⟩
  subst hnm
  clear h R hc hd t1 t2 t3 t4 M0 S0 F0 HM0 HS0
  go_enter Tryz.func25, Tryz.ntmps25
  go_wp2_with fail
  refine FM.mono ?_
  rintro e' w2 ⟨rfl, q1, q2⟩
  have HF : Hid _ := HIM.out w2 q1 q2
  clear FM q1 q2 HIM
  go_wp2_with fail
  go_ret
  exact ⟨rfl, HF.out⟩
end
end Go.Proofs.Qxb6500574aGreatDoor
