/-
  THE WALK of comp: a name's instruction.
-/
import Derived.Test.Qxb6500574aGreatDoorWCm9
namespace Go.Proofs.Qxb6500574aGreatDoor
open Go Go.RowKit
set_option linter.unusedVariables false
set_option linter.unusedSimpArgs false
open Go.Lib
section
set_option maxRecDepth 100000
set_option maxHeartbeats 1000000
variable {w : World} {o : Nat → Nat} {C : CC} {N : List Nd} {c : CmD}
theorem variable_any {f : Nat} {L : List Bs} {r : En} {s : Bs} (hs : s ≠ []) (I : Inv c ((f, L) :: r)) (R : CRep w o C N c) (hf : f < c.np) (lo up gl : Nat) (hk : (c.fn f).code.length + 1 ≤ 65535) (hc : (c.fn f).consts.length ≤ 65000) :
    Calls Tryz.prog 233 #[fptr C.gF f, sv s, .int .u8 lo, .int .u8 up, .int .u8 gl] w fun e w' => e = .returned (.tuple #[]) ∧ ∃ o', CRep w' o' C N (c.variable f s lo up gl) ∧ Stp QC w o w' o' := by
  have hloc := I.loc
  have hl12 := I.l12
  have hslot := slot_any R hf s (by rw [hloc]; omega)
  rw [hloc] at hslot
  have hd := I.depth
  have hf13 := I.1.1
  simp only at hd hf13
  unfold CmD.variable
  rw [hloc]
  cases hsl : slotL L s with
  | some k =>
    have hkk := (List.getElem?_eq_some_iff.1 (slotL_at hsl)).1
    rw [hsl] at hslot
    simp only [slotI] at hslot
    simp only
    rw [Nat.mod_eq_of_lt (by omega)]
    clear hsl hloc I hd
    go_enter Tryz.func233, Tryz.ntmps233
    go_wp2_with first
      | (go_at_call 273; refine hslot.mono ?_; rintro e w1 ⟨rfl, rfl⟩)
      | (go_at_call 65; refine (emit1 R hf rfl rfl hk).mono ?_; rintro e w2 ⟨rfl, o2, R2, S2⟩)
    refine bodyPost_ret (results_none rfl _ _ _) rfl ?_
    exact ⟨rfl, o2, R2, S2.weaken (fun _ h => h.qc)⟩
  | none =>
    rw [hsl] at hslot
    simp only [slotI] at hslot
    have hup := upvalue_any (C := C) (N := N) hs 20 r f L w o c I (by omega) R hf
    have P := up_ok hs 20 c (f, L) r I (by omega)
    have hul := P.iv.ups144
    simp only at hul
    simp only
    cases hU : upN c s 20 f with
    | mk c2 oo =>
    rw [hU] at hup P hul
    simp only at hul
    have hself := P.gr.sm f
    simp only at hself
    have hnp : c2.np = c.np := P.gr.np
    have hk2 : (c2.fn f).code.length + 1 ≤ 65535 := by rw [hself]; exact hk
    have hc2 : (c2.fn f).consts.length ≤ 65000 := by rw [hself]; exact hc
    have hok : ∀ v ∈ (c2.fn f).consts, v.ok := by rw [hself]; exact I.2.2.2.1.ok
    have hf2 : f < c2.np := by rw [hnp]; exact hf
    cases oo with
    | some k =>
      have hkl := P.lt k rfl (f, L) rfl
      simp only [slotI] at hup hkl
      simp only
      rw [Nat.mod_eq_of_lt (by omega)]
      clear hsl hloc I hd P hself hU hnp
      go_enter Tryz.func233, Tryz.ntmps233
      go_wp2_with first
        | (go_at_call 273; refine hslot.mono ?_; rintro e w1 ⟨rfl, rfl⟩)
        | (go_at_call 274; refine hup.mono ?_; rintro e w1 ⟨rfl, o1, R1, S1⟩)
        | (go_at_call 65; refine (emit1 R1 hf2 rfl rfl hk2).mono ?_; rintro e w2 ⟨rfl, o2, R2, S2⟩)
      refine bodyPost_ret (results_none rfl _ _ _) rfl ?_
      exact ⟨rfl, o2, R2, S1.trans (S2.weaken (fun _ h => h.qc))⟩
    | none =>
      simp only [slotI] at hup
      simp only
      have hlt0 : f < c2.fns.length := by have := P.iv.len; simp only at this; omega
      have hk3 : ((c2.const f (strV s)).1.fn f).code.length + 1 ≤ 65535 := by
        unfold CmD.const
        split
        · exact hk2
        · rw [fn_upd c2 hlt0, if_pos rfl]
          exact hk2
      have hf3 : f < (c2.const f (strV s)).1.np := by
        unfold CmD.const
        split <;> exact hf2
      clear hsl hloc I hd P hself hU hnp
      go_enter Tryz.func233, Tryz.ntmps233
      go_wp2_with first
        | (go_at_call 273; refine hslot.mono ?_; rintro e w1 ⟨rfl, rfl⟩)
        | (go_at_call 274; refine hup.mono ?_; rintro e w1 ⟨rfl, o1, R1, S1⟩)
        | (go_at_call 232; refine (ctext_any R1 hf2 s hok hc2).mono ?_; rintro e w3 ⟨rfl, o3, R3, S3⟩)
        | (go_at_call 65; refine (emit1 R3 hf3 rfl rfl hk3).mono ?_; rintro e w2 ⟨rfl, o2, R2, S2⟩)
      go_end0
      exact ⟨rfl, o2, R2, S1.trans ((S3.weaken (fun _ h => h.qc)).trans (S2.weaken (fun _ h => h.qc)))⟩
end
end Go.Proofs.Qxb6500574aGreatDoor
