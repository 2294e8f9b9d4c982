/-
  THE WALKS of vmlaw: Tabs; b2i, Turn, Told.
-/
import Derived.Test.Qxb6500579aGreatULoad
import Derived.Test.Qxb6500579aGreatUShowT2
namespace Go.Proofs.Qxb6500579aGreat
open Go Go.RowKit
set_option linter.unusedVariables false
set_option linter.unusedSimpArgs false
theorem zip_take {α β : Type} (a b : List α) (c : List β) (h : c.length = a.length + b.length) : (((a ++ b).zip c).take a.length).map (fun x => x.1) = a := by
  have : (((a ++ b).zip c).map (fun x => x.1)) = a ++ b := List.map_fst_zip (by simp; omega)
  rw [List.map_take, this]
  simp
theorem TFit.nil : TFit tab0 := ⟨by simp [tab0], by simp [tab0], by simp [tab0], by simp [tab0], by simp [tab0], by simp [tab0], by simp [tab0], by simp [tab0], by simp [tab0], by simp [tab0]⟩
section
variable {w : World} {A : VL} {σ : St}
set_option maxRecDepth 100000
set_option maxHeartbeats 1000000
theorem tabs_all (R : VRep w A σ.m σ.f σ.e) (D : DI σ) : Calls Tryz.prog 8 #[.agg #[.pointer (some ⟨A.bn, 0, none⟩), .pointer (some ⟨A.bt, 0, none⟩)]] w fun e' w' => e' = .returned (sv (showT σ.m.tabs)) ∧ Fr (fun _ => False) w w' := by
  obtain ⟨k, ⟨hk1, hk2⟩, hT⟩ := R.tabs
  obtain ⟨K, tv⟩ := D.tv
  have mem : ∀ x ∈ (σ.m.tabs ++ List.replicate k tab0).zip A.tl, x.1 ∈ σ.m.tabs ∨ x.1 = tab0 := by
    intro x hx
    have := (List.of_mem_zip hx).1
    rcases List.mem_append.1 this with h | h
    · exact .inl h
    · exact .inr (List.eq_of_mem_replicate h)
  have CALL : ∀ W, Fr (fun _ => False) w W → Calls Tryz.prog 18 #[.pointer (some ⟨A.bt, 0, none⟩)] W fun e' w' => e' = .returned (sv (showT σ.m.tabs)) ∧ Fr (fun _ => False) W w' := fun W hF => by
    have h := showT_any (hT.st (Stp.fresh (fun _ => False) A.o hF) (fun _ _ x => x)) (fun x hx => by
      rcases mem x hx with h | h
      · exact (D.tb _ h).1
      · rw [h]; exact TFit.nil) (fun x hx e he => by
      rcases mem x hx with h | h
      · exact ⟨(tv _ h e he).1.shw, (tv _ h e he).2.shw⟩
      · rw [h] at he; simp [tab0] at he) D.tn
    rw [zip_take σ.m.tabs (List.replicate k tab0) A.tl (by simp [hk1])] at h
    exact h
  have HC : Hid (∀ W, Fr (fun _ => False) w W → Calls Tryz.prog 18 #[.pointer (some ⟨A.bt, 0, none⟩)] W fun e' w' => e' = .returned (sv (showT σ.m.tabs)) ∧ Fr (fun _ => False) W w') := CALL
  clear CALL mem tv hT hk1 hk2 D R
  go_enter Tryz.func8, Tryz.ntmps8
  go_wp2_with fail
  refine (HC.out _ ((Fr.refl _ _).alloc _)).mono ?_
  rintro e' w2 ⟨rfl, F2⟩
  have HF : Hid (Fr (fun _ => False) w w2) := ((Fr.refl _ w).alloc _).trans F2 (fun _ _ x => x)
  clear F2
  go_wp2_with fail
  go_ret
  exact ⟨rfl, HF.out⟩
end
end Go.Proofs.Qxb6500579aGreat
