import Derived.Test.Qxb6500575aGreatDoorMod2
namespace Go.Proofs.Qxb6500575aGreatDoor
open Go Go.RowKit
set_option linter.unusedVariables false
set_option linter.unusedSimpArgs false

def ModD.addType (m : ModD) (p r : List UInt8) : ModD × Int :=
  if 3 < p.length ∨ 1 < r.length then (m, 1)
  else if 4 ≤ m.params.length then (m, 2)
  else if ¬ typesOk (p ++ r) = true then (m, 3)
  else ({ m with params := m.params ++ [p], results := m.results ++ [r] }, 0)
theorem sv_app (p r : List UInt8) : Value.string ((⟨p.toArray⟩ : ByteArray) ++ ⟨r.toArray⟩) = sv (p ++ r) := by
  congr 1

set_option maxRecDepth 100000 in
set_option maxHeartbeats 1000000 in
theorem addType_any (S : Nat → Prop) (bm : Nat) (L : ModL) (m : ModD) (p r : List UInt8) (w : World) (h : ModRep S w bm L m) (hrl : m.results.length ≤ 1000) :
    Calls Tryz.prog 27 #[.pointer (some ⟨bm, 0, none⟩), sv p, sv r] w fun e w' => e = .returned (.int .i64 (m.addType p r).2) ∧ (∃ L', ModRep (Own S w w') w' bm L' (m.addType p r).1) ∧ Fr S w w' := by
  have c0 := h.here.cell 0
  have c1 := h.here.cell 1
  simp at c0 c1
  by_cases h1 : 3 < p.length
  · have e0 : m.addType p r = (m, 1) := by unfold ModD.addType; rw [if_pos (.inl h1)]
    rw [e0]
    have fin := h.still
    clear e0 h
    go_enter Tryz.func27, Tryz.ntmps27
    go_wp2
    go_ret
    exact ⟨rfl, fin⟩
  · by_cases h2 : 1 < r.length
    · have e0 : m.addType p r = (m, 1) := by unfold ModD.addType; rw [if_pos (.inr h2)]
      rw [e0]
      have fin := h.still
      clear e0 h
      go_enter Tryz.func27, Tryz.ntmps27
      go_wp2
      go_ret
      exact ⟨rfl, fin⟩
    · by_cases h3 : 4 ≤ m.params.length
      · have e0 : m.addType p r = (m, 2) := by unfold ModD.addType; rw [if_neg (by omega), if_pos h3]
        rw [e0]
        have fin := h.still
        clear e0 h
        go_enter Tryz.func27, Tryz.ntmps27
        go_wp2
        go_ret
        exact ⟨rfl, fin⟩
      · have hT := types_any (p ++ r) w (by simp; omega)
        have HT : Hid (Calls _ _ _ _ _) := hT
        clear hT
        cases h4 : typesOk (p ++ r) with
        | false =>
          have e0 : m.addType p r = (m, 3) := by unfold ModD.addType; rw [if_neg (by omega), if_neg (by omega), if_pos (by rw [h4]; decide)]
          rw [e0]
          have fin := h.still
          have FIN : Hid (_ ∧ _) := fin
          clear e0 h fin
          go_enter Tryz.func27, Tryz.ntmps27
          go_wp2_with fail
          rw [sv_app]
          refine HT.out.mono ?_
          rintro e w1 ⟨rfl, hw1⟩
          obtain rfl := hw1.symm
          rw [h4]
          go_wp2
          go_ret
          exact ⟨rfl, FIN.out⟩
        | true =>
          have e0 : m.addType p r = ({ m with params := m.params ++ [p], results := m.results ++ [r] }, 0) := by unfold ModD.addType; rw [if_neg (by omega), if_neg (by omega), if_neg (by rw [h4]; decide)]
          rw [e0]
          have f0 := h.here.frozen 0
          have H : Hid (ModRep S w bm L m) := h
          clear e0 h
          go_enter Tryz.func27, Tryz.ntmps27
          go_wp2_with fail
          rw [sv_app]
          refine HT.out.mono ?_
          rintro e w1 ⟨rfl, hw1⟩
          obtain rfl := hw1.symm
          clear hw1 HT
          rw [h4]
          go_wp2_with (at_builtin; refine wpList_app rowStr _ rfl (.tmp 30) (.tmp 32) rfl _ _ _ rfl (owns_alloc H.out.params _) _ [sv p] rfl (Has.new _ _ _) rfl ?one ?bd ?go)
          case one => simp [Value.oneCell']
          case bd => omega
          case go =>
            intro g cap w2 q1 q2 q3 q4
            have hne := owns_ne H.out.params H.out.here (by decide)
            have hH1 : Has w2 bm _ _ := (H.out.here.alloc _).fr q2 hne
            have d0 := hH1.cell 0
            simp at d0
            have e0 := hH1.frozen 0
            obtain ⟨n1, n2, n3, n4, n5⟩ := app_net H.out.here hne q2 q1 (by decide) q3 q4 0
            have fin1 := H.out.putParams p n1 n2 n3 n4 n5
            obtain ⟨⟨L1, M1⟩, F1⟩ := fin1
            have HM1 : Hid (ModRep (Own S w _) _ bm L1 { m with params := m.params ++ [p] }) := M1
            have HF1 : Hid (Fr S w _) := F1
            have d1 := hH1.cell 1
            have g1 := hH1.frozen 1
            have gl := hH1.lt
            simp at d1
            clear n1 n2 n3 n4 n5 q1 q2 q3 q4 hH1 hne M1 F1 H
            have k1 := HM1.out.here.cell 1
            have kf := HM1.out.here.frozen 1
            have kl := HM1.out.here.lt
            simp at k1
            go_wp2_with (at_builtin; refine wpList_app rowStr _ rfl (.tmp 40) (.tmp 42) rfl _ _ _ rfl (owns_alloc HM1.out.results _) _ [sv r] rfl (Has.newSet _ _ _ _ _) rfl ?one2 ?bd2 ?go2)
            case one2 => simp [Value.oneCell']
            case bd2 => omega
            case go2 =>
              intro g' cap' w3 q1 q2 q3 q4
              have hne := owns_ne HM1.out.results HM1.out.here (by decide)
              have hH2 : Has w3 bm _ _ := (HM1.out.here.alloc _).fr q2 hne
              have b1 := hH2.cell 1
              simp at b1
              have bf := hH2.frozen 1
              obtain ⟨n1, n2, n3, n4, n5⟩ := app_net HM1.out.here hne q2 q1 (by decide) (by simpa [World.setCell] using q3) q4 1
              obtain ⟨⟨L2, M2⟩, F2⟩ := HM1.out.putResults r n1 n2 n3 n4 n5
              have hs1 := n1.size
              have M3 := M2.sub (Own.trans hs1 HF1.out.size)
              have FM : Hid (ModRep _ _ bm L2 _) := M3
              have FF : Hid (Fr S w _) := Own.step F2 HF1.out
              clear n1 n2 n3 n4 n5 q1 q2 q3 q4 hH2 hne M2 M3 F2 HM1 HF1
              go_wp2
              go_ret
              exact ⟨rfl, ⟨L2, FM.out⟩, FF.out⟩
end Go.Proofs.Qxb6500575aGreatDoor
