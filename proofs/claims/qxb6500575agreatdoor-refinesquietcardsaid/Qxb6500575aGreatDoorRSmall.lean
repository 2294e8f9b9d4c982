/-
  THE WALKS of mach.New, machm.New; run: New, Show, High, Check.
-/
import Derived.Test.Qxb6500575aGreatDoorKShow
import Derived.Test.Qxb6500575aGreatDoorKGrow
import Derived.Test.Qxb6500575aGreatDoorRMem
namespace Go.Proofs.Qxb6500575aGreatDoor
open Go Go.RowKit
set_option linter.unusedVariables false
set_option linter.unusedSimpArgs false

set_option maxRecDepth 100000
set_option maxHeartbeats 400000
/-- the memory at its beginning -/
def KD.zero (a b : Nat) : KD := { pages := List.replicate a none, max := b }
theorem knew_any (a b : Nat) (h1 : a ≤ b) (h2 : b ≤ 4) (w : World) : Calls Tryz.prog 36 #[.int .i64 a, .int .i64 b] w fun e w' => ∃ bk L, e = .returned (.tuple #[.pointer (some ⟨bk, 0, none⟩), .nilIface]) ∧ KRep w' bk L (KD.zero a b) ∧ Fr (fun _ => False) w w' ∧ (∀ k, KS bk L k → w.heap.size ≤ k) := by
  obtain ⟨ti, hti, hz, hsz, hby⟩ := info_parts rowPage.2.2
  go_enter Tryz.func36, Tryz.ntmps36
  go_wp2_with (at_make; go_must (refine wpList_make_full _ rfl _ _ 94 rfl 0 223 ti (.pointer none) 1 rowPage.1 hti hz hsz .i64 .i64 _ _ a rfl rfl rfl rfl (by rw [hby]; omega) (by unfold maxLen; omega) (Nat.zero_le _) ?mk))
  case mk =>
    intro w1 hown hgrow
    have HO : Hid (World.ownsRow w1 0 223 1 (.slice (some ⟨w.heap.size, 0, none⟩) a a) a (List.replicate a (.pointer none))) := by
      show World.ownsRow _ _ _ _ _ _ _
      rw [← toList_madeCells_one]
      exact hown
    have HG : Hid (Fr (fun _ => False) w w1) := (Fr.of_grown hgrow).weaken (fun k _ h => by cases h)
    clear hown hgrow
    obtain ⟨gp, hgp⟩ : ∃ gp, gp = w.heap.size := ⟨_, rfl⟩
    rw [← hgp] at HO ⊢
    have HGP : Hid (gp = w.heap.size) := hgp
    clear hgp
    go_wp2
    go_ret2
    have hlt := owns_lt HO.out gp rfl
    refine ⟨w1.heap.size, ⟨some ⟨gp, 0, none⟩, a, List.replicate a none⟩, rfl, ?_, HG.out.alloc _, ?_⟩
    · refine { here := ?_, row := ?_, len := by simp [KD.zero], nil := ?_, page := ?_, inj := ?_, le := by simpa [KD.zero] using h1, max := h2 }
      · have := Has.new w1 #[.slice (some ⟨gp, 0, none⟩) a a, .int .i64 b, .int .i64 0] 96
        simpa [KD.zero, KL.made, List.countP_replicate] using this
      · have := owns_alloc HO.out (.cells #[.slice (some ⟨gp, 0, none⟩) a a, .int .i64 b, .int .i64 0] 96)
        simpa [KD.zero, ptrV] using this
      · intro i hi
        simpa [KD.zero, List.getElem?_replicate] using hi
      · intro i g hi
        simp [List.getElem?_replicate] at hi
      · intro i j g hi
        simp [List.getElem?_replicate] at hi
    · rintro k (rfl | hk | ⟨i, hi⟩)
      · exact HG.out.size
      · simp [Value.ownBlock] at hk
        rw [← hk, HGP.out]
        exact Nat.le_refl _
      · simp [List.getElem?_replicate] at hi
section
variable {w : World} {bx : Nat} {p k : Value} {L : InL} {x : InD}
theorem rhigh_any (h : InRep w bx p k L x) : Calls Tryz.prog 22 #[.pointer (some ⟨bx, 0, none⟩)] w fun e w' => e = .returned (.int .i64 x.high) ∧ w' = w := by
  have c5 := h.here.cell 5
  simp at c5
  go_enter Tryz.func22, Tryz.ntmps22
  go_wp2
  go_ret
  exact ⟨rfl, rfl⟩
theorem rshow_any {bk : Nat} {K : KL} {d : KD} (h : InRep w bx p (.pointer (some ⟨bk, 0, none⟩)) L x) (hk : KRep w bk K d) : Calls Tryz.prog 13 #[.pointer (some ⟨bx, 0, none⟩)] w fun e w' => ∃ z, e = .returned (sv z) ∧ Hid (z = d.text) ∧ z.length ≤ 1000 ∧ Fr (fun _ => False) w w' := by
  have c1 := h.here.cell 1
  simp at c1
  have HS : Hid (Calls _ _ _ _ _) := kshow_any hk
  clear h hk
  go_enter Tryz.func13, Tryz.ntmps13
  go_wp2_with fail
  refine HS.out.mono ?_
  rintro e w1 ⟨z, rfl, Z, hl, f1⟩
  have F1 : Hid (Fr _ w w1) := f1
  clear f1 HS
  go_wp2
  go_ret
  exact ⟨z, rfl, Z, hl, F1.out⟩
theorem rcheck_any {q1 q2 : Addr} (h : InRep w bx (.pointer (some q1)) (.pointer (some q2)) L { x with st := [], fr := [], used := 0 }) : Calls Tryz.prog 40 #[.pointer (some ⟨bx, 0, none⟩)] w fun e w' => e = .returned (.bool true) ∧ w' = w := by
  have c0 := h.here.cell 0
  have c1 := h.here.cell 1
  have c2 := h.here.cell 2
  have c3 := h.here.cell 3
  have c4 := h.here.cell 4
  simp at c0 c1 c2 c3 c4
  go_enter Tryz.func40, Tryz.ntmps40
  go_wp2
  go_ret
  exact ⟨rfl, rfl⟩
theorem rnew_any (q1 q2 : Option Addr) (w : World) : Calls Tryz.prog 10 #[.pointer q1, .pointer q2] w fun e w' => ∃ bx, e = .returned (.pointer (some ⟨bx, 0, none⟩)) ∧ InRep w' bx (.pointer q1) (.pointer q2) ⟨none, none, 0, 0⟩ { st := [], fr := [], used := 0, high := 0 } ∧ Fr (fun _ => False) w w' ∧ w.heap.size ≤ bx := by
  go_enter Tryz.func10, Tryz.ntmps10
  go_wp2
  go_ret
  refine ⟨w.heap.size, rfl, ⟨Has.new w _ _, ?_, ?_⟩, (Fr.refl _ _).alloc _, Nat.le_refl _⟩
  · exact World.ownsRow_nil _ _ _ _
  · exact World.ownsRow_nil _ _ _ _
end
/-- the model's memory: nobody looks at it here -/
theorem kmnew_any (a b : Nat) (h1 : a ≤ b) (h2 : b ≤ 4) (w : World) : Calls Tryz.prog 37 #[.int .i64 a, .int .i64 b] w fun e w' => ∃ bm cs, e = .returned (.tuple #[.pointer (some ⟨bm, 0, none⟩), .int .i64 0]) ∧ Fr (fun _ => False) w w' ∧ w.heap.size ≤ bm ∧ Has w' bm cs 146 := by
  have hi : (Tryz.prog.info? 5).map (fun i => (i.zero, i.size, i.bytes)) = some (some (.int .u8 0), 1, 1) := by kernel_rfl
  obtain ⟨ti, hti, hz, hsz, hby⟩ := info_parts hi
  have ht : Tryz.prog.underlying 134 = some (.slice 5) := by kernel_rfl
  have h3 : (a : Int) ≤ b := by omega
  go_enter Tryz.func37, Tryz.ntmps37
  go_wp2_with (at_make; go_must (refine wpList_make_full _ rfl _ _ 134 rfl 0 5 ti (.int .u8 0) 1 ht hti hz hsz .i64 .i64 _ _ (a * 8) rfl rfl (by simp) (by simp) (by rw [hby]; omega) (by unfold maxLen; omega) (Nat.zero_le _) ?mk))
  case mk =>
    intro w1 hown hgrow
    have HG : Hid (Fr (fun _ => False) w w1) := (Fr.of_grown hgrow).weaken (fun k _ h => by cases h)
    clear hown hgrow
    go_wp2
    go_ret2
    exact ⟨w1.heap.size, _, rfl, HG.out.alloc _, HG.out.size, Has.new _ _ _⟩
end Go.Proofs.Qxb6500575aGreatDoor
