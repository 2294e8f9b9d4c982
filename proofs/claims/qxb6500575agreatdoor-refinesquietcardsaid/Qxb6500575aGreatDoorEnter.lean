import Derived.Test.Qxb6500575aGreatDoorJump
namespace Go.Proofs.Qxb6500575aGreatDoor
open Go Go.RowKit
set_option linter.unusedVariables false
set_option linter.unusedSimpArgs false
theorem rowBlk : IsRow Tryz.prog 192 226 (.agg #[.string ⟨#[]⟩, .string ⟨#[]⟩, .int .i64 0, .int .i64 0, .bool false, .nilFunc, .slice none 0 0]) 7 88 := ⟨by kernel_rfl, by kernel_rfl, rfl, by decide⟩

theorem conv1 (w : World) (b cap : Nat) (c : Int) (h : w.cell? ⟨b, 0, none⟩ = some (.int .u8 c)) : (convert 134 9 (.slice (some ⟨b, 0, none⟩) 1 cap)).run Tryz.prog w = .ok (.string ⟨#[UInt8.ofNat c.toNat]⟩) w := by
  rw [run_convert_bytes_string w 134 9 5 _ _ _ (by kernel_rfl) (by kernel_rfl) (by kernel_rfl)]
  rw [run_bytesToString w ⟨b, 0, none⟩ 1 cap [c] (by simp [loadCells, loadCellsFrom, load, Sem.run, Addr.add, h])]
  rfl
/-- a block's result type, by its immediate -/
def resOf (imm : Int) : List UInt8 := if imm = 0 then [] else [UInt8.ofNat imm.toNat]
def Ck.enter (s : Ck) (c : Ins) : Ck × Int :=
  if c.op = 2 then ({ s with opn := { res := resOf c.imm, carry := [], height := s.st.length, head := s.code.length, dead := false, alt := none, wait := [] } :: s.opn }, 0)
  else if c.op = 3 then
    ({ (s.pops [105]).1 with code := s.code ++ [{ op := 3, imm := -1, keep := 0, cut := 0 }], opn := { res := resOf c.imm, carry := resOf c.imm, height := (s.pops [105]).1.st.length, head := -1, dead := false, alt := some s.code.length, wait := [] } :: s.opn }, (s.pops [105]).2)
  else ({ s with opn := { res := resOf c.imm, carry := resOf c.imm, height := s.st.length, head := -1, dead := false, alt := none, wait := [] } :: s.opn }, 0)

set_option maxRecDepth 100000 in
set_option maxHeartbeats 1000000 in
theorem enter_1 (B bk : Nat) (fx : CkF) (L : CkL) (s : Ck) (imm : Int) (w : World) (h : CkRep B w bk fx L s) (ho : s.opn.length ≤ 1000) (hs : s.st.length ≤ 1000) (hc : s.code.length ≤ 1000) (hi : 0 ≤ imm ∧ imm ≤ 255) :
    Calls Tryz.prog 119 #[.pointer (some ⟨bk, 0, none⟩), .agg #[.int .i64 1, .int .i64 imm, sv []]] w fun e w' => e = .returned (.int .i64 (s.enter ⟨1, imm, []⟩).2) ∧ ∃ L', CkRep B w' bk fx L' (s.enter ⟨1, imm, []⟩).1 ∧ CkStep w w' bk L L' := by
  have c2 := h.here.cell 2
  have c3 := h.here.cell 3
  have c4 := h.here.cell 4
  simp at c2 c3 c4
  have f3 := h.here.frozen 3
  have hb := h.here.lt
  have hb1 : bk < w.heap.size + 1 := by omega
  have hb2 : bk < w.heap.size + 1 + 1 := by omega
  have hcv := conv1
  by_cases hi0 : imm = 0
  · subst hi0
    have e0 : s.enter ⟨1, 0, []⟩ = ({ s with opn := { res := ([] : List UInt8), carry := ([] : List UInt8), height := s.st.length, head := -1, dead := false, alt := none, wait := [] } :: s.opn }, 0) := by simp [Ck.enter, resOf]
    rw [e0]
    clear e0
    go_enter Tryz.func119, Tryz.ntmps119
    go_wp2
    obtain ⟨W, hW⟩ : ∃ W, W = ((w.alloc (.cells #[.int .i64 1, .int .i64 0, sv []] 67)).alloc (.cells #[sv ([] : List UInt8), sv ([] : List UInt8), .int .i64 s.st.length, .int .i64 (-1), .bool false, .nilFunc, .slice none 0 0] 226)) := ⟨_, rfl⟩
    rw [← hW]
    obtain ⟨bb, hbbe⟩ : ∃ bb, bb = w.heap.size + 1 := ⟨_, rfl⟩
    have r1 : CkRep B W bk fx L s := by rw [hW]; exact ((h.alloc _).alloc _)
    have st1 : CkStep w W bk L L := by rw [hW]; exact (((CkStep.refl _ _ _).alloc _).alloc _)
    have kb : Has W bb #[sv ([] : List UInt8), sv ([] : List UInt8), .int .i64 s.st.length, .int .i64 (-1), .bool false, .nilFunc, .slice none 0 0] 226 := by
      rw [hW, hbbe]
      have := Has.new (w.alloc (.cells #[.int .i64 1, .int .i64 0, sv []] 67)) #[sv ([] : List UInt8), sv ([] : List UInt8), .int .i64 s.st.length, .int .i64 (-1), .bool false, .nilFunc, .slice none 0 0] 226
      simpa using this
    have hbb : ¬ CkS bk L bb := h.new (by omega)
    have hA : AltV W bk .nilFunc none := rfl
    rw [← hbbe] at *
    clear hW
    have hav : Value.oneCell' .nilFunc = true := rfl
    clear h c2 c3 c4 f3 hb hb1 hb2 hcv
    have k0 := kb.cell 0
    have k1 := kb.cell 1
    have k2 := kb.cell 2
    have k3 := kb.cell 3
    have k4 := kb.cell 4
    have k5 := kb.cell 5
    have k6 := kb.cell 6
    have d3 := r1.here.cell 3
    simp at k0 k1 k2 k3 k4 k5 k6 d3
    have l0 := kb.lt
    have l1 := r1.here.lt
    have hne := owns_ne r1.opn r1.here (by decide)
    have hne1 : (Value.slice L.oa s.opn.length L.oc).ownBlock ≠ some bb := fun e => hbb (.inr (.inr (.inl (by rw [ownBlock_any _ _ _ s.opn.length L.oc]; exact e))))
    refine wp_region_app rowBlk 6 (by kernel_rfl) (by kernel_rfl) (fun _ _ _ _ _ h => h) _ _ _ rfl (.tmp 50) (.tmp 49) 51 52 rfl rfl rfl rfl rfl rfl _ _ _ r1.opn (.agg #[sv ([] : List UInt8), sv ([] : List UInt8), .int .i64 s.st.length, .int .i64 (-1), .bool false, .nilFunc, .slice none 0 0]) rfl (by decide) (by simp [Value.cells, Value.oneCell', hav]) (by omega) ?_
    intro g cap w2 q1 q2 q3 q4
    have kb' : Has w2 bb _ _ := (kb.alloc _).fr q2 hne1
    have hH' : Has w2 bk _ _ := (r1.here.alloc _).fr q2 hne
    have j0 := kb'.cell 0
    have j1 := kb'.cell 1
    have j2 := kb'.cell 2
    have j3 := kb'.cell 3
    have j4 := kb'.cell 4
    have j5 := kb'.cell 5
    have j6 := kb'.cell 6
    have i3 := hH'.cell 3
    have e3 := hH'.frozen 3
    simp at j0 j1 j2 j3 j4 j5 j6 i3
    obtain ⟨n1, n2, n3, n4, n5⟩ := app_net r1.here hne q2 q1 (by decide) q3 q4 3
    have knd := r1.kind r1.opn (by decide)
    have fin := r1.pushOpn { res := ([] : List UInt8), carry := ([] : List UInt8), height := s.st.length, head := -1, dead := false, alt := none, wait := [] } .nilFunc n1 n2 (by simpa [blkCells, Value.cells] using n3) n4 (hA.fr n1 knd) rfl
    have FIN : Hid (_ ∧ _) := ⟨fin.1, st1.trans fin.2⟩
    clear n1 n2 n3 n4 n5 fin q1 q2 q3 q4 hne hne1 r1 st1 kb kb' hH' knd hA hbb
    simp only [List.take_succ_cons, List.take_zero]
    repeat go_big_quiet_step (fail)
    refine wpQuiet_nil ⟨rfl, rfl, by simp, rfl, ?_⟩
    go_wp2
    go_ret
    exact ⟨rfl, _, FIN.out⟩
  · have hi1 : (imm != 0) = true := by rw [bne_iff_ne]; exact hi0
    have e0 : s.enter ⟨1, imm, []⟩ = ({ s with opn := { res := [UInt8.ofNat imm.toNat], carry := [UInt8.ofNat imm.toNat], height := s.st.length, head := -1, dead := false, alt := none, wait := [] } :: s.opn }, 0) := by simp [Ck.enter, resOf, hi0]
    rw [e0]
    clear e0 hi0
    go_enter Tryz.func119, Tryz.ntmps119
    go_wp2
    obtain ⟨W, hW⟩ : ∃ W, W = (((w.alloc (.cells #[.int .i64 1, .int .i64 imm, sv []] 67)).alloc (.cells #[sv [UInt8.ofNat imm.toNat], sv [UInt8.ofNat imm.toNat], .int .i64 s.st.length, .int .i64 (-1), .bool false, .nilFunc, .slice none 0 0] 226)).alloc (.cells #[.int .u8 imm] 5)) := ⟨_, rfl⟩
    rw [← hW]
    obtain ⟨bb, hbbe⟩ : ∃ bb, bb = w.heap.size + 1 := ⟨_, rfl⟩
    have r1 : CkRep B W bk fx L s := by rw [hW]; exact (((h.alloc _).alloc _).alloc _)
    have st1 : CkStep w W bk L L := by rw [hW]; exact ((((CkStep.refl _ _ _).alloc _).alloc _).alloc _)
    have kb : Has W bb #[sv [UInt8.ofNat imm.toNat], sv [UInt8.ofNat imm.toNat], .int .i64 s.st.length, .int .i64 (-1), .bool false, .nilFunc, .slice none 0 0] 226 := by
      rw [hW, hbbe]
      have := Has.new (w.alloc (.cells #[.int .i64 1, .int .i64 imm, sv []] 67)) #[sv [UInt8.ofNat imm.toNat], sv [UInt8.ofNat imm.toNat], .int .i64 s.st.length, .int .i64 (-1), .bool false, .nilFunc, .slice none 0 0] 226
      simpa using this.alloc (.cells #[.int .u8 imm] 5)
    have hbb : ¬ CkS bk L bb := h.new (by omega)
    have hA : AltV W bk .nilFunc none := rfl
    rw [← hbbe] at *
    clear hW
    have hav : Value.oneCell' .nilFunc = true := rfl
    clear h c2 c3 c4 f3 hb hb1 hb2 hcv
    have k0 := kb.cell 0
    have k1 := kb.cell 1
    have k2 := kb.cell 2
    have k3 := kb.cell 3
    have k4 := kb.cell 4
    have k5 := kb.cell 5
    have k6 := kb.cell 6
    have d3 := r1.here.cell 3
    simp at k0 k1 k2 k3 k4 k5 k6 d3
    have l0 := kb.lt
    have l1 := r1.here.lt
    have hne := owns_ne r1.opn r1.here (by decide)
    have hne1 : (Value.slice L.oa s.opn.length L.oc).ownBlock ≠ some bb := fun e => hbb (.inr (.inr (.inl (by rw [ownBlock_any _ _ _ s.opn.length L.oc]; exact e))))
    refine wp_region_app rowBlk 6 (by kernel_rfl) (by kernel_rfl) (fun _ _ _ _ _ h => h) _ _ _ rfl (.tmp 50) (.tmp 49) 51 52 rfl rfl rfl rfl rfl rfl _ _ _ r1.opn (.agg #[sv [UInt8.ofNat imm.toNat], sv [UInt8.ofNat imm.toNat], .int .i64 s.st.length, .int .i64 (-1), .bool false, .nilFunc, .slice none 0 0]) rfl (by decide) (by simp [Value.cells, Value.oneCell', hav]) (by omega) ?_
    intro g cap w2 q1 q2 q3 q4
    have kb' : Has w2 bb _ _ := (kb.alloc _).fr q2 hne1
    have hH' : Has w2 bk _ _ := (r1.here.alloc _).fr q2 hne
    have j0 := kb'.cell 0
    have j1 := kb'.cell 1
    have j2 := kb'.cell 2
    have j3 := kb'.cell 3
    have j4 := kb'.cell 4
    have j5 := kb'.cell 5
    have j6 := kb'.cell 6
    have i3 := hH'.cell 3
    have e3 := hH'.frozen 3
    simp at j0 j1 j2 j3 j4 j5 j6 i3
    obtain ⟨n1, n2, n3, n4, n5⟩ := app_net r1.here hne q2 q1 (by decide) q3 q4 3
    have knd := r1.kind r1.opn (by decide)
    have fin := r1.pushOpn { res := [UInt8.ofNat imm.toNat], carry := [UInt8.ofNat imm.toNat], height := s.st.length, head := -1, dead := false, alt := none, wait := [] } .nilFunc n1 n2 (by simpa [blkCells, Value.cells] using n3) n4 (hA.fr n1 knd) rfl
    have FIN : Hid (_ ∧ _) := ⟨fin.1, st1.trans fin.2⟩
    clear n1 n2 n3 n4 n5 fin q1 q2 q3 q4 hne hne1 r1 st1 kb kb' hH' knd hA hbb
    simp only [List.take_succ_cons, List.take_zero]
    repeat go_big_quiet_step (fail)
    refine wpQuiet_nil ⟨rfl, rfl, by simp, rfl, ?_⟩
    go_wp2
    go_ret
    exact ⟨rfl, _, FIN.out⟩
set_option maxRecDepth 100000 in
set_option maxHeartbeats 1000000 in
theorem enter_2 (B bk : Nat) (fx : CkF) (L : CkL) (s : Ck) (imm : Int) (w : World) (h : CkRep B w bk fx L s) (ho : s.opn.length ≤ 1000) (hs : s.st.length ≤ 1000) (hc : s.code.length ≤ 1000) (hi : 0 ≤ imm ∧ imm ≤ 255) :
    Calls Tryz.prog 119 #[.pointer (some ⟨bk, 0, none⟩), .agg #[.int .i64 2, .int .i64 imm, sv []]] w fun e w' => e = .returned (.int .i64 (s.enter ⟨2, imm, []⟩).2) ∧ ∃ L', CkRep B w' bk fx L' (s.enter ⟨2, imm, []⟩).1 ∧ CkStep w w' bk L L' := by
  have c2 := h.here.cell 2
  have c3 := h.here.cell 3
  have c4 := h.here.cell 4
  simp at c2 c3 c4
  have f3 := h.here.frozen 3
  have hb := h.here.lt
  have hb1 : bk < w.heap.size + 1 := by omega
  have hb2 : bk < w.heap.size + 1 + 1 := by omega
  have hcv := conv1
  by_cases hi0 : imm = 0
  · subst hi0
    have e0 : s.enter ⟨2, 0, []⟩ = ({ s with opn := { res := ([] : List UInt8), carry := ([] : List UInt8), height := s.st.length, head := s.code.length, dead := false, alt := none, wait := [] } :: s.opn }, 0) := by simp [Ck.enter, resOf]
    rw [e0]
    clear e0
    go_enter Tryz.func119, Tryz.ntmps119
    go_wp2
    obtain ⟨W, hW⟩ : ∃ W, W = ((w.alloc (.cells #[.int .i64 2, .int .i64 0, sv []] 67)).alloc (.cells #[sv ([] : List UInt8), sv ([] : List UInt8), .int .i64 s.st.length, .int .i64 ((s.code.length : Int)), .bool false, .nilFunc, .slice none 0 0] 226)) := ⟨_, rfl⟩
    rw [← hW]
    obtain ⟨bb, hbbe⟩ : ∃ bb, bb = w.heap.size + 1 := ⟨_, rfl⟩
    have r1 : CkRep B W bk fx L s := by rw [hW]; exact ((h.alloc _).alloc _)
    have st1 : CkStep w W bk L L := by rw [hW]; exact (((CkStep.refl _ _ _).alloc _).alloc _)
    have kb : Has W bb #[sv ([] : List UInt8), sv ([] : List UInt8), .int .i64 s.st.length, .int .i64 ((s.code.length : Int)), .bool false, .nilFunc, .slice none 0 0] 226 := by
      rw [hW, hbbe]
      have := Has.new (w.alloc (.cells #[.int .i64 2, .int .i64 0, sv []] 67)) #[sv ([] : List UInt8), sv ([] : List UInt8), .int .i64 s.st.length, .int .i64 ((s.code.length : Int)), .bool false, .nilFunc, .slice none 0 0] 226
      simpa using this
    have hbb : ¬ CkS bk L bb := h.new (by omega)
    have hA : AltV W bk .nilFunc none := rfl
    rw [← hbbe] at *
    clear hW
    have hav : Value.oneCell' .nilFunc = true := rfl
    clear h c2 c3 c4 f3 hb hb1 hb2 hcv
    have k0 := kb.cell 0
    have k1 := kb.cell 1
    have k2 := kb.cell 2
    have k3 := kb.cell 3
    have k4 := kb.cell 4
    have k5 := kb.cell 5
    have k6 := kb.cell 6
    have d3 := r1.here.cell 3
    simp at k0 k1 k2 k3 k4 k5 k6 d3
    have l0 := kb.lt
    have l1 := r1.here.lt
    have hne := owns_ne r1.opn r1.here (by decide)
    have hne1 : (Value.slice L.oa s.opn.length L.oc).ownBlock ≠ some bb := fun e => hbb (.inr (.inr (.inl (by rw [ownBlock_any _ _ _ s.opn.length L.oc]; exact e))))
    refine wp_region_app rowBlk 6 (by kernel_rfl) (by kernel_rfl) (fun _ _ _ _ _ h => h) _ _ _ rfl (.tmp 50) (.tmp 49) 51 52 rfl rfl rfl rfl rfl rfl _ _ _ r1.opn (.agg #[sv ([] : List UInt8), sv ([] : List UInt8), .int .i64 s.st.length, .int .i64 ((s.code.length : Int)), .bool false, .nilFunc, .slice none 0 0]) rfl (by decide) (by simp [Value.cells, Value.oneCell', hav]) (by omega) ?_
    intro g cap w2 q1 q2 q3 q4
    have kb' : Has w2 bb _ _ := (kb.alloc _).fr q2 hne1
    have hH' : Has w2 bk _ _ := (r1.here.alloc _).fr q2 hne
    have j0 := kb'.cell 0
    have j1 := kb'.cell 1
    have j2 := kb'.cell 2
    have j3 := kb'.cell 3
    have j4 := kb'.cell 4
    have j5 := kb'.cell 5
    have j6 := kb'.cell 6
    have i3 := hH'.cell 3
    have e3 := hH'.frozen 3
    simp at j0 j1 j2 j3 j4 j5 j6 i3
    obtain ⟨n1, n2, n3, n4, n5⟩ := app_net r1.here hne q2 q1 (by decide) q3 q4 3
    have knd := r1.kind r1.opn (by decide)
    have fin := r1.pushOpn { res := ([] : List UInt8), carry := ([] : List UInt8), height := s.st.length, head := (s.code.length : Int), dead := false, alt := none, wait := [] } .nilFunc n1 n2 (by simpa [blkCells, Value.cells] using n3) n4 (hA.fr n1 knd) rfl
    have FIN : Hid (_ ∧ _) := ⟨fin.1, st1.trans fin.2⟩
    clear n1 n2 n3 n4 n5 fin q1 q2 q3 q4 hne hne1 r1 st1 kb kb' hH' knd hA hbb
    simp only [List.take_succ_cons, List.take_zero]
    repeat go_big_quiet_step (fail)
    refine wpQuiet_nil ⟨rfl, rfl, by simp, rfl, ?_⟩
    go_wp2
    go_ret
    exact ⟨rfl, _, FIN.out⟩
  · have hi1 : (imm != 0) = true := by rw [bne_iff_ne]; exact hi0
    have e0 : s.enter ⟨2, imm, []⟩ = ({ s with opn := { res := [UInt8.ofNat imm.toNat], carry := ([] : List UInt8), height := s.st.length, head := s.code.length, dead := false, alt := none, wait := [] } :: s.opn }, 0) := by simp [Ck.enter, resOf, hi0]
    rw [e0]
    clear e0 hi0
    go_enter Tryz.func119, Tryz.ntmps119
    go_wp2
    obtain ⟨W, hW⟩ : ∃ W, W = (((w.alloc (.cells #[.int .i64 2, .int .i64 imm, sv []] 67)).alloc (.cells #[sv [UInt8.ofNat imm.toNat], sv ([] : List UInt8), .int .i64 s.st.length, .int .i64 ((s.code.length : Int)), .bool false, .nilFunc, .slice none 0 0] 226)).alloc (.cells #[.int .u8 imm] 5)) := ⟨_, rfl⟩
    rw [← hW]
    obtain ⟨bb, hbbe⟩ : ∃ bb, bb = w.heap.size + 1 := ⟨_, rfl⟩
    have r1 : CkRep B W bk fx L s := by rw [hW]; exact (((h.alloc _).alloc _).alloc _)
    have st1 : CkStep w W bk L L := by rw [hW]; exact ((((CkStep.refl _ _ _).alloc _).alloc _).alloc _)
    have kb : Has W bb #[sv [UInt8.ofNat imm.toNat], sv ([] : List UInt8), .int .i64 s.st.length, .int .i64 ((s.code.length : Int)), .bool false, .nilFunc, .slice none 0 0] 226 := by
      rw [hW, hbbe]
      have := Has.new (w.alloc (.cells #[.int .i64 2, .int .i64 imm, sv []] 67)) #[sv [UInt8.ofNat imm.toNat], sv ([] : List UInt8), .int .i64 s.st.length, .int .i64 ((s.code.length : Int)), .bool false, .nilFunc, .slice none 0 0] 226
      simpa using this.alloc (.cells #[.int .u8 imm] 5)
    have hbb : ¬ CkS bk L bb := h.new (by omega)
    have hA : AltV W bk .nilFunc none := rfl
    rw [← hbbe] at *
    clear hW
    have hav : Value.oneCell' .nilFunc = true := rfl
    clear h c2 c3 c4 f3 hb hb1 hb2 hcv
    have k0 := kb.cell 0
    have k1 := kb.cell 1
    have k2 := kb.cell 2
    have k3 := kb.cell 3
    have k4 := kb.cell 4
    have k5 := kb.cell 5
    have k6 := kb.cell 6
    have d3 := r1.here.cell 3
    simp at k0 k1 k2 k3 k4 k5 k6 d3
    have l0 := kb.lt
    have l1 := r1.here.lt
    have hne := owns_ne r1.opn r1.here (by decide)
    have hne1 : (Value.slice L.oa s.opn.length L.oc).ownBlock ≠ some bb := fun e => hbb (.inr (.inr (.inl (by rw [ownBlock_any _ _ _ s.opn.length L.oc]; exact e))))
    refine wp_region_app rowBlk 6 (by kernel_rfl) (by kernel_rfl) (fun _ _ _ _ _ h => h) _ _ _ rfl (.tmp 50) (.tmp 49) 51 52 rfl rfl rfl rfl rfl rfl _ _ _ r1.opn (.agg #[sv [UInt8.ofNat imm.toNat], sv ([] : List UInt8), .int .i64 s.st.length, .int .i64 ((s.code.length : Int)), .bool false, .nilFunc, .slice none 0 0]) rfl (by decide) (by simp [Value.cells, Value.oneCell', hav]) (by omega) ?_
    intro g cap w2 q1 q2 q3 q4
    have kb' : Has w2 bb _ _ := (kb.alloc _).fr q2 hne1
    have hH' : Has w2 bk _ _ := (r1.here.alloc _).fr q2 hne
    have j0 := kb'.cell 0
    have j1 := kb'.cell 1
    have j2 := kb'.cell 2
    have j3 := kb'.cell 3
    have j4 := kb'.cell 4
    have j5 := kb'.cell 5
    have j6 := kb'.cell 6
    have i3 := hH'.cell 3
    have e3 := hH'.frozen 3
    simp at j0 j1 j2 j3 j4 j5 j6 i3
    obtain ⟨n1, n2, n3, n4, n5⟩ := app_net r1.here hne q2 q1 (by decide) q3 q4 3
    have knd := r1.kind r1.opn (by decide)
    have fin := r1.pushOpn { res := [UInt8.ofNat imm.toNat], carry := ([] : List UInt8), height := s.st.length, head := (s.code.length : Int), dead := false, alt := none, wait := [] } .nilFunc n1 n2 (by simpa [blkCells, Value.cells] using n3) n4 (hA.fr n1 knd) rfl
    have FIN : Hid (_ ∧ _) := ⟨fin.1, st1.trans fin.2⟩
    clear n1 n2 n3 n4 n5 fin q1 q2 q3 q4 hne hne1 r1 st1 kb kb' hH' knd hA hbb
    simp only [List.take_succ_cons, List.take_zero]
    repeat go_big_quiet_step (fail)
    refine wpQuiet_nil ⟨rfl, rfl, by simp, rfl, ?_⟩
    go_wp2
    go_ret
    exact ⟨rfl, _, FIN.out⟩
set_option maxRecDepth 100000 in
set_option maxHeartbeats 1000000 in
theorem enter_3 (B bk : Nat) (fx : CkF) (L : CkL) (s : Ck) (imm : Int) (w : World) (h : CkRep B w bk fx L s) {b : Blk} {r : List Blk} (ht : s.Top b r) (ho : s.opn.length ≤ 1000) (hs : s.st.length ≤ 1000) (hc : s.code.length ≤ 1000) (hi : 0 ≤ imm ∧ imm ≤ 255) :
    Calls Tryz.prog 119 #[.pointer (some ⟨bk, 0, none⟩), .agg #[.int .i64 3, .int .i64 imm, sv []]] w fun e w' => e = .returned (.int .i64 (s.enter ⟨3, imm, []⟩).2) ∧ ∃ L', CkRep B w' bk fx L' (s.enter ⟨3, imm, []⟩).1 ∧ CkStep w w' bk L L' := by
  have hb := h.here.lt
  have hcv := conv1
  have hro : r.length ≤ 1000 := by have := ht.opn; rw [this] at ho; simp at ho; omega
  have p1 := s.pops_opn [105]
  have p2 := s.pops_code [105]
  have p3 := s.pops_len [105]
  by_cases hi0 : imm = 0
  · subst hi0
    have e0 : s.enter ⟨3, 0, []⟩ = ({ (s.pops [105]).1 with code := s.code ++ [{ op := 3, imm := -1, keep := 0, cut := 0 }], opn := { res := ([] : List UInt8), carry := ([] : List UInt8), height := (s.pops [105]).1.st.length, head := -1, dead := false, alt := some s.code.length, wait := [] } :: s.opn }, (s.pops [105]).2) := by simp [Ck.enter, resOf]
    rw [e0]
    clear e0
    obtain ⟨W, hW⟩ : ∃ W, W = ((w.alloc (.cells #[.int .i64 3, .int .i64 0, sv []] 67)).alloc (.cells #[sv ([] : List UInt8), sv ([] : List UInt8), .int .i64 0, .int .i64 (-1), .bool false, .nilFunc, .slice none 0 0] 226)) := ⟨_, rfl⟩
    obtain ⟨bb, hbbe⟩ : ∃ bb, bb = w.heap.size + 1 := ⟨_, rfl⟩
    have r0 : CkRep B W bk fx L s := by rw [hW]; exact ((h.alloc _).alloc _)
    have st0 : CkStep w W bk L L := by rw [hW]; exact (((CkStep.refl _ _ _).alloc _).alloc _)
    have kb0 : Has W bb #[sv ([] : List UInt8), sv ([] : List UInt8), .int .i64 0, .int .i64 (-1), .bool false, .nilFunc, .slice none 0 0] 226 := by
      rw [hW, hbbe]
      have := Has.new (w.alloc (.cells #[.int .i64 3, .int .i64 0, sv []] 67)) #[sv ([] : List UInt8), sv ([] : List UInt8), .int .i64 0, .int .i64 (-1), .bool false, .nilFunc, .slice none 0 0] 226
      simpa using this
    have hbb : ¬ CkS bk L bb := h.new (by omega)
    have hcall := pops_any B bk fx L s [105] W r0 ht hro hs (by decide)
    generalize hp : s.pops [105] = p at *
    obtain ⟨s1, er⟩ := p
    simp only at hcall p1 p2 p3 ⊢
    rw [← p1, ← p2]
    clear hp
    have HC : Hid (Calls Tryz.prog 115 _ _ _) := hcall
    have R0 : Hid (CkRep B W bk fx L s) := r0
    have HW : Hid (W = _) := hW
    have HB : Hid (bb = w.heap.size + 1) := hbbe
    have ks : s1.code.length ≤ 1000 := by rw [p2]; exact hc
    have os : s1.opn.length ≤ 1000 := by rw [p1]; exact ho
    clear hcall hW hbbe r0 p1 p2 h ht ho hc
    go_enter Tryz.func119, Tryz.ntmps119
    go_wp2_with fail
    rw [← HW.out]
    refine HC.out.mono ?_
    rintro e w1 ⟨rfl, g1, g2⟩
    rw [← HB.out]
    have kb1 : Has w1 bb _ _ := g2.has kb0 hbb
    go_wp2_with fail
    refine (hole_any B bk fx L s1 { op := 3, imm := -1, keep := 0, cut := 0 } w1 g1 ks).mono ?_
    rintro e w2 ⟨v, ca, cc, rfl, hv, g3, g4⟩
    have kb2 : Has w2 bb _ _ := g4.has kb1 hbb
    have st2 := (st0.trans g2).trans g4
    have l2 := kb2.lt
    have d2 := g3.here.cell 2
    have b2 := kb2.cell 2
    have b5 := kb2.cell 5
    simp at d2 b2 b5
    have fb2 := kb2.frozen 2
    have fb5 := kb2.frozen 5
    have hkb : bk ≠ bb := g3.here.ne kb2 (by decide)
    have hkb' : bb ≠ bk := Ne.symm hkb
    have hv' := hv
    obtain ⟨x1, x2, rfl, _, _⟩ := hv'
    have kb3 := (kb2.put 5 (.func (.func 144) #[] #[.pointer (some ⟨x1, 0, none⟩), .pointer (some ⟨x2, 0, none⟩)])).put 2 (.int .i64 s1.st.length)
    have F3 : Fr (fun k => k = bb) w2 ((w2.setCell ⟨bb, 5, none⟩ (.func (.func 144) #[] #[.pointer (some ⟨x1, 0, none⟩), .pointer (some ⟨x2, 0, none⟩)])).setCell ⟨bb, 2, none⟩ (.int .i64 s1.st.length)) :=
      Fr.setCell (S := fun k => k = bb) (Fr.setCell (S := fun k => k = bb) (Fr.refl _ _) (p := ⟨bb, 5, none⟩) (.inl rfl) _) (p := ⟨bb, 2, none⟩) (.inl rfl) _
    have hbb2 : ¬ CkS bk { L with ca := ca, cc := cc } bb := fun hS => hbb ((g2.trans g4).sub bb kb0.lt hS)
    have knd2 : ∀ k cs T, Has w2 k cs T → k = bb → T ≠ 189 ∧ T ≠ 3 := by
      rintro k cs T hk rfl
      have := hk.symm.trans kb2
      simp at this
      rw [this.2]; decide
    obtain ⟨W3, hW3⟩ : ∃ W3, W3 = ((w2.setCell ⟨bb, 5, none⟩ (.func (.func 144) #[] #[.pointer (some ⟨x1, 0, none⟩), .pointer (some ⟨x2, 0, none⟩)])).setCell ⟨bb, 2, none⟩ (.int .i64 s1.st.length)) := ⟨_, rfl⟩
    rw [← hW3] at F3 kb3
    have r1 : CkRep B W3 bk fx { L with ca := ca, cc := cc } { s1 with code := s1.code ++ [{ op := 3, imm := -1, keep := 0, cut := 0 }] } := g3.fr F3 (fun k hk e => by subst e; exact hbb2 hk) knd2
    have hA : AltV W3 bk (.func (.func 144) #[] #[.pointer (some ⟨x1, 0, none⟩), .pointer (some ⟨x2, 0, none⟩)]) (some s1.code.length) := HoleV.fr hv F3 knd2
    have st1 : CkStep w W3 bk L { L with ca := ca, cc := cc } := ⟨st2.fr.trans F3 (fun j hj e => by have := HB.out; omega), st2.sub⟩
    have kb : Has W3 bb #[sv ([] : List UInt8), sv ([] : List UInt8), .int .i64 s1.st.length, .int .i64 (-1), .bool false, .func (.func 144) #[] #[.pointer (some ⟨x1, 0, none⟩), .pointer (some ⟨x2, 0, none⟩)], .slice none 0 0] 226 := by simpa using kb3
    have HW3 : Hid (W3 = _) := hW3
    clear hW3 g1 g2 g3 g4 kb0 kb1 kb2 kb3 st0 st2 F3 hv HC R0 HW knd2
    go_wp2
    rw [← HW3.out]
    clear HW3 d2 b2 b5 fb2 fb5 hkb hkb' l2 hbb hcv hb
    have hbb := hbb2
    have hav : Value.oneCell' (.func (.func 144) #[] #[.pointer (some ⟨x1, 0, none⟩), .pointer (some ⟨x2, 0, none⟩)]) = true := rfl
    have k0 := kb.cell 0
    have k1 := kb.cell 1
    have k2 := kb.cell 2
    have k3 := kb.cell 3
    have k4 := kb.cell 4
    have k5 := kb.cell 5
    have k6 := kb.cell 6
    have d3 := r1.here.cell 3
    simp at k0 k1 k2 k3 k4 k5 k6 d3
    have l0 := kb.lt
    have l1 := r1.here.lt
    have hne := owns_ne r1.opn r1.here (by decide)
    have hne1 : (Value.slice L.oa s1.opn.length L.oc).ownBlock ≠ some bb := fun e => hbb (.inr (.inr (.inl (by rw [ownBlock_any _ _ _ s1.opn.length L.oc]; exact e))))
    refine wp_region_app rowBlk 6 (by kernel_rfl) (by kernel_rfl) (fun _ _ _ _ _ h => h) _ _ _ rfl (.tmp 50) (.tmp 49) 51 52 rfl rfl rfl rfl rfl rfl _ _ _ r1.opn (.agg #[sv ([] : List UInt8), sv ([] : List UInt8), .int .i64 s1.st.length, .int .i64 (-1), .bool false, (.func (.func 144) #[] #[.pointer (some ⟨x1, 0, none⟩), .pointer (some ⟨x2, 0, none⟩)]), .slice none 0 0]) rfl (by decide) (by simp [Value.cells, Value.oneCell', hav]) (by show (s1.opn.length + 1) * (88 + 1) ≤ _; omega) ?_
    intro g cap w2 q1 q2 q3 q4
    have kb' : Has w2 bb _ _ := (kb.alloc _).fr q2 hne1
    have hH' : Has w2 bk _ _ := (r1.here.alloc _).fr q2 hne
    have j0 := kb'.cell 0
    have j1 := kb'.cell 1
    have j2 := kb'.cell 2
    have j3 := kb'.cell 3
    have j4 := kb'.cell 4
    have j5 := kb'.cell 5
    have j6 := kb'.cell 6
    have i3 := hH'.cell 3
    have e3 := hH'.frozen 3
    simp at j0 j1 j2 j3 j4 j5 j6 i3
    obtain ⟨n1, n2, n3, n4, n5⟩ := app_net r1.here hne q2 q1 (by decide) q3 q4 3
    have knd := r1.kind r1.opn (by decide)
    have fin := r1.pushOpn { res := ([] : List UInt8), carry := ([] : List UInt8), height := s1.st.length, head := -1, dead := false, alt := some s1.code.length, wait := [] } (.func (.func 144) #[] #[.pointer (some ⟨x1, 0, none⟩), .pointer (some ⟨x2, 0, none⟩)]) n1 n2 (by simpa [blkCells, Value.cells] using n3) n4 (hA.fr n1 knd) rfl
    have FIN : Hid (_ ∧ _) := ⟨fin.1, st1.trans fin.2⟩
    clear n1 n2 n3 n4 n5 fin q1 q2 q3 q4 hne hne1 r1 st1 kb kb' hH' knd hA hbb
    simp only [List.take_succ_cons, List.take_zero]
    repeat go_big_quiet_step (fail)
    refine wpQuiet_nil ⟨rfl, rfl, by simp, rfl, ?_⟩
    go_wp2
    go_ret
    exact ⟨rfl, _, FIN.out⟩
  · have hi1 : (imm != 0) = true := by rw [bne_iff_ne]; exact hi0
    have e0 : s.enter ⟨3, imm, []⟩ = ({ (s.pops [105]).1 with code := s.code ++ [{ op := 3, imm := -1, keep := 0, cut := 0 }], opn := { res := [UInt8.ofNat imm.toNat], carry := [UInt8.ofNat imm.toNat], height := (s.pops [105]).1.st.length, head := -1, dead := false, alt := some s.code.length, wait := [] } :: s.opn }, (s.pops [105]).2) := by simp [Ck.enter, resOf, hi0]
    rw [e0]
    clear e0 hi0
    obtain ⟨W, hW⟩ : ∃ W, W = (((w.alloc (.cells #[.int .i64 3, .int .i64 imm, sv []] 67)).alloc (.cells #[sv [UInt8.ofNat imm.toNat], sv [UInt8.ofNat imm.toNat], .int .i64 0, .int .i64 (-1), .bool false, .nilFunc, .slice none 0 0] 226)).alloc (.cells #[.int .u8 imm] 5)) := ⟨_, rfl⟩
    obtain ⟨bb, hbbe⟩ : ∃ bb, bb = w.heap.size + 1 := ⟨_, rfl⟩
    have r0 : CkRep B W bk fx L s := by rw [hW]; exact (((h.alloc _).alloc _).alloc _)
    have st0 : CkStep w W bk L L := by rw [hW]; exact ((((CkStep.refl _ _ _).alloc _).alloc _).alloc _)
    have kb0 : Has W bb #[sv [UInt8.ofNat imm.toNat], sv [UInt8.ofNat imm.toNat], .int .i64 0, .int .i64 (-1), .bool false, .nilFunc, .slice none 0 0] 226 := by
      rw [hW, hbbe]
      have := Has.new (w.alloc (.cells #[.int .i64 3, .int .i64 imm, sv []] 67)) #[sv [UInt8.ofNat imm.toNat], sv [UInt8.ofNat imm.toNat], .int .i64 0, .int .i64 (-1), .bool false, .nilFunc, .slice none 0 0] 226
      simpa using this.alloc (.cells #[.int .u8 imm] 5)
    have hbb : ¬ CkS bk L bb := h.new (by omega)
    have hcall := pops_any B bk fx L s [105] W r0 ht hro hs (by decide)
    generalize hp : s.pops [105] = p at *
    obtain ⟨s1, er⟩ := p
    simp only at hcall p1 p2 p3 ⊢
    rw [← p1, ← p2]
    clear hp
    have HC : Hid (Calls Tryz.prog 115 _ _ _) := hcall
    have R0 : Hid (CkRep B W bk fx L s) := r0
    have HW : Hid (W = _) := hW
    have HB : Hid (bb = w.heap.size + 1) := hbbe
    have ks : s1.code.length ≤ 1000 := by rw [p2]; exact hc
    have os : s1.opn.length ≤ 1000 := by rw [p1]; exact ho
    clear hcall hW hbbe r0 p1 p2 h ht ho hc
    go_enter Tryz.func119, Tryz.ntmps119
    go_wp2_with fail
    rw [← HW.out]
    refine HC.out.mono ?_
    rintro e w1 ⟨rfl, g1, g2⟩
    rw [← HB.out]
    have kb1 : Has w1 bb _ _ := g2.has kb0 hbb
    go_wp2_with fail
    refine (hole_any B bk fx L s1 { op := 3, imm := -1, keep := 0, cut := 0 } w1 g1 ks).mono ?_
    rintro e w2 ⟨v, ca, cc, rfl, hv, g3, g4⟩
    have kb2 : Has w2 bb _ _ := g4.has kb1 hbb
    have st2 := (st0.trans g2).trans g4
    have l2 := kb2.lt
    have d2 := g3.here.cell 2
    have b2 := kb2.cell 2
    have b5 := kb2.cell 5
    simp at d2 b2 b5
    have fb2 := kb2.frozen 2
    have fb5 := kb2.frozen 5
    have hkb : bk ≠ bb := g3.here.ne kb2 (by decide)
    have hkb' : bb ≠ bk := Ne.symm hkb
    have hv' := hv
    obtain ⟨x1, x2, rfl, _, _⟩ := hv'
    have kb3 := (kb2.put 5 (.func (.func 144) #[] #[.pointer (some ⟨x1, 0, none⟩), .pointer (some ⟨x2, 0, none⟩)])).put 2 (.int .i64 s1.st.length)
    have F3 : Fr (fun k => k = bb) w2 ((w2.setCell ⟨bb, 5, none⟩ (.func (.func 144) #[] #[.pointer (some ⟨x1, 0, none⟩), .pointer (some ⟨x2, 0, none⟩)])).setCell ⟨bb, 2, none⟩ (.int .i64 s1.st.length)) :=
      Fr.setCell (S := fun k => k = bb) (Fr.setCell (S := fun k => k = bb) (Fr.refl _ _) (p := ⟨bb, 5, none⟩) (.inl rfl) _) (p := ⟨bb, 2, none⟩) (.inl rfl) _
    have hbb2 : ¬ CkS bk { L with ca := ca, cc := cc } bb := fun hS => hbb ((g2.trans g4).sub bb kb0.lt hS)
    have knd2 : ∀ k cs T, Has w2 k cs T → k = bb → T ≠ 189 ∧ T ≠ 3 := by
      rintro k cs T hk rfl
      have := hk.symm.trans kb2
      simp at this
      rw [this.2]; decide
    obtain ⟨W3, hW3⟩ : ∃ W3, W3 = ((w2.setCell ⟨bb, 5, none⟩ (.func (.func 144) #[] #[.pointer (some ⟨x1, 0, none⟩), .pointer (some ⟨x2, 0, none⟩)])).setCell ⟨bb, 2, none⟩ (.int .i64 s1.st.length)) := ⟨_, rfl⟩
    rw [← hW3] at F3 kb3
    have r1 : CkRep B W3 bk fx { L with ca := ca, cc := cc } { s1 with code := s1.code ++ [{ op := 3, imm := -1, keep := 0, cut := 0 }] } := g3.fr F3 (fun k hk e => by subst e; exact hbb2 hk) knd2
    have hA : AltV W3 bk (.func (.func 144) #[] #[.pointer (some ⟨x1, 0, none⟩), .pointer (some ⟨x2, 0, none⟩)]) (some s1.code.length) := HoleV.fr hv F3 knd2
    have st1 : CkStep w W3 bk L { L with ca := ca, cc := cc } := ⟨st2.fr.trans F3 (fun j hj e => by have := HB.out; omega), st2.sub⟩
    have kb : Has W3 bb #[sv [UInt8.ofNat imm.toNat], sv [UInt8.ofNat imm.toNat], .int .i64 s1.st.length, .int .i64 (-1), .bool false, .func (.func 144) #[] #[.pointer (some ⟨x1, 0, none⟩), .pointer (some ⟨x2, 0, none⟩)], .slice none 0 0] 226 := by simpa using kb3
    have HW3 : Hid (W3 = _) := hW3
    clear hW3 g1 g2 g3 g4 kb0 kb1 kb2 kb3 st0 st2 F3 hv HC R0 HW knd2
    go_wp2
    rw [← HW3.out]
    clear HW3 d2 b2 b5 fb2 fb5 hkb hkb' l2 hbb hcv hb
    have hbb := hbb2
    have hav : Value.oneCell' (.func (.func 144) #[] #[.pointer (some ⟨x1, 0, none⟩), .pointer (some ⟨x2, 0, none⟩)]) = true := rfl
    have k0 := kb.cell 0
    have k1 := kb.cell 1
    have k2 := kb.cell 2
    have k3 := kb.cell 3
    have k4 := kb.cell 4
    have k5 := kb.cell 5
    have k6 := kb.cell 6
    have d3 := r1.here.cell 3
    simp at k0 k1 k2 k3 k4 k5 k6 d3
    have l0 := kb.lt
    have l1 := r1.here.lt
    have hne := owns_ne r1.opn r1.here (by decide)
    have hne1 : (Value.slice L.oa s1.opn.length L.oc).ownBlock ≠ some bb := fun e => hbb (.inr (.inr (.inl (by rw [ownBlock_any _ _ _ s1.opn.length L.oc]; exact e))))
    refine wp_region_app rowBlk 6 (by kernel_rfl) (by kernel_rfl) (fun _ _ _ _ _ h => h) _ _ _ rfl (.tmp 50) (.tmp 49) 51 52 rfl rfl rfl rfl rfl rfl _ _ _ r1.opn (.agg #[sv [UInt8.ofNat imm.toNat], sv [UInt8.ofNat imm.toNat], .int .i64 s1.st.length, .int .i64 (-1), .bool false, (.func (.func 144) #[] #[.pointer (some ⟨x1, 0, none⟩), .pointer (some ⟨x2, 0, none⟩)]), .slice none 0 0]) rfl (by decide) (by simp [Value.cells, Value.oneCell', hav]) (by show (s1.opn.length + 1) * (88 + 1) ≤ _; omega) ?_
    intro g cap w2 q1 q2 q3 q4
    have kb' : Has w2 bb _ _ := (kb.alloc _).fr q2 hne1
    have hH' : Has w2 bk _ _ := (r1.here.alloc _).fr q2 hne
    have j0 := kb'.cell 0
    have j1 := kb'.cell 1
    have j2 := kb'.cell 2
    have j3 := kb'.cell 3
    have j4 := kb'.cell 4
    have j5 := kb'.cell 5
    have j6 := kb'.cell 6
    have i3 := hH'.cell 3
    have e3 := hH'.frozen 3
    simp at j0 j1 j2 j3 j4 j5 j6 i3
    obtain ⟨n1, n2, n3, n4, n5⟩ := app_net r1.here hne q2 q1 (by decide) q3 q4 3
    have knd := r1.kind r1.opn (by decide)
    have fin := r1.pushOpn { res := [UInt8.ofNat imm.toNat], carry := [UInt8.ofNat imm.toNat], height := s1.st.length, head := -1, dead := false, alt := some s1.code.length, wait := [] } (.func (.func 144) #[] #[.pointer (some ⟨x1, 0, none⟩), .pointer (some ⟨x2, 0, none⟩)]) n1 n2 (by simpa [blkCells, Value.cells] using n3) n4 (hA.fr n1 knd) rfl
    have FIN : Hid (_ ∧ _) := ⟨fin.1, st1.trans fin.2⟩
    clear n1 n2 n3 n4 n5 fin q1 q2 q3 q4 hne hne1 r1 st1 kb kb' hH' knd hA hbb
    simp only [List.take_succ_cons, List.take_zero]
    repeat go_big_quiet_step (fail)
    refine wpQuiet_nil ⟨rfl, rfl, by simp, rfl, ?_⟩
    go_wp2
    go_ret
    exact ⟨rfl, _, FIN.out⟩
end Go.Proofs.Qxb6500575aGreatDoor
