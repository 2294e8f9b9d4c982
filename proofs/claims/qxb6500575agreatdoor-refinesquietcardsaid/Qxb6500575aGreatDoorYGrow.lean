/-
  THE WALKS of machm.Grow, New and Show, exact.
-/
import Derived.Test.Qxb6500575aGreatDoorYStore
import Derived.Test.Qxb6500575aGreatDoorKShow
import Derived.Test.Qxb6500575aGreatDoorSwap
namespace Go.Proofs.Qxb6500575aGreatDoor
open Go Go.RowKit
set_option linter.unusedVariables false
set_option linter.unusedSimpArgs false

section
variable {w : World} {bm : Nat} {L : ML} {mem : List UInt8} {max : Nat}
/-- one byte is appended -/
theorem MKRep.more (h : MKRep w bm L mem max) (hle : mem.length + 1 ≤ max * 8) {w1 w2 : World} {g cap : Nat} (b : UInt8) (hf : Fr (fun _ => False) w w1) (q1 : w2.ownsRow 0 5 1 (.slice (some ⟨g, 0, none⟩) (mem.length + 1) cap) (mem.length + 1) (byteCells mem ++ [.int .u8 b.toNat])) (q2 : Fr (fun k => (Value.slice L.ma mem.length L.mc).ownBlock = some k) w1 w2) (q3 : (Value.slice L.ma mem.length L.mc).ownBlock = some g ∨ w.heap.size ≤ g) :
    MKRep (w2.setCell ⟨bm, 0, none⟩ (.slice (some ⟨g, 0, none⟩) (mem.length + 1) cap)) bm ⟨some ⟨g, 0, none⟩, cap⟩ (mem ++ [b]) max ∧ MKStep w (w2.setCell ⟨bm, 0, none⟩ (.slice (some ⟨g, 0, none⟩) (mem.length + 1) cap)) bm L ⟨some ⟨g, 0, none⟩, cap⟩ := by
  have hn : ¬ (Value.slice L.ma mem.length L.mc).ownBlock = some bm := owns_ne h.row h.here (by decide)
  have hh : Has w2 bm _ _ := (h.here.fr hf (fun e => e)).fr q2 hn
  have hne : g ≠ bm := fun e => by
    rcases q3 with q3 | q3
    · exact hn (e ▸ q3)
    · have := h.here.lt; omega
  have hF : Fr (MKS bm L) w w2 := (hf.weaken (fun _ _ h => h.elim)).trans q2 (fun k _ hk => .inr (by rw [ownBlock_any _ _ _ mem.length L.mc]; exact hk))
  refine ⟨⟨?_, ?_, by simpa using hle, h.max⟩, hF.setCell (.inl (.inl rfl)) _, fun k hk hS => ?_⟩
  · have := hh.put 0 (.slice (some ⟨g, 0, none⟩) (mem.length + 1) cap)
    simpa using this
  · have e : byteCells mem ++ [.int .u8 b.toNat] = byteCells (mem ++ [b]) := by simp [byteCells]
    rw [e] at q1
    have := owns_other q1 (p := ⟨bm, 0, none⟩) (fun e => hne (by simpa [Value.ownBlock] using e)) (.slice (some ⟨g, 0, none⟩) (mem.length + 1) cap)
    simpa using this
  · rcases hS with rfl | hS
    · exact .inl rfl
    · simp [Value.ownBlock] at hS
      subst hS
      rcases q3 with q3 | q3
      · exact .inr (by rw [ownBlock_any _ _ _ mem.length L.mc]; exact q3)
      · omega
set_option maxRecDepth 100000
set_option maxHeartbeats 1000000
theorem ygrow_any (h : MKRep w bm L mem max) (hd : mem.length % 8 = 0) (n : Int) : Calls Tryz.prog 149 #[.pointer (some ⟨bm, 0, none⟩), .int .i64 n] w fun e w' => ∃ L', e = .returned (.int .i64 (growP mem max n).2) ∧ MKRep w' bm L' (growP mem max n).1 max ∧ MKStep w w' bm L L' := by
  obtain ⟨r, HR⟩ : ∃ r, Hid (r = growP mem max n) := ⟨_, rfl⟩
  rw [← HR.out]
  obtain ⟨r1, r2⟩ := r
  have c0 := h.here.cell 0
  have c1 := h.here.cell 1
  simp at c0 c1
  have hle := h.le
  have hmx := h.max
  obtain ⟨m, hm⟩ : ∃ m : Nat, bits .and .i64 n 4294967295 = m := ⟨(bits .and .i64 n 4294967295).toNat, by have := and32 n; omega⟩
  have HM : Hid (n % 4294967296 = m) := by show _ = _; rw [← hm, andiU]
  have hml : m ≤ 4294967295 := by have := and32 n; omega
  obtain ⟨pg, HPG⟩ : ∃ pg : Nat, Hid (mem.length = pg * 8) := ⟨mem.length / 8, by show _ = _; omega⟩
  have hpg := HPG.out
  have H : Hid (MKRep w bm L mem max) := h
  have hq : (mem.length : Int) / 8 = (pg : Int) := by omega
  have HG : Hid (growP mem max n = if (max : Int) - pg < m then (mem, -1) else (mem ++ List.replicate (m * 8) 0, (pg : Int))) := by
    show _ = _
    unfold growP
    rw [HM.out, show mem.length / 8 = pg by omega, Int.toNat_natCast]
  clear h
  by_cases hbig : (max : Int) - pg < m
  · have hr := HG.out
    rw [if_pos hbig, ← HR.out] at hr
    simp only [Prod.mk.injEq] at hr
    obtain ⟨rfl, rfl⟩ := hr
    clear hd hpg
    go_enter Tryz.func149, Tryz.ntmps149
    go_wp2
    go_ret
    exact ⟨L, rfl, H.out, MKStep.refl _ _ _⟩
  · have hr := HG.out
    rw [if_neg hbig, ← HR.out] at hr
    simp only [Prod.mk.injEq] at hr
    obtain ⟨HR1, rfl⟩ := hr
    replace HR1 : Hid (r1 = _) := HR1
    have hm4 : m ≤ 4 := by omega
    have hup : mem.length + m * 8 ≤ max * 8 := by omega
    clear hd hpg HR HG
    go_enter Tryz.func149, Tryz.ntmps149
    go_wp2
    clear c0 c1
    go_loopw [6] (fun t wr => ∃ (j : Nat) (L1 : ML), j ≤ m * 8 ∧ t = .int .i64 j ∧ Hid (MKRep wr bm L1 (mem ++ List.replicate j 0) max) ∧ Hid (MKStep w wr bm L L1)) (fun t _ => m * 8 - (intOf t).toNat)
    case atStart => exact ⟨0, L, Nat.zero_le _, rfl, by show MKRep _ _ _ _ _; simpa using H.out, MKStep.refl _ _ _⟩
    case round =>
      obtain ⟨j, L1, hj, rfl, HK, HS⟩ := hrel
      by_cases hlt : j < m * 8
      · have hlt2 : (j : Int) < (m : Int) * 8 := by omega
        obtain ⟨ms, HMS⟩ : ∃ ms, Hid (ms = mem ++ List.replicate j (0 : UInt8)) := ⟨_, rfl⟩
        rw [← HMS.out] at HK
        have hmsl : ms.length = mem.length + j := by rw [HMS.out]; simp
        have c0 := HK.out.here.cell 0
        simp at c0
        have f0 := HK.out.here.frozen 0
        have k0 := HK.out.here.lt
        have hroom : ms.length + 1 ≤ max * 8 := by omega
        have hsm : ms.length ≤ 32 := by omega
        clear hmsl
        go_wp2_with (at_builtin; go_must (refine wpList_app rowByte _ rfl (.tmp 33) (.tmp 34) rfl _ _ _ rfl (owns_alloc HK.out.row _) _ [.int .u8 0] rfl (Has.new _ _ _) rfl ?one ?bd ?go))
        case one => simp [Value.oneCell']
        case bd => omega
        case go =>
          intro g cap w2 q1 q2 q3 q4
          have hq3 : (Value.slice L1.ma ms.length L1.mc).ownBlock = some g ∨ wr.heap.size ≤ g := by
            rcases q3 with q3 | q3
            · exact .inl q3
            · right; rw [q3]; simp
          obtain ⟨r1', r2'⟩ := HK.out.more hroom (b := 0) ((Fr.refl _ _).alloc _) q1 q2 hq3
          have hn : ¬ (Value.slice L1.ma ms.length L1.mc).ownBlock = some bm := owns_ne HK.out.row HK.out.here (by decide)
          have hh : Has w2 bm _ _ := (HK.out.here.alloc _).fr q2 hn
          have d0 := hh.cell 0
          simp at d0
          have g0 := hh.frozen 0
          have g1 := hh.lt
          have R1 : Hid (MKRep _ _ _ _ _) := r1'
          have R2 : Hid (MKStep _ _ _ _ _) := r2'
          clear q1 q2 q3 q4 r1' r2' hh hn hq3
          go_wp2
          go_roundw
          case rel =>
            refine ⟨j + 1, _, by omega, by go_num, ?_, HS.out.trans R2.out⟩
            have e : mem ++ List.replicate (j + 1) (0 : UInt8) = ms ++ [0] := by rw [HMS.out, List.replicate_succ']; simp
            rw [e]
            exact R1.out
          case measure => simp [intOf]; omega
      · obtain rfl : j = m * 8 := by omega
        have hnl : ¬ ((m * 8 : Nat) : Int) < (m : Int) * 8 := by omega
        go_wp2
        go_ret
        exact ⟨rfl, L1, by rw [HR1.out]; exact HK.out, HS.out⟩
end
set_option maxRecDepth 100000
set_option maxHeartbeats 1000000
theorem ynew_any (a b : Nat) (h1 : a ≤ b) (h2 : b ≤ 4) (w : World) : Calls Tryz.prog 37 #[.int .i64 a, .int .i64 b] w fun e w' => ∃ bm L, e = .returned (.tuple #[.pointer (some ⟨bm, 0, none⟩), .int .i64 0]) ∧ MKRep w' bm L (List.replicate (a * 8) 0) b ∧ Fr (fun _ => False) w w' ∧ ∀ k, MKS bm L k → w.heap.size ≤ k := by
  have hi : (Tryz.prog.info? 5).map (fun i => (i.zero, i.size, i.bytes)) = some (some (.int .u8 0), 1, 1) := by kernel_rfl
  obtain ⟨ti, hti, hz, hsz, hby⟩ := info_parts hi
  have ht : Tryz.prog.underlying 134 = some (.slice 5) := by kernel_rfl
  have h3 : (a : Int) ≤ b := by omega
  go_enter Tryz.func37, Tryz.ntmps37
  go_wp2_with (at_make; go_must (refine wpList_make_full _ rfl _ _ 134 rfl 0 5 ti (.int .u8 0) 1 ht hti hz hsz .i64 .i64 _ _ (a * 8) rfl rfl (by simp) (by simp) (by rw [hby]; omega) (by unfold maxLen; omega) (Nat.zero_le _) ?mk))
  case mk =>
    intro w1 hown hgrow
    have HO : Hid (World.ownsRow w1 0 5 1 (.slice (some ⟨w.heap.size, 0, none⟩) (a * 8) (a * 8)) (a * 8) (List.replicate (a * 8) (.int .u8 0))) := by
      show World.ownsRow _ _ _ _ _ _ _
      rw [← toList_madeCells_one]
      exact hown
    have HG : Hid (Fr (fun _ => False) w w1) := (Fr.of_grown hgrow).weaken (fun k _ h => by cases h)
    clear hown hgrow
    obtain ⟨gp, hgp⟩ : ∃ gp, gp = w.heap.size := ⟨_, rfl⟩
    rw [← hgp] at HO ⊢
    have HGP : Hid (gp = w.heap.size) := hgp
    clear hgp
    go_wp2
    go_ret2
    refine ⟨w1.heap.size, ⟨some ⟨gp, 0, none⟩, a * 8⟩, rfl, ?_, HG.out.alloc _, ?_⟩
    · refine ⟨?_, ?_, by simp; omega, h2⟩
      · have := Has.new w1 #[.slice (some ⟨gp, 0, none⟩) (a * 8) (a * 8), .int .i64 b] 146
        simpa using this
      · have := owns_alloc HO.out (.cells #[.slice (some ⟨gp, 0, none⟩) (a * 8) (a * 8), .int .i64 b] 146)
        simpa [byteCells] using this
    · rintro k (rfl | hk)
      · exact HG.out.size
      · simp [Value.ownBlock] at hk
        rw [← hk, HGP.out]
        exact Nat.le_refl _
/-- the model's text of a memory -/
def memText (mem : List UInt8) (max : Nat) (j : Nat) : List UInt8 := numT (mem.length / 8 : Nat) ++ numT max ++ (mem.take j).flatMap (fun b => numT b.toNat)
theorem KD.text_flat (d : KD) : d.text = memText d.flat d.max d.flat.length := by
  unfold KD.text memText KD.cells
  rw [List.take_length, d.flat_len, show d.pages.length * 8 / 8 = d.pages.length by omega]
  congr 1
  unfold KD.flat KD.bytes
  rw [List.flatMap_map]
  simp only [Nat.zero_add]
section
variable {w : World} {bm : Nat} {L : ML} {mem : List UInt8} {max : Nat}
theorem yshow_any (h : MKRep w bm L mem max) : Calls Tryz.prog 73 #[.pointer (some ⟨bm, 0, none⟩)] w fun e w' => ∃ z, e = .returned (sv z) ∧ Hid (z = memText mem max mem.length) ∧ z.length ≤ 1000 ∧ Fr (fun _ => False) w w' := by
  have c0 := h.here.cell 0
  have c1 := h.here.cell 1
  simp at c0 c1
  have hml : mem.length ≤ 32 := by have := h.le; have := h.max; omega
  have hmx := h.max
  have H : Hid (MKRep w bm L mem max) := h
  obtain ⟨pg, HPG⟩ : ∃ pg : Nat, Hid (mem.length / 8 = pg) := ⟨_, rfl⟩
  have hq : (mem.length : Int) / 8 = (pg : Int) := by have := HPG.out; omega
  have N1 : Hid (Calls _ _ _ _ _) := num_name [] pg w (by simp)
  clear h
  go_enter Tryz.func73, Tryz.ntmps73
  go_wp2_with fail
  refine N1.out.mono ?_
  rintro e w1 ⟨z1, rfl, Z1, hl1, f1⟩
  have k0 : w1.cell? ⟨bm, 0, none⟩ = _ := (H.out.fresh f1).here.cell 0
  have k1 : w1.cell? ⟨bm, 1, none⟩ = _ := (H.out.fresh f1).here.cell 1
  simp at k0 k1
  have N2 : Hid (Calls _ _ _ _ _) := num_name z1 max w1 (by simp at hl1; omega)
  have F1 : Hid (Fr _ w w1) := f1
  clear N1 f1 c0 c1
  go_wp2_with fail
  refine N2.out.mono ?_
  rintro e w2 ⟨z2, rfl, Z2, hl2, f2⟩
  have F2 : Fr (fun _ => False) w w2 := F1.out.trans f2 (fun _ _ h => h)
  have HF2 : Hid (Fr _ w w2) := F2
  clear N2 f2 F2 F1 k0 k1
  have hl3 : z2.length ≤ 44 := by simp at hl1; omega
  have HZ : Hid (z2 = numT pg ++ numT max) := by
    show _ = _
    rw [Z2.out, Z1.out]; simp
  clear Z1 Z2 hl1 hl2
  go_wp2
  go_loopw [4, 3] (fun t u wr => ∃ (j : Nat) (X : List UInt8), j ≤ mem.length ∧ t = .int .i64 j ∧ u = sv X ∧ X.length ≤ 44 + j * 22 ∧ Hid (X = z2 ++ (mem.take j).flatMap (fun b => numT b.toNat)) ∧ Hid (Fr (fun _ => False) w wr)) (fun t _ _ => mem.length - (intOf t).toNat)
  case atStart => exact ⟨0, z2, Nat.zero_le _, rfl, rfl, by omega, by show z2 = _; simp, HF2⟩
  case round =>
    obtain ⟨j, X, hj, rfl, rfl, hXl, HX, G⟩ := hrel
    have HK := H.out.fresh G.out
    have c0 := HK.here.cell 0
    simp at c0
    by_cases hjl : j < mem.length
    · obtain ⟨b, g, gb, ga, gc, _, gl, gcap, _⟩ := HK.at_ hjl
      rw [ga] at c0
      have HB : Hid (mem[j]? = some b) := gb
      obtain ⟨bv, HBV⟩ : ∃ bv : Nat, Hid (bv = b.toNat) := ⟨_, rfl⟩
      rw [← HBV.out] at gc
      have hbb : bv < 256 := by rw [HBV.out]; exact b.toNat_lt
      have N3 : Hid (Calls _ _ _ _ _) := num_name X bv wr (by omega)
      clear gb ga HK
      go_wp2_with fail
      refine N3.out.mono ?_
      rintro e w3 ⟨z3, rfl, Z3, hl3', f3⟩
      have F3 : Hid (Fr (fun _ => False) w w3) := G.out.trans f3 (fun _ _ h => h)
      have hz3 : z3.length ≤ 44 + (j + 1) * 22 := by omega
      have HZ3 : Hid (z3 = z2 ++ (mem.take (j + 1)).flatMap (fun b => numT b.toNat)) := by
        show _ = _
        rw [Z3.out, HX.out, List.take_add_one, HB.out, HBV.out]
        simp
      clear N3 f3 Z3 hl3'
      go_wp2
      go_roundw
      case rel => exact ⟨j + 1, z3, by omega, by go_num, rfl, hz3, HZ3, F3⟩
      case measure => simp [intOf]; omega
    · obtain rfl : j = mem.length := by omega
      go_wp2
      go_ret
      refine ⟨X, rfl, ?_, by omega, G.out⟩
      show _ = _
      rw [HX.out, HZ.out]
      unfold memText
      rw [HPG.out]
end
end Go.Proofs.Qxb6500575aGreatDoor
