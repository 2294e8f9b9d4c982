/-
  THE WALK of prepm.New.
-/
import Derived.Test.Qxb6500575aGreatDoorMOne
import Derived.Test.Qxb6500575aGreatDoorMNewS
import Derived.Test.Qxb6500575aGreatDoorRegC
import Derived.Test.Qxb6500575aGreatDoorProgOps0
namespace Go.Proofs.Qxb6500575aGreatDoor
open Go Go.RowKit
set_option linter.unusedVariables false
set_option linter.unusedSimpArgs false

set_option maxRecDepth 100000 in
set_option maxHeartbeats 4000000 in
theorem mnew_any (S : Nat → Prop) (bm : Nat) (Lm : ModL) (m : ModD) (w : World) (h : ModRep S w bm Lm m) (hS : ∀ k, S k → k < w.heap.size) (hok : ModOk m)
    (hbody : ∀ f, m.imports.length ≤ f → f < m.nall → MBodyOk (m.env f) (m.body f)) (htab : ∀ fn ∈ m.funcs, ∀ c ∈ fn.code, c.tab.length ≤ 100) :
    Calls Tryz.prog 32 #[.pointer (some ⟨bm, 0, none⟩)] w fun e w' => MNewPost m w e w' := by
  have hi2 := hok.ni
  have hf4 := hok.nf
  have hp4 := hok.np
  have HM : Hid (∀ X, Fr (fun _ => False) w X → ModRep S X bm Lm m) := fun X hX => h.fr hX (fun k hk e => e)
  have HBODY : Hid (∀ f, m.imports.length ≤ f → f < m.nall → MBodyOk (m.env f) (m.body f)) := hbody
  have HTABS : Hid (∀ fn ∈ m.funcs, ∀ c ∈ fn.code, c.tab.length ≤ 100) := htab
  have hbm := h.here.lt
  clear h hbody htab
  go_enter Tryz.func32, Tryz.ntmps32
  go_wp2_with fail
  refine (nimports_any S bm Lm m _ (HM.out _ (Fr.refl _ _))).mono ?_
  rintro e w1 ⟨rfl, hw1⟩
  obtain rfl := hw1.symm
  clear hw1
  go_wp2_with fail
  refine (mem_any S bm Lm m _ (HM.out _ ((Fr.refl _ _).alloc _))).mono ?_
  rintro e w1 ⟨rfl, n1, rfl⟩
  go_wp2_with fail
  obtain ⟨W0, hW0⟩ : ∃ W0, W0 = (((w.alloc (.cells #[.int .i64 m.imports.length, .int .i64 0, .int .i64 0, .int .i64 0, .slice none 0 0] 120)).drewN n1).setCell ⟨w.heap.size, 1, none⟩ (.int .i64 m.min)).setCell ⟨w.heap.size, 2, none⟩ (.int .i64 m.max) := ⟨_, rfl⟩
  rw [← hW0]
  have hB0 : Has W0 w.heap.size #[.int .i64 m.imports.length, .int .i64 m.min, .int .i64 m.max, .int .i64 0, .slice none 0 0] 120 := by
    rw [hW0]
    have := (((Has.new w #[.int .i64 m.imports.length, .int .i64 0, .int .i64 0, .int .i64 0, .slice none 0 0] 120).drewN n1).put 1 (.int .i64 m.min)).put 2 (.int .i64 m.max)
    simpa using this
  have F0 : Fr (fun _ => False) w W0 := by
    rw [hW0]
    exact ((((Fr.refl (fun _ => False) w).alloc _).drewN n1).setCell (p := ⟨w.heap.size, 1, none⟩) (.inr (Nat.le_refl _)) _).setCell (p := ⟨w.heap.size, 2, none⟩) (.inr (Nat.le_refl _)) _
  have hszw : w.heap.size < W0.heap.size := hB0.lt
  obtain ⟨bp, hbp⟩ : ∃ bp, bp = w.heap.size := ⟨_, rfl⟩
  rw [← hbp] at hB0 ⊢
  have NS0 : NewS S w bm bp Lm m W0.heap.size W0 { fa := none, fc := 0, vs := [] } (m.progAt 0 (List.replicate 0 [])) (m.srcsTo 0) :=
    { mod := HM.out _ F0, prog := { here := hB0, row := ⟨rfl, .inl ⟨rfl, rfl⟩⟩, vl := rfl, cl := rfl, sl := rfl, src := fun f v s hv => by simp at hv, code := fun f v s hv => by simp at hv, apC := fun f g v u _ hv => by simp at hv, own := ⟨by omega, by omega⟩, ownF := fun g hg => by simp [Value.ownBlock] at hg, ownV := fun f v hv => by simp at hv }, fr := F0, w0T := by omega, topW := Nat.le_refl _ }
  have HNS0 : Hid (NewS S w bm bp Lm m W0.heap.size W0 { fa := none, fc := 0, vs := [] } (m.progAt 0 (List.replicate 0 [])) (m.srcsTo 0)) := NS0
  have hbpw : w.heap.size ≤ bp := by omega
  clear hW0 hB0 F0 NS0 hszw hbp
  refine (ntypes_any S bm Lm m _ HNS0.out.mod).mono ?_
  rintro e w1 ⟨rfl, hw1⟩
  obtain rfl := hw1.symm
  clear hw1
  go_wp2_with fail
  refine (nfuncs_any S bm Lm m _ HNS0.out.mod).mono ?_
  rintro e w1 ⟨rfl, hw1⟩
  obtain rfl := hw1.symm
  clear hw1 HM
  obtain ⟨n, hn⟩ : ∃ n : Nat, n = m.nall := ⟨_, rfl⟩
  have HN : Hid (n = m.nall) := hn
  have HNN : Hid (n = m.imports.length + m.funcs.length) := hn
  have hnI : (m.imports.length : Int) + (m.funcs.length : Int) = (n : Int) := by rw [hn]; unfold ModD.nall; omega
  have hn6 : n ≤ 6 := by rw [hn]; unfold ModD.nall; omega
  clear hn
  go_wp2
  go_loopw [9] (fun t wr => ∃ (i top : Nat) (Lp : MPL), i ≤ n ∧ t = .int .i64 i ∧ Hid (NewS S w bm bp Lm m top wr Lp (m.progAt i (List.replicate i [])) (m.srcsTo i)) ∧ Hid (∀ f, f < i → m.typOf f < (m.params.length : Int))) (fun t _ => n - (intOf t).toNat)
  case atStart => exact ⟨0, _, _, Nat.zero_le _, rfl, HNS0, fun f hf => by omega⟩
  case round =>
    obtain ⟨i, top, Lp, hi, rfl, G1, G2⟩ := hrel
    have LS0 := G1.out.raise
    have c0 := LS0.prog.here.cell 0
    simp [ModD.progAt] at c0
    have lbp := LS0.prog.here.lt
    have HLS0 : Hid (NewS S w bm bp Lm m wr.heap.size wr Lp (m.progAt i (List.replicate i [])) (m.srcsTo i)) := LS0
    clear G1 LS0 HNS0
    by_cases hlt : i < n
    · by_cases hni : i < m.imports.length
      · -- an import
        obtain ⟨ty, hty⟩ : ∃ ty, m.importAt i = ty := ⟨_, rfl⟩
        have hI := import_any S bm Lm m i wr HLS0.out.mod (by omega)
        rw [hty] at hI
        have HTY : Hid (m.typOf i = ty) := by show _ = _; unfold ModD.typOf; rw [if_pos hni]; exact hty
        have HI : Hid (Calls _ _ _ _ _) := hI
        clear hI hty
        go_wp2_with fail
        refine HI.out.mono ?_
        rintro e w4 ⟨rfl, hw4⟩
        obtain rfl := hw4.symm
        clear hw4 HI
        by_cases hbad : (m.params.length : Int) ≤ ty
        · have FRB : Hid (Fr (fun _ => False) w wr) := HLS0.out.fr
          go_wp2
          (try simp only [Exit.inBlock, Exit.then])
          refine bodyPost_ret (results_tmp4 rfl _ _ _) rfl ?_
          have hload : m.loadM = ((i : Int), -1, 5) := by
            unfold ModD.loadM
            rw [badSig_at m.nall 0 i (Nat.zero_le _) (by have := HN.out; omega) (fun j _ hj => G2.out j hj) (by rw [HTY.out]; exact hbad)]
          refine ⟨FRB.out, fun _ => by rw [hload]; rfl, fun h0 => by rw [hload] at h0; simp at h0⟩
        · obtain ⟨wx, hwx⟩ : ∃ wx, wx = wr := ⟨_, rfl⟩
          have HLO : Hid (m.locOf i = []) := by show _ = _; unfold ModD.locOf; rw [if_pos hni]
          obtain ⟨src, hsrc⟩ : ∃ src : List Ins, src = [] := ⟨_, rfl⟩
          have HLX : Hid (NewS S w bm bp Lm m wx.heap.size wx Lp (m.progAt i (List.replicate i [])) (m.srcsTo i)) := by rw [hwx]; exact HLS0.out
          have HSRC : Hid (m.body i = src) := by show _ = _; rw [hsrc]; unfold ModD.body; rw [if_pos hni]
          have hszs0 : Hid (src.length = 0) := by rw [hsrc]; exact rfl
          rw [← hwx]
          have c0x := HLX.out.prog.here.cell 0
          simp [ModD.progAt] at c0x
          have lbx := HLX.out.prog.here.lt
          clear hsrc hwx HLS0
          go_wp2_with fail
          refine (type_any S bm Lm m ty _ (HLX.out.keep hS ((Fr.refl (fun _ => False) wx).alloc _) (fun _ h => h.elim)).mod (by omega) hok.nr).mono ?_
          rintro e w5 ⟨rfl, n5, rfl⟩
          obtain ⟨tp, tr, htt⟩ : ∃ tp tr, m.typeAt ty = (tp, tr) := ⟨_, _, rfl⟩
          rw [htt]
          simp only
          obtain ⟨W5, hW5⟩ : ∃ W5, W5 = ((((wx.alloc (.cells #[.string ⟨#[]⟩, .string ⟨#[]⟩, .string ⟨#[]⟩, .slice none 0 0, .slice none 0 0] 125)).drewN n5).setCell ⟨wx.heap.size, 0, none⟩ (sv tp)).setCell ⟨wx.heap.size, 1, none⟩ (sv tr)) := ⟨_, rfl⟩
          obtain ⟨bt, hbte⟩ : ∃ bt, bt = wx.heap.size := ⟨_, rfl⟩
          have hT5 : Has W5 bt #[sv tp, sv tr, .string ⟨#[]⟩, .slice none 0 0, .slice none 0 0] 125 := by
            rw [hW5, hbte]
            have := (((Has.new wx #[.string ⟨#[]⟩, .string ⟨#[]⟩, .string ⟨#[]⟩, .slice none 0 0, .slice none 0 0] 125).drewN n5).put 0 (sv tp)).put 1 (sv tr)
            simpa using this
          have K5 := HLX.out.keep hS (((((Fr.refl (fun k => k = wx.heap.size) wx).alloc (.cells #[.string ⟨#[]⟩, .string ⟨#[]⟩, .string ⟨#[]⟩, .slice none 0 0, .slice none 0 0] 125)).drewN n5).setCell (p := ⟨wx.heap.size, 0, none⟩) (.inl rfl) (sv tp)).setCell (p := ⟨wx.heap.size, 1, none⟩) (.inl rfl) (sv tr)) (fun k hk => by omega)
          rw [← hW5, ← hbte] at K5
          have LS5 : Hid (NewS S w bm bp Lm m bt W5 Lp (m.progAt i (List.replicate i [])) (m.srcsTo i)) := K5
          have HT5 : Hid (Has W5 bt #[sv tp, sv tr, .string ⟨#[]⟩, .slice none 0 0, .slice none 0 0] 125) := hT5
          have HTT : Hid (m.typeAt ty = (tp, tr)) := htt
          have HW5 : Hid (W5 = _) := hW5
          have hbtw : w.heap.size ≤ bt := K5.w0T
          have HROW : Hid ((Value.slice Lp.fa i Lp.fc).ownBlock ≠ some bt) := fun e => by
            have := (K5.prog.ownF bt (by rw [ownBlock_any _ _ _ i Lp.fc]; exact e)).2
            omega
          clear K5 hT5 htt hW5 c0 lbp HLX
          go_wp2
          rw [← HW5.out, ← hbte]
          clear HW5 hbte
          go_loopw [14] (fun t wr2 => ∃ (k : Nat) (sv0 : Value), k ≤ src.length ∧ t = .int .i64 k ∧ Hid (Has wr2 bt #[sv tp, sv tr, .string ⟨#[]⟩, sv0, .slice none 0 0] 125) ∧ Hid (wr2.ownsRow 0 67 3 sv0 k (insCells (src.take k))) ∧ Hid (∀ g, sv0.ownBlock = some g → bt ≤ g) ∧ Hid (NewS S w bm bp Lm m bt wr2 Lp (m.progAt i (List.replicate i [])) (m.srcsTo i))) (fun t _ => src.length - (intOf t).toNat)
          case atStart => exact ⟨0, .slice none 0 0, Nat.zero_le _, rfl, HT5, ⟨rfl, .inl ⟨rfl, rfl⟩⟩, fun g hg => by simp [Value.ownBlock] at hg, LS5⟩
          case round =>
            obtain ⟨k, sv0, hk, rfl, G3, G4, G5, G6⟩ := hrel
            clear HT5 LS5
            have c0 := G6.out.prog.here.cell 0
            have c4 := G6.out.prog.here.cell 4
            simp [ModD.progAt] at c0 c4
            have lbp := G6.out.prog.here.lt
            have t0 := G3.out.cell 0
            have t1 := G3.out.cell 1
            have t2 := G3.out.cell 2
            have t3 := G3.out.cell 3
            have t4 := G3.out.cell 4
            simp at t0 t1 t2 t3 t4
            have tf3 := G3.out.frozen 3
            have tl := G3.out.lt
            by_cases hkl : k < src.length
            · have := hszs0.out; omega
            · obtain rfl : k = src.length := by omega
              have hrow := G6.out.prog.row
              have hne := owns_ne G6.out.prog.row G6.out.prog.here (by decide)
              simp only [ModD.progAt, List.length_map, List.length_range] at hrow hne
              have hsr := G4.out
              rw [List.take_length] at hsr
              go_wp2
              refine wp_region_app rowMFun 6 (by kernel_rfl) (by kernel_rfl) (fun _ _ _ _ _ h => h) _ _ _ rfl (.tmp 112) (.tmp 111) 113 114 rfl rfl rfl rfl rfl rfl _ _ _ hrow (.agg #[sv tp, sv tr, .string ⟨#[]⟩, sv0, .slice none 0 0]) rfl (by decide) ?one (by omega) ?go
              case one =>
                have h1 : sv0.oneCell' = true := by
                  rcases hsr.2 with ⟨h1, _⟩ | ⟨_, _, _, h1, _⟩ <;> rw [h1] <;> rfl
                simp [Value.cells, Value.oneCell', h1]
                exact h1
              case go =>
                intro gg cap w6 q1 q2 q3 q4
                have hT6 : Has w6 bt _ _ := (G3.out.alloc _).fr q2 HROW.out
                have hH6 : Has w6 bp _ _ := (G6.out.prog.here.alloc _).fr q2 hne
                have s0 := hT6.cell 0
                have s1 := hT6.cell 1
                have s2 := hT6.cell 2
                have s3 := hT6.cell 3
                have s4 := hT6.cell 4
                have d4 := hH6.cell 4
                have e4 := hH6.frozen 4
                simp [ModD.progAt] at s0 s1 s2 s3 s4 d4
                have l6 := hH6.lt
                have l7 := hT6.lt
                obtain ⟨m1, m2, m3, m4, m5⟩ := app_net G6.out.prog.here hne q2 q1 (by decide) q3 q4 4
                have hfd : m.funD i = { params := tp, results := tr, locals := [] } := by
                  unfold ModD.funD
                  rw [HTY.out, HTT.out, HLO.out]
                have fin := G6.out.push hS (m.funD i) sv0 src (gg := gg) (cap := cap) (by simpa [ModD.progAt] using m1) (by simpa [ModD.progAt] using m2) (by rw [hfd]; simpa [ModD.progAt, mfunCells, Value.cells] using m3) (by simpa [ModD.progAt] using m4) m5 hsr (fun g hg => Nat.le_trans hbtw (G5.out g hg))
                have e1 : (List.range i).map m.funD ++ [m.funD i] = (List.range (i + 1)).map m.funD := by rw [List.range_succ, List.map_append]; rfl
                have e2 : List.replicate i ([] : List Flat) ++ [[]] = List.replicate (i + 1) [] := List.replicate_succ'.symm
                have e3 : m.srcsTo i ++ [src] = m.srcsTo (i + 1) := by unfold ModD.srcsTo; rw [List.range_succ, List.map_append]; simp [HSRC.out]
                simp only [ModD.progAt] at fin
                rw [e1, e2, e3] at fin
                have NX : Hid (NewS S w bm bp Lm m _ _ _ (m.progAt (i + 1) (List.replicate (i + 1) [])) (m.srcsTo (i + 1))) := fin
                have N2 : Hid (∀ f, f < i + 1 → m.typOf f < (m.params.length : Int)) := by
                  intro f hf
                  by_cases hfi : f = i
                  · subst hfi; rw [HTY.out]; omega
                  · exact G2.out f (by omega)
                clear m1 m2 m3 m4 m5 fin q1 q2 q3 q4 hne hrow hsr hT6 hH6 hfd e1 e2 e3 G3 G4 G5 G6
                simp only [List.take_succ_cons, List.take_zero]
                repeat go_big_quiet_step (fail)
                refine wpQuiet_nil ⟨rfl, rfl, by simp, rfl, ?_⟩
                go_wp2
                go_roundw
                case rel => exact ⟨i + 1, _, _, by omega, by go_num, NX, N2⟩
                case measure => simp [intOf]; omega
      · -- a defined function
        obtain ⟨j, hj⟩ : ∃ j : Nat, i = m.imports.length + j := ⟨i - m.imports.length, by omega⟩
        have hij : (i : Int) - (m.imports.length : Int) = (j : Int) := by omega
        obtain ⟨fn, hfn⟩ : ∃ fn, m.funcs[j]? = some fn := ⟨_, List.getElem?_eq_getElem (by have := HNN.out; omega)⟩
        have hI := import_any S bm Lm m i wr HLS0.out.mod (by omega)
        obtain ⟨ty0, hty0⟩ : ∃ ty0, m.importAt i = ty0 := ⟨_, rfl⟩
        rw [hty0] at hI
        have HI : Hid (Calls _ _ _ _ _) := hI
        have hFu := func_any S bm Lm m j wr HLS0.out.mod (by omega)
        rw [ModD.funcAt_in hfn] at hFu
        have HFU : Hid (Calls _ _ _ _ _) := hFu
        obtain ⟨ty, lo, src⟩ := fn
        simp only at HFU
        have HTY : Hid (m.typOf i = ty) := by show _ = _; unfold ModD.typOf; rw [if_neg hni, hij, ModD.funcAt_in hfn]
        have HLO : Hid (m.locOf i = lo) := by show _ = _; unfold ModD.locOf; rw [if_neg hni, hij, ModD.funcAt_in hfn]
        have HSRC : Hid (m.body i = src) := by
          show _ = _
          unfold ModD.body
          rw [if_neg hni, show i - m.imports.length = j by omega, hfn]
          rfl
        have hmem : (⟨ty, lo, src⟩ : FnD) ∈ m.funcs := List.mem_of_getElem? hfn
        have hsl24 : src.length ≤ 24 := hok.fc _ hmem
        have hty00 : 0 ≤ ty := hok.ft _ hmem
        have hlo4 : lo.length ≤ 4 := hok.fl _ hmem
        have HAT : Hid (∀ (k : Nat) c, src[k]? = some c → m.insAt j k = c) := fun k c hc => ModD.insAt_in hfn hc
        clear hI hFu hty0 hfn hmem hj
        go_wp2_with fail
        refine HI.out.mono ?_
        rintro e w4 ⟨rfl, hw4⟩
        obtain rfl := hw4.symm
        clear hw4 HI
        go_wp2_with fail
        refine HFU.out.mono ?_
        rintro e w4 ⟨rfl, nf, rfl⟩
        clear HFU
        by_cases hbad : (m.params.length : Int) ≤ ty
        · have FRB : Hid (Fr (fun _ => False) w wr) := HLS0.out.fr
          go_wp2
          (try simp only [Exit.inBlock, Exit.then])
          refine bodyPost_ret (results_tmp4 rfl _ _ _) rfl ?_
          have hload : m.loadM = ((i : Int), -1, 5) := by
            unfold ModD.loadM
            rw [badSig_at m.nall 0 i (Nat.zero_le _) (by have := HN.out; omega) (fun j _ hj => G2.out j hj) (by rw [HTY.out]; exact hbad)]
          refine ⟨FRB.out.drewN _, fun _ => by rw [hload]; rfl, fun h0 => by rw [hload] at h0; simp at h0⟩
        · obtain ⟨wx, hwx⟩ : ∃ wx, wx = wr.drewN nf := ⟨_, rfl⟩
          have HLX : Hid (NewS S w bm bp Lm m wx.heap.size wx Lp (m.progAt i (List.replicate i [])) (m.srcsTo i)) := by
            rw [hwx]; exact (HLS0.out.keep hS ((Fr.refl (fun _ => False) wr).drewN nf) (fun _ h => h.elim)).raise
          rw [← hwx]
          clear hwx HLS0
          go_wp2_with fail
          refine (type_any S bm Lm m ty _ (HLX.out.keep hS ((Fr.refl (fun _ => False) wx).alloc _) (fun _ h => h.elim)).mod (by omega) hok.nr).mono ?_
          rintro e w5 ⟨rfl, n5, rfl⟩
          obtain ⟨tp, tr, htt⟩ : ∃ tp tr, m.typeAt ty = (tp, tr) := ⟨_, _, rfl⟩
          rw [htt]
          simp only
          obtain ⟨W5, hW5⟩ : ∃ W5, W5 = ((((wx.alloc (.cells #[.string ⟨#[]⟩, .string ⟨#[]⟩, sv lo, .slice none 0 0, .slice none 0 0] 125)).drewN n5).setCell ⟨wx.heap.size, 0, none⟩ (sv tp)).setCell ⟨wx.heap.size, 1, none⟩ (sv tr)) := ⟨_, rfl⟩
          obtain ⟨bt, hbte⟩ : ∃ bt, bt = wx.heap.size := ⟨_, rfl⟩
          have hT5 : Has W5 bt #[sv tp, sv tr, sv lo, .slice none 0 0, .slice none 0 0] 125 := by
            rw [hW5, hbte]
            have := (((Has.new wx #[.string ⟨#[]⟩, .string ⟨#[]⟩, sv lo, .slice none 0 0, .slice none 0 0] 125).drewN n5).put 0 (sv tp)).put 1 (sv tr)
            simpa using this
          have K5 := HLX.out.keep hS (((((Fr.refl (fun k => k = wx.heap.size) wx).alloc (.cells #[.string ⟨#[]⟩, .string ⟨#[]⟩, sv lo, .slice none 0 0, .slice none 0 0] 125)).drewN n5).setCell (p := ⟨wx.heap.size, 0, none⟩) (.inl rfl) (sv tp)).setCell (p := ⟨wx.heap.size, 1, none⟩) (.inl rfl) (sv tr)) (fun k hk => by omega)
          rw [← hW5, ← hbte] at K5
          have LS5 : Hid (NewS S w bm bp Lm m bt W5 Lp (m.progAt i (List.replicate i [])) (m.srcsTo i)) := K5
          have HT5 : Hid (Has W5 bt #[sv tp, sv tr, sv lo, .slice none 0 0, .slice none 0 0] 125) := hT5
          have HTT : Hid (m.typeAt ty = (tp, tr)) := htt
          have HW5 : Hid (W5 = _) := hW5
          have hbtw : w.heap.size ≤ bt := K5.w0T
          have HROW : Hid ((Value.slice Lp.fa i Lp.fc).ownBlock ≠ some bt) := fun e => by
            have := (K5.prog.ownF bt (by rw [ownBlock_any _ _ _ i Lp.fc]; exact e)).2
            omega
          clear K5 hT5 htt hW5 c0 lbp HLX
          go_wp2
          rw [← HW5.out, ← hbte]
          clear HW5 hbte
          go_loopw [14] (fun t wr2 => ∃ (k : Nat) (sv0 : Value), k ≤ src.length ∧ t = .int .i64 k ∧ Hid (Has wr2 bt #[sv tp, sv tr, sv lo, sv0, .slice none 0 0] 125) ∧ Hid (wr2.ownsRow 0 67 3 sv0 k (insCells (src.take k))) ∧ Hid (∀ g, sv0.ownBlock = some g → bt ≤ g) ∧ Hid (NewS S w bm bp Lm m bt wr2 Lp (m.progAt i (List.replicate i [])) (m.srcsTo i))) (fun t _ => src.length - (intOf t).toNat)
          case atStart => exact ⟨0, .slice none 0 0, Nat.zero_le _, rfl, HT5, ⟨rfl, .inl ⟨rfl, rfl⟩⟩, fun g hg => by simp [Value.ownBlock] at hg, LS5⟩
          case round =>
            obtain ⟨k, sv0, hk, rfl, G3, G4, G5, G6⟩ := hrel
            clear HT5 LS5
            have c0 := G6.out.prog.here.cell 0
            have c4 := G6.out.prog.here.cell 4
            simp [ModD.progAt] at c0 c4
            have lbp := G6.out.prog.here.lt
            have t0 := G3.out.cell 0
            have t1 := G3.out.cell 1
            have t2 := G3.out.cell 2
            have t3 := G3.out.cell 3
            have t4 := G3.out.cell 4
            simp at t0 t1 t2 t3 t4
            have tf3 := G3.out.frozen 3
            have tl := G3.out.lt
            by_cases hkl : k < src.length
            · obtain ⟨c, hc⟩ : ∃ c, src[k]? = some c := ⟨_, List.getElem?_eq_getElem hkl⟩
              have hA := insAt_any S bm Lm m j k wr G6.out.mod (by omega) (fun f hf => by have := hok.fc f hf; omega)
              rw [HAT.out k c hc] at hA
              have HA : Hid (Calls _ _ _ _ _) := hA
              have htk : src.take (k + 1) = src.take k ++ [c] := by rw [List.take_succ_eq_append_getElem hkl, (List.getElem?_eq_some_iff.1 hc).2]
              have HTK : Hid (src.take (k + 1) = src.take k ++ [c]) := htk
              clear hA htk hc
              obtain ⟨cop, cimm, ctab⟩ := c
              simp only at HA
              have hbt1 : bt < wr.heap.size + 1 := by omega
              have hbt2 : bt < wr.heap.size + 1 + 1 := by omega
              have hbt3 : bt < wr.heap.size + 1 + 1 + 1 := by omega
              go_wp2_with fail
              refine HA.out.mono ?_
              rintro e w7 ⟨rfl, ob, rfl⟩
              clear HA
              have hne4 : sv0.ownBlock ≠ some bt := owns_ne G4.out G3.out (by decide)
              have HC3 : Has (((wr.alloc ob).alloc (.cells #[.int .i64 cop, .int .i64 cimm, .string ⟨ctab.toArray⟩] 67)).alloc (.cells #[.int .i64 cop, .int .i64 cimm, .string ⟨ctab.toArray⟩] 67)) (wr.heap.size + 1 + 1) #[.int .i64 cop, .int .i64 cimm, sv ctab] 67 := by
                have := Has.new ((wr.alloc ob).alloc (.cells #[.int .i64 cop, .int .i64 cimm, .string ⟨ctab.toArray⟩] 67)) #[.int .i64 cop, .int .i64 cimm, .string ⟨ctab.toArray⟩] 67
                simpa using this
              go_wp2_with (at_builtin; go_must (refine wpList_app rowIns _ rfl (.tmp 102) (.tmp 104) rfl _ _ _ rfl (owns_alloc (owns_alloc (owns_alloc G4.out _) _) _) _ [.int .i64 cop, .int .i64 cimm, sv ctab] rfl HC3 rfl ?one ?bd ?go))
              case one => simp [Value.oneCell']
              case bd => omega
              case go =>
                intro g cap w8 q1 q2 q3 q4
                have F8 : Fr (fun k => sv0.ownBlock = some k) wr w8 := (((((Fr.refl (fun k => sv0.ownBlock = some k) wr).alloc _).alloc _).alloc _)).trans q2 (fun _ _ h => h)
                have hT8 : Has w8 bt _ _ := G3.out.fr F8 hne4
                have u3 := hT8.cell 3
                simp at u3
                have uf3 := hT8.frozen 3
                have ul := hT8.lt
                have hgb : (Value.slice (some ⟨g, 0, none⟩) (k + 1) cap).ownBlock ≠ some bt := owns_ne q1 hT8 (by decide)
                have N3 : Hid (Has (w8.setCell ⟨bt, 3, none⟩ (.slice (some ⟨g, 0, none⟩) (k + 1) cap)) bt #[sv tp, sv tr, sv lo, .slice (some ⟨g, 0, none⟩) (k + 1) cap, .slice none 0 0] 125) := by
                  show Has _ _ _ _
                  have := hT8.put 3 (.slice (some ⟨g, 0, none⟩) (k + 1) cap)
                  simpa using this
                have N4 : Hid ((w8.setCell ⟨bt, 3, none⟩ (.slice (some ⟨g, 0, none⟩) (k + 1) cap)).ownsRow 0 67 3 (.slice (some ⟨g, 0, none⟩) (k + 1) cap) (k + 1) (insCells (src.take (k + 1)))) := by
                  rw [HTK.out, insCells_snoc]
                  exact owns_other (by simpa [Ins.cells] using q1) (p := ⟨bt, 3, none⟩) hgb _
                have N5 : Hid (∀ g', (Value.slice (some ⟨g, 0, none⟩) (k + 1) cap).ownBlock = some g' → bt ≤ g') := by
                  intro g' hg'
                  simp [Value.ownBlock] at hg'
                  subst hg'
                  rcases q3 with q3 | q3
                  · exact G5.out g q3
                  · have hq3 := q3
                    (try simp at hq3)
                    omega
                have N6 : Hid (NewS S w bm bp Lm m bt (w8.setCell ⟨bt, 3, none⟩ (.slice (some ⟨g, 0, none⟩) (k + 1) cap)) Lp (m.progAt i (List.replicate i [])) (m.srcsTo i)) :=
                  (G6.out.keep hS F8 (fun k hk => G5.out k hk)).keep hS (Fr.setCell (S := fun k => k = bt) (Fr.refl _ _) (p := ⟨bt, 3, none⟩) (.inl rfl) _) (fun k hk => by omega)
                clear F8 hT8 hgb q1 q2 q3 q4 G3 G4 G5 G6 hne4
                go_wp2
                go_roundw
                case rel => exact ⟨k + 1, _, by omega, by go_num, N3, N4, N5, N6⟩
                case measure => simp [intOf]; omega
            · obtain rfl : k = src.length := by omega
              have hrow := G6.out.prog.row
              have hne := owns_ne G6.out.prog.row G6.out.prog.here (by decide)
              simp only [ModD.progAt, List.length_map, List.length_range] at hrow hne
              have hsr := G4.out
              rw [List.take_length] at hsr
              go_wp2
              refine wp_region_app rowMFun 6 (by kernel_rfl) (by kernel_rfl) (fun _ _ _ _ _ h => h) _ _ _ rfl (.tmp 112) (.tmp 111) 113 114 rfl rfl rfl rfl rfl rfl _ _ _ hrow (.agg #[sv tp, sv tr, sv lo, sv0, .slice none 0 0]) rfl (by decide) ?one (by omega) ?go
              case one =>
                have h1 : sv0.oneCell' = true := by
                  rcases hsr.2 with ⟨h1, _⟩ | ⟨_, _, _, h1, _⟩ <;> rw [h1] <;> rfl
                simp [Value.cells, Value.oneCell', h1]
                exact h1
              case go =>
                intro gg cap w6 q1 q2 q3 q4
                have hT6 : Has w6 bt _ _ := (G3.out.alloc _).fr q2 HROW.out
                have hH6 : Has w6 bp _ _ := (G6.out.prog.here.alloc _).fr q2 hne
                have s0 := hT6.cell 0
                have s1 := hT6.cell 1
                have s2 := hT6.cell 2
                have s3 := hT6.cell 3
                have s4 := hT6.cell 4
                have d4 := hH6.cell 4
                have e4 := hH6.frozen 4
                simp [ModD.progAt] at s0 s1 s2 s3 s4 d4
                have l6 := hH6.lt
                have l7 := hT6.lt
                obtain ⟨m1, m2, m3, m4, m5⟩ := app_net G6.out.prog.here hne q2 q1 (by decide) q3 q4 4
                have hfd : m.funD i = { params := tp, results := tr, locals := lo } := by
                  unfold ModD.funD
                  rw [HTY.out, HTT.out, HLO.out]
                have fin := G6.out.push hS (m.funD i) sv0 src (gg := gg) (cap := cap) (by simpa [ModD.progAt] using m1) (by simpa [ModD.progAt] using m2) (by rw [hfd]; simpa [ModD.progAt, mfunCells, Value.cells] using m3) (by simpa [ModD.progAt] using m4) m5 hsr (fun g hg => Nat.le_trans hbtw (G5.out g hg))
                have e1 : (List.range i).map m.funD ++ [m.funD i] = (List.range (i + 1)).map m.funD := by rw [List.range_succ, List.map_append]; rfl
                have e2 : List.replicate i ([] : List Flat) ++ [[]] = List.replicate (i + 1) [] := List.replicate_succ'.symm
                have e3 : m.srcsTo i ++ [src] = m.srcsTo (i + 1) := by unfold ModD.srcsTo; rw [List.range_succ, List.map_append]; simp [HSRC.out]
                simp only [ModD.progAt] at fin
                rw [e1, e2, e3] at fin
                have NX : Hid (NewS S w bm bp Lm m _ _ _ (m.progAt (i + 1) (List.replicate (i + 1) [])) (m.srcsTo (i + 1))) := fin
                have N2 : Hid (∀ f, f < i + 1 → m.typOf f < (m.params.length : Int)) := by
                  intro f hf
                  by_cases hfi : f = i
                  · subst hfi; rw [HTY.out]; omega
                  · exact G2.out f (by omega)
                clear m1 m2 m3 m4 m5 fin q1 q2 q3 q4 hne hrow hsr hT6 hH6 hfd e1 e2 e3 G3 G4 G5 G6
                simp only [List.take_succ_cons, List.take_zero]
                repeat go_big_quiet_step (fail)
                refine wpQuiet_nil ⟨rfl, rfl, by simp, rfl, ?_⟩
                go_wp2
                go_roundw
                case rel => exact ⟨i + 1, _, _, by omega, by go_num, NX, N2⟩
                case measure => simp [intOf]; omega
    · have hie : i = n := by omega
      have K1 := HLS0.out
      rw [hie] at K1
      have hcs : (List.replicate n ([] : List Flat)) = (List.range n).map (fun f => if f < m.imports.length then m.codeM f else []) := by
        apply List.ext_getElem?
        intro q
        by_cases hq : q < n
        · rw [List.getElem?_eq_getElem (by simpa using hq), List.getElem?_eq_getElem (by simpa using hq)]
          simp
          intro h1
          unfold ModD.codeM
          rw [if_pos h1]
        · rw [List.getElem?_eq_none (by simp; omega), List.getElem?_eq_none (by simp; omega)]
      rw [hcs] at K1
      have HK1 : Hid (NewS S w bm bp Lm m wr.heap.size wr Lp (m.progAt n ((List.range n).map (fun f => if f < m.imports.length then m.codeM f else []))) (m.srcsTo n)) := K1
      have HBS : Hid (m.badSig 0 m.nall = none) := badSig_none _ _ (fun j _ hj => G2.out j (by have := HN.out; omega))
      have hin : m.imports.length ≤ n := by have := HNN.out; omega
      clear K1 hcs hie G2 HLS0
      go_wp2
      go_loopw [16] (fun t wr => ∃ (i top : Nat) (Lp : MPL), m.imports.length ≤ i ∧ i ≤ n ∧ t = .int .i64 i ∧ Hid (NewS S w bm bp Lm m top wr Lp (m.progAt n ((List.range n).map (fun f => if f < i then m.codeM f else []))) (m.srcsTo n)) ∧ Hid (∀ f, m.imports.length ≤ f → f < i → (m.chkM f).1 = none)) (fun t _ => n - (intOf t).toNat)
      case atStart => exact ⟨m.imports.length, _, _, Nat.le_refl _, hin, rfl, HK1, fun f h1 h2 => by omega⟩
      case round =>
        obtain ⟨i, top, Lp, hni, hi, rfl, G1, G2⟩ := hrel
        have LS0 := G1.out.raise
        have c4 := LS0.prog.here.cell 4
        simp [ModD.progAt] at c4
        have lbp := LS0.prog.here.lt
        have HLS0 : Hid (NewS S w bm bp Lm m wr.heap.size wr Lp (m.progAt n ((List.range n).map (fun f => if f < i then m.codeM f else []))) (m.srcsTo n)) := LS0
        clear G1 LS0 HK1
        by_cases hlt : i < n
        · have hfu : (m.progAt n ((List.range n).map (fun f => if f < i then m.codeM f else []))).funs[i]? = some (m.funD i) := by simp [ModD.progAt, hlt]
          obtain ⟨g, v, hfa, hv, hcl, hgl, hbg⟩ := HLS0.out.prog.at hfu
          have hsrcs : (m.srcsTo n)[i]? = some (m.body i) := by simp [ModD.srcsTo, hlt]
          obtain ⟨fn, hfn, hbd, hmem⟩ := ModD.body_at (m := m) i hni (by have := HN.out; omega)
          have hbl : (m.body i).length ≤ 24 := by rw [hbd]; exact hok.fc fn hmem
          have hsrow := HLS0.out.prog.src i v (m.body i) hv hsrcs
          obtain ⟨sva, svc, hsv⟩ : ∃ a cap, v.1 = .slice a (m.body i).length cap := by
            rcases hsrow.2 with ⟨h1, h2⟩ | ⟨g', cap, cur, h1, _⟩
            · exact ⟨none, 0, by rw [h1, h2]⟩
            · exact ⟨_, _, h1⟩
          have m1 := hcl 1 (by omega)
          have m3 := hcl 3 (by omega)
          simp [mfunCells] at m1 m3
          rw [hsv] at m3
          rw [hfa] at c4
          have hrl1 : (m.funD i).results.length ≤ 1 := (hok.funD i).2.1
          have HFD : Hid ((m.env i).me.results = (m.funD i).results) := rfl
          have hgl1 : g < wr.heap.size + 1 := by omega
          have hgl2 : g < wr.heap.size + 1 + 1 := by omega
          have lbp1 : bp < wr.heap.size + 1 := by omega
          have HB : Hid (MBodyOk (m.env i) (m.body i)) := HBODY.out i hni (by have := HN.out; omega)
          have HTAB : Hid (∀ c ∈ m.body i, c.tab.length ≤ 100) := by rw [hbd]; exact HTABS.out fn hmem
          have HV : Hid (Lp.vs[i]? = some v) := hv
          have HFA : Hid (Lp.fa = some ⟨g, 0, none⟩) := hfa
          have HSR : Hid ((m.srcsTo n)[i]? = some (m.body i)) := hsrcs
          have HSV : Hid (v.1 = .slice sva (m.body i).length svc) := hsv
          -- the checker at its start
          have start : ∀ (bt : Int) (wz : World), Has wz wr.heap.size #[.int .i64 1, .int .i64 bt, .int .i64 0, .int .i64 (-1), .bool false] 132 → Has wz (wr.heap.size + 1) #[.slice none 0 0, .slice (some ⟨wr.heap.size, 0, none⟩) 1 1] 136 → Fr (fun _ => False) wr wz → bt = bt0 (m.funD i).results → BodyS S w bm bp (wr.heap.size + 1) i Lm m n wz Lp ((List.range n).map (fun f => if f < i then m.codeM f else [])) { sa := none, sc := 0, ca := some ⟨wr.heap.size, 0, none⟩, cc := 1 } (Mk.start (m.funD i).results) := by
            intro bt wz h1 h2 hf hbt
            have hsz := HLS0.out.w0T
            refine { mod := (HLS0.out.keep hS hf (fun _ h => h.elim)).mod, prog := (HLS0.out.keep hS hf (fun _ h => h.elim)).prog.sub (fun k _ h => h.1), k := ?_, kN := ?_, cd := by simp [hlt, Mk.start], fr := (HLS0.out.keep hS hf (fun _ h => h.elim)).fr }
            · refine { here := h2, st := ⟨rfl, .inl ⟨rfl, rfl⟩⟩, cs := ?_ }
              refine ⟨rfl, .inr ⟨wr.heap.size, 1, _, rfl, Nat.zero_le _, h1, Nat.le_refl _, by decide, rfl, ?_⟩⟩
              rw [hbt]
              rfl
            · rintro k (rfl | h | h)
              · omega
              · simp [Value.ownBlock] at h
              · simp [Value.ownBlock] at h; omega
          have START : Hid (∀ (bt : Int) (wz : World), _) := start
          clear start hcl hsrow hfu hv hsrcs hbd hmem hfn hfa hsv
          obtain ⟨bk, hbk⟩ : ∃ bk, bk = wr.heap.size + 1 := ⟨_, rfl⟩
          have HBK : Hid (wr.heap.size + 1 = bk) := hbk.symm
          clear hbk
          cases hres : (m.funD i).results with
          | nil =>
            rw [hres] at m1
            obtain ⟨Wz, hWz⟩ : ∃ Wz, Wz = (wr.alloc (.cells #[.int .i64 1, .int .i64 0, .int .i64 0, .int .i64 (-1), .bool false] 132)).alloc (.cells #[.slice none 0 0, .slice (some ⟨wr.heap.size, 0, none⟩) 1 1] 136) := ⟨_, rfl⟩
            have B0 : BodyS S w bm bp (wr.heap.size + 1) i Lm m n Wz Lp ((List.range n).map (fun f => if f < i then m.codeM f else [])) { sa := none, sc := 0, ca := some ⟨wr.heap.size, 0, none⟩, cc := 1 } (Mk.start (m.funD i).results) := by
              refine START.out 0 Wz ?_ ?_ ?_ (by rw [hres]; rfl)
              · rw [hWz]; exact (Has.new wr _ _).alloc _
              · rw [hWz]
                have := Has.new (wr.alloc (.cells #[.int .i64 1, .int .i64 0, .int .i64 0, .int .i64 (-1), .bool false] 132)) #[.slice none 0 0, .slice (some ⟨wr.heap.size, 0, none⟩) 1 1] 136
                simpa using this
              · rw [hWz]; exact ((Fr.refl _ wr).alloc _).alloc _
            have HWZ : Hid (Wz = _) := hWz
            have HB0 : Hid (BodyS S w bm bp (wr.heap.size + 1) i Lm m n Wz Lp ((List.range n).map (fun f => if f < i then m.codeM f else [])) { sa := none, sc := 0, ca := some ⟨wr.heap.size, 0, none⟩, cc := 1 } (Mk.start (m.funD i).results)) := B0
            clear B0 hWz
            go_wp2
            rw [← HWZ.out, HBK.out]
            rw [HBK.out] at HB0
            clear HWZ START
            clear HBK hgl1 hgl2 lbp1 c4 lbp m1 m3 hgl
            go_loopw [19] (fun t wz => ∃ (q : Nat) (Kq : MkL) (Lq : MPL) (s : Mk) (cvq : Value), q ≤ (m.body i).length ∧ t = .int .i64 q ∧ Hid (stateM (m.env i) (m.body i) q = some s) ∧ Hid (BodyS S w bm bp bk i Lm m n wz Lq (((List.range n).map (fun f => if f < i then m.codeM f else [])).set i s.code) Kq s) ∧ Hid (Lq.fa = some ⟨g, 0, none⟩) ∧ Hid (Lq.vs[i]? = some (v.1, cvq))) (fun t _ => (m.body i).length - (intOf t).toNat)
            case atStart =>
              refine ⟨0, { sa := none, sc := 0, ca := some ⟨wr.heap.size, 0, none⟩, cc := 1 }, Lp, _, v.2, Nat.zero_le _, rfl, rfl, ?_, HFA, HV⟩
              have := HB0.out
              rw [list_set_same _ i (Mk.start (m.env i).me.results).code (HB0.out.cd)]
              exact this
            case round =>
              obtain ⟨q, Kq, Lq, s, cvq, hq, rfl, G3, G4, G5, G6⟩ := hrel
              clear HB0 HFA HV
              have hfu : (m.progAt n (((List.range n).map (fun f => if f < i then m.codeM f else [])).set i s.code)).funs[i]? = some (m.funD i) := by simp [ModD.progAt, hlt]
              obtain ⟨g', v', hfa', hv', hcl', hgl', hbg'⟩ := G4.out.prog.at hfu
              obtain rfl : g = g' := by have := G5.out.symm.trans hfa'; simpa using this
              obtain rfl : v' = (v.1, cvq) := by have := hv'.symm.trans G6.out; simpa using this
              have m3 := hcl' 3 (by omega)
              simp [mfunCells] at m3
              rw [HSV.out] at m3
              have lbk := G4.out.k.here.lt
              have lbp := G4.out.prog.here.lt
              by_cases hql : q < (m.body i).length
              · obtain ⟨c, hc⟩ : ∃ c, (m.body i)[q]? = some c := ⟨_, List.getElem?_eq_getElem hql⟩
                obtain ⟨c0, r0, hfit⟩ := HB.out q s c G3.out hc
                have hctx : OneCtx (oneP wr bp bk g i Kq Lq (m.progAt n (((List.range n).map (fun f => if f < i then m.codeM f else [])).set i s.code)) (m.body i) (v.1, cvq) c) Kq cvq s (m.env i) q c0 r0 :=
                  { inn := G4.out.prog.toOne c G4.out.k G5.out G6.out HSR.out G4.out.cd
                    ef := by show m.sigs = (List.range n).map m.funD; rw [HN.out]; rfl
                    me := hfu
                    hi := hc
                    top := hfit.top
                    sl := by show (m.body i).length ≤ 100; omega
                    tab := HTAB.out
                    st := hfit.st
                    cs := hfit.cs
                    code := hfit.code
                    fit := hfit.fit
                    fl := by show ((List.range n).map m.funD).length ≤ 500; simp; omega
                    ps := fun u hu => by
                      have hu' : u ∈ (List.range n).map m.funD := hu
                      simp only [List.mem_map] at hu'
                      obtain ⟨gx, _, rfl⟩ := hu'
                      have := hok.funD gx
                      omega }
                have HONE : Hid (Calls Tryz.prog 58 #[.pointer (some ⟨bp, 0, none⟩), .pointer (some ⟨bk, 0, none⟩), .pointer (some ⟨g, i * 5, none⟩), .int .i64 q] wr fun e w' => OnePost (oneP wr bp bk g i Kq Lq (m.progAt n (((List.range n).map (fun f => if f < i then m.codeM f else [])).set i s.code)) (m.body i) (v.1, cvq) c) (s.one (m.env i) (m.body i) q c) e w') := mone_any _ Kq cvq s (m.env i) q c0 r0 hctx hfit.well hfit.els
                have HST : Hid (∀ s2, ((s.one (m.env i) (m.body i) q c).2 = 0) → s2 = (s.one (m.env i) (m.body i) q c).1 → stateM (m.env i) (m.body i) (q + 1) = some s2) := by
                  intro s2 h0 hs2
                  simp only [stateM, G3.out, hc]
                  rw [if_pos h0, hs2]
                have HRN : Hid ((s.one (m.env i) (m.body i) q c).2 ≠ 0 → (m.chkM i).1 = some (q, (s.one (m.env i) (m.body i) q c).2)) := by
                  intro h0
                  unfold ModD.chkM
                  rw [show (m.funD i).results = (m.env i).me.results from rfl, runMk_at (m.env i) (m.body i) q s G3.out, List.drop_eq_getElem_cons hql, (List.getElem?_eq_some_iff.1 hc).2]
                  simp only [runMk]
                  rw [if_neg h0]
                clear hctx hfit hc G3 hcl' hfu
                generalize s.one (m.env i) (m.body i) q c = pp at *
                obtain ⟨s2, er⟩ := pp
                simp only at HST HRN
                go_wp2_with fail
                refine HONE.out.mono ?_
                rintro e w6 ⟨rfl, fr6, ok6⟩
                have F6 : Hid (Fr (fun _ => False) w w6) := G4.out.frame G5.out G6.out fr6
                have OK6 : Hid (er = 0 → _) := ok6
                clear fr6 ok6 HONE
                simp only at OK6 ⊢
                by_cases her : er = 0
                · subst her
                  have N0 : Hid (stateM (m.env i) (m.body i) (q + 1) = some s2) := HST.out s2 rfl rfl
                  obtain ⟨K2, cv2, o2, ho2⟩ := OK6.out rfl
                  have N1 := G4.out.step hS G5.out G6.out HSR.out ho2
                  rw [List.set_set] at N1
                  have HN1 : Hid (BodyS S w bm bp bk i Lm m n w6 { Lq with vs := Lq.vs.set i (v.1, cv2) } (((List.range n).map (fun f => if f < i then m.codeM f else [])).set i s2.code) K2 s2) := N1
                  have N2 : Hid ((Lq.vs.set i (v.1, cv2))[i]? = some (v.1, cv2)) := List.getElem?_set_self (List.getElem?_eq_some_iff.1 G6.out).1
                  clear HST HRN N1 ho2 OK6 G4 G6
                  go_wp2
                  go_roundw
                  case rel => exact ⟨q + 1, K2, { Lq with vs := Lq.vs.set i (v.1, cv2) }, s2, cv2, by omega, by go_num, N0, HN1, G5, N2⟩
                  case measure => simp [intOf]; omega
                · have her1 : (er != 0) = true := by rw [bne_iff_ne]; exact her
                  clear OK6
                  go_wp2
                  (try simp only [Exit.inBlock, Exit.then])
                  refine bodyPost_ret (results_tmp4 rfl _ _ _) rfl ?_
                  have hload : m.loadM = ((i : Int), (q : Int), er) := by
                    unfold ModD.loadM
                    rw [HBS.out]
                    simp only
                    rw [badBodyM_at m.funcs.length m.imports.length i q er hni (by have := HNN.out; omega) (fun f h1 h2 => G2.out f h1 h2) (HRN.out her)]
                  exact ⟨F6.out, fun _ => by rw [hload]; rfl, fun h0 => by rw [hload] at h0; exact absurd h0 her⟩
              · -- the body is through
                have hqe : q = (m.body i).length := by omega
                have hchk : m.chkM i = (none, s) := by
                  unfold ModD.chkM
                  rw [show (m.funD i).results = (m.env i).me.results from rfl, runMk_at (m.env i) (m.body i) q s G3.out, hqe, List.drop_length]
                  rfl
                have hmc : m.codeM i = s.code := by unfold ModD.codeM; rw [if_neg (by omega), hchk]
                have e9 : ((List.range n).map (fun f => if f < i then m.codeM f else [])).set i s.code = (List.range n).map (fun f => if f < i + 1 then m.codeM f else []) := by rw [← hmc]; exact codes_set n i m.codeM hlt
                have NX : Hid (NewS S w bm bp Lm m wr.heap.size wr Lq (m.progAt n ((List.range n).map (fun f => if f < i + 1 then m.codeM f else []))) (m.srcsTo n)) := by
                  rw [← e9]
                  exact { mod := G4.out.mod, prog := G4.out.prog.sub (fun k hk h => ⟨h, hk⟩), fr := G4.out.fr, w0T := G4.out.fr.size, topW := Nat.le_refl _ }
                have N2 : Hid (∀ f, m.imports.length ≤ f → f < i + 1 → (m.chkM f).1 = none) := by
                  intro f h1 h2
                  by_cases hfi : f = i
                  · subst hfi; rw [hchk]
                  · exact G2.out f h1 (by omega)
                clear e9 hmc hchk hcl' G3 G4 G6 hfu
                go_wp2
                go_roundw
                case rel => exact ⟨i + 1, _, _, by omega, by omega, by go_num, NX, N2⟩
                case measure => simp [intOf]; omega
          | cons x xr =>
            have hxr : xr = [] := List.eq_nil_of_length_eq_zero (by rw [hres] at hrl1; simp only [List.length_cons] at hrl1; omega)
            subst hxr
            rw [hres] at m1
            have hx8 := x.toNat_lt
            have hx0 : ∀ h, (⟨[x].toArray⟩ : ByteArray)[0]'h = x := fun _ => rfl
            have hxw : wrap64 (x.toNat : Int) = x.toNat := by rw [← IntWalk.i64_left, IntWalk.i64_in _ (by omega)]
            obtain ⟨Wz, hWz⟩ : ∃ Wz, Wz = ((wr.alloc (.cells #[.int .i64 1, .int .i64 x.toNat, .int .i64 0, .int .i64 (-1), .bool false] 132)).alloc (.cells #[.slice none 0 0, .slice (some ⟨wr.heap.size, 0, none⟩) 1 1] 136)).drew := ⟨_, rfl⟩
            have B0 : BodyS S w bm bp (wr.heap.size + 1) i Lm m n Wz Lp ((List.range n).map (fun f => if f < i then m.codeM f else [])) { sa := none, sc := 0, ca := some ⟨wr.heap.size, 0, none⟩, cc := 1 } (Mk.start (m.funD i).results) := by
              refine START.out x.toNat Wz ?_ ?_ ?_ (by rw [hres]; rfl)
              · rw [hWz]; exact ((Has.new wr _ _).alloc _).drew
              · rw [hWz]
                have := Has.new (wr.alloc (.cells #[.int .i64 1, .int .i64 x.toNat, .int .i64 0, .int .i64 (-1), .bool false] 132)) #[.slice none 0 0, .slice (some ⟨wr.heap.size, 0, none⟩) 1 1] 136
                have := this.drew
                simpa using this
              · rw [hWz]; exact (((Fr.refl _ wr).alloc _).alloc _).drew
            have HWZ : Hid (Wz = _) := hWz
            have HB0 : Hid (BodyS S w bm bp (wr.heap.size + 1) i Lm m n Wz Lp ((List.range n).map (fun f => if f < i then m.codeM f else [])) { sa := none, sc := 0, ca := some ⟨wr.heap.size, 0, none⟩, cc := 1 } (Mk.start (m.funD i).results)) := B0
            clear B0 hWz
            go_wp2
            refine C.wp_region_tail 10 (by kernel_rfl) (by kernel_rfl) (fun _ _ _ _ _ h => h) ?_
            simp only [List.take_succ_cons, List.take_zero, List.drop_succ_cons, List.drop_zero]
            repeat go_big_quiet_step (fail)
            refine wpQuiet_nil ?_
            go_wp2
            rw [← HWZ.out, HBK.out]
            rw [HBK.out] at HB0
            clear HWZ START hx8 hx0 hxw
            clear HBK hgl1 hgl2 lbp1 c4 lbp m1 m3 hgl
            go_loopw [19] (fun t wz => ∃ (q : Nat) (Kq : MkL) (Lq : MPL) (s : Mk) (cvq : Value), q ≤ (m.body i).length ∧ t = .int .i64 q ∧ Hid (stateM (m.env i) (m.body i) q = some s) ∧ Hid (BodyS S w bm bp bk i Lm m n wz Lq (((List.range n).map (fun f => if f < i then m.codeM f else [])).set i s.code) Kq s) ∧ Hid (Lq.fa = some ⟨g, 0, none⟩) ∧ Hid (Lq.vs[i]? = some (v.1, cvq))) (fun t _ => (m.body i).length - (intOf t).toNat)
            case atStart =>
              refine ⟨0, { sa := none, sc := 0, ca := some ⟨wr.heap.size, 0, none⟩, cc := 1 }, Lp, _, v.2, Nat.zero_le _, rfl, rfl, ?_, HFA, HV⟩
              have := HB0.out
              rw [list_set_same _ i (Mk.start (m.env i).me.results).code (HB0.out.cd)]
              exact this
            case round =>
              obtain ⟨q, Kq, Lq, s, cvq, hq, rfl, G3, G4, G5, G6⟩ := hrel
              clear HB0 HFA HV
              have hfu : (m.progAt n (((List.range n).map (fun f => if f < i then m.codeM f else [])).set i s.code)).funs[i]? = some (m.funD i) := by simp [ModD.progAt, hlt]
              obtain ⟨g', v', hfa', hv', hcl', hgl', hbg'⟩ := G4.out.prog.at hfu
              obtain rfl : g = g' := by have := G5.out.symm.trans hfa'; simpa using this
              obtain rfl : v' = (v.1, cvq) := by have := hv'.symm.trans G6.out; simpa using this
              have m3 := hcl' 3 (by omega)
              simp [mfunCells] at m3
              rw [HSV.out] at m3
              have lbk := G4.out.k.here.lt
              have lbp := G4.out.prog.here.lt
              by_cases hql : q < (m.body i).length
              · obtain ⟨c, hc⟩ : ∃ c, (m.body i)[q]? = some c := ⟨_, List.getElem?_eq_getElem hql⟩
                obtain ⟨c0, r0, hfit⟩ := HB.out q s c G3.out hc
                have hctx : OneCtx (oneP wr bp bk g i Kq Lq (m.progAt n (((List.range n).map (fun f => if f < i then m.codeM f else [])).set i s.code)) (m.body i) (v.1, cvq) c) Kq cvq s (m.env i) q c0 r0 :=
                  { inn := G4.out.prog.toOne c G4.out.k G5.out G6.out HSR.out G4.out.cd
                    ef := by show m.sigs = (List.range n).map m.funD; rw [HN.out]; rfl
                    me := hfu
                    hi := hc
                    top := hfit.top
                    sl := by show (m.body i).length ≤ 100; omega
                    tab := HTAB.out
                    st := hfit.st
                    cs := hfit.cs
                    code := hfit.code
                    fit := hfit.fit
                    fl := by show ((List.range n).map m.funD).length ≤ 500; simp; omega
                    ps := fun u hu => by
                      have hu' : u ∈ (List.range n).map m.funD := hu
                      simp only [List.mem_map] at hu'
                      obtain ⟨gx, _, rfl⟩ := hu'
                      have := hok.funD gx
                      omega }
                have HONE : Hid (Calls Tryz.prog 58 #[.pointer (some ⟨bp, 0, none⟩), .pointer (some ⟨bk, 0, none⟩), .pointer (some ⟨g, i * 5, none⟩), .int .i64 q] wr fun e w' => OnePost (oneP wr bp bk g i Kq Lq (m.progAt n (((List.range n).map (fun f => if f < i then m.codeM f else [])).set i s.code)) (m.body i) (v.1, cvq) c) (s.one (m.env i) (m.body i) q c) e w') := mone_any _ Kq cvq s (m.env i) q c0 r0 hctx hfit.well hfit.els
                have HST : Hid (∀ s2, ((s.one (m.env i) (m.body i) q c).2 = 0) → s2 = (s.one (m.env i) (m.body i) q c).1 → stateM (m.env i) (m.body i) (q + 1) = some s2) := by
                  intro s2 h0 hs2
                  simp only [stateM, G3.out, hc]
                  rw [if_pos h0, hs2]
                have HRN : Hid ((s.one (m.env i) (m.body i) q c).2 ≠ 0 → (m.chkM i).1 = some (q, (s.one (m.env i) (m.body i) q c).2)) := by
                  intro h0
                  unfold ModD.chkM
                  rw [show (m.funD i).results = (m.env i).me.results from rfl, runMk_at (m.env i) (m.body i) q s G3.out, List.drop_eq_getElem_cons hql, (List.getElem?_eq_some_iff.1 hc).2]
                  simp only [runMk]
                  rw [if_neg h0]
                clear hctx hfit hc G3 hcl' hfu
                generalize s.one (m.env i) (m.body i) q c = pp at *
                obtain ⟨s2, er⟩ := pp
                simp only at HST HRN
                go_wp2_with fail
                refine HONE.out.mono ?_
                rintro e w6 ⟨rfl, fr6, ok6⟩
                have F6 : Hid (Fr (fun _ => False) w w6) := G4.out.frame G5.out G6.out fr6
                have OK6 : Hid (er = 0 → _) := ok6
                clear fr6 ok6 HONE
                simp only at OK6 ⊢
                by_cases her : er = 0
                · subst her
                  have N0 : Hid (stateM (m.env i) (m.body i) (q + 1) = some s2) := HST.out s2 rfl rfl
                  obtain ⟨K2, cv2, o2, ho2⟩ := OK6.out rfl
                  have N1 := G4.out.step hS G5.out G6.out HSR.out ho2
                  rw [List.set_set] at N1
                  have HN1 : Hid (BodyS S w bm bp bk i Lm m n w6 { Lq with vs := Lq.vs.set i (v.1, cv2) } (((List.range n).map (fun f => if f < i then m.codeM f else [])).set i s2.code) K2 s2) := N1
                  have N2 : Hid ((Lq.vs.set i (v.1, cv2))[i]? = some (v.1, cv2)) := List.getElem?_set_self (List.getElem?_eq_some_iff.1 G6.out).1
                  clear HST HRN N1 ho2 OK6 G4 G6
                  go_wp2
                  go_roundw
                  case rel => exact ⟨q + 1, K2, { Lq with vs := Lq.vs.set i (v.1, cv2) }, s2, cv2, by omega, by go_num, N0, HN1, G5, N2⟩
                  case measure => simp [intOf]; omega
                · have her1 : (er != 0) = true := by rw [bne_iff_ne]; exact her
                  clear OK6
                  go_wp2
                  (try simp only [Exit.inBlock, Exit.then])
                  refine bodyPost_ret (results_tmp4 rfl _ _ _) rfl ?_
                  have hload : m.loadM = ((i : Int), (q : Int), er) := by
                    unfold ModD.loadM
                    rw [HBS.out]
                    simp only
                    rw [badBodyM_at m.funcs.length m.imports.length i q er hni (by have := HNN.out; omega) (fun f h1 h2 => G2.out f h1 h2) (HRN.out her)]
                  exact ⟨F6.out, fun _ => by rw [hload]; rfl, fun h0 => by rw [hload] at h0; exact absurd h0 her⟩
              · -- the body is through
                have hqe : q = (m.body i).length := by omega
                have hchk : m.chkM i = (none, s) := by
                  unfold ModD.chkM
                  rw [show (m.funD i).results = (m.env i).me.results from rfl, runMk_at (m.env i) (m.body i) q s G3.out, hqe, List.drop_length]
                  rfl
                have hmc : m.codeM i = s.code := by unfold ModD.codeM; rw [if_neg (by omega), hchk]
                have e9 : ((List.range n).map (fun f => if f < i then m.codeM f else [])).set i s.code = (List.range n).map (fun f => if f < i + 1 then m.codeM f else []) := by rw [← hmc]; exact codes_set n i m.codeM hlt
                have NX : Hid (NewS S w bm bp Lm m wr.heap.size wr Lq (m.progAt n ((List.range n).map (fun f => if f < i + 1 then m.codeM f else []))) (m.srcsTo n)) := by
                  rw [← e9]
                  exact { mod := G4.out.mod, prog := G4.out.prog.sub (fun k hk h => ⟨h, hk⟩), fr := G4.out.fr, w0T := G4.out.fr.size, topW := Nat.le_refl _ }
                have N2 : Hid (∀ f, m.imports.length ≤ f → f < i + 1 → (m.chkM f).1 = none) := by
                  intro f h1 h2
                  by_cases hfi : f = i
                  · subst hfi; rw [hchk]
                  · exact G2.out f h1 (by omega)
                clear e9 hmc hchk hcl' G3 G4 G6 hfu
                go_wp2
                go_roundw
                case rel => exact ⟨i + 1, _, _, by omega, by omega, by go_num, NX, N2⟩
                case measure => simp [intOf]; omega
        · -- all bodies are through
          have hie : i = n := by omega
          have K1 := HLS0.out.prog
          rw [hie, codes_full] at K1
          have FR := HLS0.out.fr
          have hload : m.loadM = (0, 0, 0) := by
            unfold ModD.loadM
            rw [HBS.out]
            simp only
            rw [badBodyM_none _ _ (fun f h1 h2 => G2.out f h1 (by have := HNN.out; omega))]
          have HK1 : Hid (MProg _ wr bp _ _ _) := K1.sub (fun k _ hk => hk.1)
          have HFR : Hid (Fr (fun _ => False) w wr) := FR
          have HLD : Hid (m.loadM = (0, 0, 0)) := hload
          clear K1 FR hload HLS0
          go_wp2
          (try simp only [Exit.inBlock, Exit.then])
          refine bodyPost_ret (results_tmp4 rfl _ _ _) rfl ?_
          have hK2 := HK1.out
          unfold ModD.progAt at hK2
          rw [HN.out] at hK2
          exact ⟨HFR.out, fun h0 => by rw [HLD.out] at h0; simp at h0, fun _ => ⟨bp, Lp, m.srcsTo m.nall, rfl, hK2⟩⟩
end Go.Proofs.Qxb6500575aGreatDoor
