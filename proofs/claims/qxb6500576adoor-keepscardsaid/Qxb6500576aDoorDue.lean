/-
  THE WALK of preplaw.Due.
-/
import Derived.Test.Qxb6500576aDoorLaw4
import Derived.Test.Qxb6500576aDoorFetch
import Derived.Test.Qxb6500576aDoorLoadLaws
namespace Go.Proofs.Qxb6500576aDoor
open Go Go.RowKit
set_option linter.unusedVariables false
set_option linter.unusedSimpArgs false

theorem due_res (tmps : Array Value) (w : World) (b : Nat) (x y z u : Value) (hp : tmps.getD 2 undef = .pointer (some ⟨b, 0, none⟩)) (hb : Has w b #[x, y, z, u] 41) :
    (results Tryd.f12 tmps).run Tryd.prog w = .ok (.tuple #[.agg #[x, y, z, u], tmps.getD 3 undef]) w := by
  rw [results_cell_tmp2 (p := 2) (u := 3) (ty := 41) rfl]
  rw [hp]
  simp only [asAddr, Sem.run_pure, Result.andThen_ok]
  obtain ⟨fs, hu⟩ : ∃ fs, Tryd.prog.underlying 41 = some (.struct fs) := by
    have hk : (match Tryd.prog.underlying 41 with | some (.struct _) => true | _ => false) = true := by kernel_rfl
    split at hk
    · rename_i fs he
      exact ⟨fs, he⟩
    · cases hk
  rw [run_loadVar_row w b 41 41 #[x, y, z, u] _ _ hb hu rfl (by kernel_rfl)]
  rfl

structure DueS (w : World) (Sb : Nat → Prop) (bb : Nat) (K : BelL) (x : BelD) (wr : World) : Prop where
  rep : BelRep Sb wr bb K x
  fr : Fr (fun _ => False) w wr
  ans : Has wr w.heap.size #[.int .i64 0, .int .i64 0, .int .i64 0, .string ⟨#[]⟩] 41
theorem DueS.go {w : World} {Sb : Nat → Prop} {bb : Nat} {K : BelL} {x : BelD} {wr w' : World} (h : DueS w Sb bb K x wr) (hf : Fr (fun _ => False) wr w') : DueS w Sb bb K x w' :=
  ⟨h.rep.newer hf, h.fr.trans hf (fun _ _ h => h), h.ans.fr hf (fun h => h)⟩
def duePost (m : ModD) (w : World) (e : Ending) (w' : World) : Prop :=
  e = .returned (.tuple #[.agg #[.int .i64 m.due.1.1, .int .i64 m.due.1.2.1, .int .i64 m.due.1.2.2, .string ⟨#[]⟩], .bool m.due.2]) ∧ Fr (fun _ => False) w w'
theorem DueS.put {w : World} {Sb : Nat → Prop} {bb : Nat} {K : BelL} {x : BelD} {wr : World} (h : DueS w Sb bb K x wr) (v0 v1 v2 v3 : Value) :
    Has ((((wr.setCell ⟨w.heap.size, 0, none⟩ v0).setCell ⟨w.heap.size, 1, none⟩ v1).setCell ⟨w.heap.size, 2, none⟩ v2).setCell ⟨w.heap.size, 3, none⟩ v3) w.heap.size #[v0, v1, v2, v3] 41 ∧
    Fr (fun _ => False) w ((((wr.setCell ⟨w.heap.size, 0, none⟩ v0).setCell ⟨w.heap.size, 1, none⟩ v1).setCell ⟨w.heap.size, 2, none⟩ v2).setCell ⟨w.heap.size, 3, none⟩ v3) := by
  obtain ⟨g1, g2⟩ := h.ans.put4 v0 v1 v2 v3
  exact ⟨g1, h.fr.trans g2 (fun j hj e => by omega)⟩

set_option maxRecDepth 100000 in
set_option maxHeartbeats 4000000 in
theorem due_any (Sb : Nat → Prop) (bb : Nat) (K : BelL) (x : BelD) (w : World) (h : BelRep Sb w bb K x) (hg : ModGood x.m) :
    Calls Tryd.prog 12 #[.pointer (some ⟨bb, 0, none⟩)] w (duePost x.m w) := by
  obtain ⟨W, hW⟩ : ∃ W, W = w.alloc (.cells #[.int .i64 0, .int .i64 0, .int .i64 0, .string ⟨#[]⟩] 41) := ⟨_, rfl⟩
  have F0 : Fr (fun _ => False) w W := by rw [hW]; exact (Fr.refl _ w).alloc _
  have D0 : DueS w Sb bb K x W := ⟨h.newer F0, F0, by rw [hW]; exact Has.new w _ _⟩
  have hni := hg.ok.ni
  have hnf := hg.ok.nf
  have hnp := hg.ok.np
  have hnr := hg.ok.nr
  have HNR : Hid (x.m.results.length = x.m.params.length) := hnr
  have HC1 : Hid (Calls _ _ _ _ _) := nimports_any _ K.bm K.L x.m W D0.rep.mod
  have HC2 : Hid (Calls _ _ _ _ _) := nfuncs_any _ K.bm K.L x.m W D0.rep.mod
  have HC3 : Hid (Calls _ _ _ _ _) := ntypes_any _ K.bm K.L x.m W D0.rep.mod
  have c0 := D0.rep.here.cell 0
  simp at c0
  have bl := D0.rep.here.lt
  have HD : Hid (DueS w Sb bb K x W) := D0
  obtain ⟨ni, hniE⟩ : ∃ ni, x.m.imports.length = ni := ⟨_, rfl⟩
  obtain ⟨nf, hnfE⟩ : ∃ nf, x.m.funcs.length = nf := ⟨_, rfl⟩
  obtain ⟨np, hnpE⟩ : ∃ np, x.m.params.length = np := ⟨_, rfl⟩
  have HNI : Hid (x.m.imports.length = ni) := hniE
  have HNF : Hid (x.m.funcs.length = nf) := hnfE
  have HNP : Hid (x.m.params.length = np) := hnpE
  rw [hniE] at HC1 hni
  rw [hnfE] at HC2 hnf
  rw [hnpE] at HC3 hnp
  clear hniE hnfE hnpE hnr D0 F0 h hg
  rw [hW] at HC1 c0 bl
  go_enter Tryd.func12, Tryd.ntmps12
  go_wp2_with fail
  refine HC1.out.mono ?_
  rintro e w1 ⟨rfl, hw1⟩
  rw [← hW] at hw1 c0 bl
  subst hw1
  clear hW HC1
  go_wp2_with fail
  refine HC2.out.mono ?_
  rintro e w2 ⟨rfl, hw2⟩
  obtain rfl := hw2.symm
  clear hw2 HC2
  go_wp2_with fail
  refine HC3.out.mono ?_
  rintro e w2 ⟨rfl, hw2⟩
  obtain rfl := hw2.symm
  clear hw2 HC3 c0 bl
  go_wp2
  go_loopw [7] (fun t wr => ∃ (g : Nat), g ≤ ni + nf ∧ t = .int .i64 g ∧ Hid (∀ j, j < g → x.m.typOf j < (np : Int)) ∧ Hid (DueS w Sb bb K x wr)) (fun t _ => ni + nf - (intOf t).toNat)
  case atStart => exact ⟨0, Nat.zero_le _, rfl, fun j hj => by omega, HD⟩
  case round =>
    obtain ⟨g, hgl, rfl, GT, G1⟩ := hrel
    have c0 := G1.out.rep.here.cell 0
    simp at c0
    have bl := G1.out.rep.here.lt
    by_cases hlt : g < ni + nf
    · have HI : Hid (Calls _ _ _ _ _) := import_any _ K.bm K.L x.m g wr G1.out.rep.mod (by rw [HNI.out]; omega)
      have HTY : Hid (x.m.typOf g = if g < ni then x.m.importAt g else (x.m.funcAt ((g : Int) - ni)).1) := by show _ = _; unfold ModD.typOf; rw [HNI.out]
      generalize x.m.importAt g = ti at *
      obtain ⟨T, hT⟩ : ∃ T, T = x.m.typOf g := ⟨_, rfl⟩
      have HTT : Hid (T = x.m.typOf g) := hT
      have fin : (np : Int) ≤ T → x.m.due = (((5 : Int), (g : Int), (-1 : Int)), true) := by
        intro hle
        have : x.m.badSig 0 x.m.nall = some g := badSig_at x.m.nall 0 g (Nat.zero_le _) (by unfold ModD.nall; rw [HNI.out, HNF.out]; omega) (fun j _ hj => by rw [HNP.out]; exact GT.out j hj) (by rw [HNP.out, ← HTT.out]; exact hle)
        unfold ModD.due
        rw [this]
      have next : ¬ (np : Int) ≤ T → ∀ j, j < g + 1 → x.m.typOf j < (np : Int) := by
        intro hn j hj
        by_cases hjg : j = g
        · subst hjg; rw [← HTT.out]; omega
        · exact GT.out j (by omega)
      have HFIN : Hid ((np : Int) ≤ T → x.m.due = (((5 : Int), (g : Int), (-1 : Int)), true)) := fin
      have HNX : Hid (¬ (np : Int) ≤ T → ∀ j, j < g + 1 → x.m.typOf j < (np : Int)) := next
      clear hT fin next
      by_cases hgi : g < ni
      · have hTi : T = ti := by rw [HTT.out, HTY.out, if_pos hgi]
        subst hTi
        clear HTY HTT
        go_wp2_with fail
        refine HI.out.mono ?_
        rintro e w1 ⟨rfl, hw1⟩
        obtain rfl := hw1.symm
        clear hw1 HI
        by_cases hbad : (np : Int) ≤ T
        · have hdue := HFIN.out hbad
          have x0 := G1.out.ans.cell 0
          have x1 := G1.out.ans.cell 1
          have x2 := G1.out.ans.cell 2
          have x3 := G1.out.ans.cell 3
          simp at x0 x1 x2 x3
          have y0 := G1.out.ans.frozen 0
          have y1 := G1.out.ans.frozen 1
          have y2 := G1.out.ans.frozen 2
          have y3 := G1.out.ans.frozen 3
          have yl := G1.out.ans.lt
          have HDUE : Hid (x.m.due = (((5 : Int), (g : Int), (-1 : Int)), true)) := hdue
          clear hdue
          go_wp2
          (try simp only [Exit.inBlock, Exit.then])
          obtain ⟨p1, p2⟩ := G1.out.put (.int .i64 5) (.int .i64 g) (.int .i64 (-1)) (.string ⟨#[]⟩)
          refine bodyPost_ret (due_res _ _ w.heap.size _ _ _ _ rfl p1) rfl ?_
          unfold duePost
          rw [HDUE.out]
          exact ⟨rfl, p2⟩
        · have N1 : Hid (∀ j, j < g + 1 → x.m.typOf j < (np : Int)) := HNX.out (by omega)
          clear HNX HFIN
          go_wp2
          go_roundw
          case rel => exact ⟨g + 1, by omega, by go_num, N1, G1⟩
          case measure => simp [intOf]; omega
      · have HFu : Hid (Calls _ _ _ _ _) := func_any _ K.bm K.L x.m ((g : Int) - ni) wr G1.out.rep.mod (by rw [HNF.out]; omega)
        have hTf : (x.m.funcAt ((g : Int) - ni)).1 = T := by rw [HTT.out, HTY.out, if_neg hgi]
        rw [hTf] at HFu
        generalize (x.m.funcAt ((g : Int) - ni)).2.1 = lo at *
        generalize (x.m.funcAt ((g : Int) - ni)).2.2 = sz at *
        clear HTY HTT hTf
        go_wp2_with fail
        refine HI.out.mono ?_
        rintro e w1 ⟨rfl, hw1⟩
        obtain rfl := hw1.symm
        clear hw1 HI
        go_wp2_with fail
        refine HFu.out.mono ?_
        rintro e w1 ⟨rfl, n1, hw1⟩
        have GN : Hid (DueS w Sb bb K x w1) := by rw [hw1]; exact G1.out.go ((Fr.refl _ _).drewN n1)
        clear hw1 HFu G1 c0 bl
        by_cases hbad : (np : Int) ≤ T
        · have HDUE : Hid (x.m.due = (((5 : Int), (g : Int), (-1 : Int)), true)) := HFIN.out hbad
          have x0 := GN.out.ans.cell 0
          have x1 := GN.out.ans.cell 1
          have x2 := GN.out.ans.cell 2
          have x3 := GN.out.ans.cell 3
          simp at x0 x1 x2 x3
          have y0 := GN.out.ans.frozen 0
          have y1 := GN.out.ans.frozen 1
          have y2 := GN.out.ans.frozen 2
          have y3 := GN.out.ans.frozen 3
          have yl := GN.out.ans.lt
          go_wp2
          (try simp only [Exit.inBlock, Exit.then])
          obtain ⟨p1, p2⟩ := GN.out.put (.int .i64 5) (.int .i64 g) (.int .i64 (-1)) (.string ⟨#[]⟩)
          refine bodyPost_ret (due_res _ _ w.heap.size _ _ _ _ rfl p1) rfl ?_
          unfold duePost
          rw [HDUE.out]
          exact ⟨rfl, p2⟩
        · have N1 : Hid (∀ j, j < g + 1 → x.m.typOf j < (np : Int)) := HNX.out (by omega)
          clear HNX HFIN
          go_wp2
          go_roundw
          case rel => exact ⟨g + 1, by omega, by go_num, N1, GN⟩
          case measure => simp [intOf]; omega
    · have hgE : g = ni + nf := by omega
      have hbs : x.m.badSig 0 x.m.nall = none := badSig_none x.m.nall 0 (fun j _ hj => by rw [HNP.out]; exact GT.out j (by unfold ModD.nall at hj; rw [HNI.out, HNF.out] at hj; omega))
      have HBS : Hid (x.m.badSig 0 x.m.nall = none) := hbs
      have HFu : Hid (Calls _ _ _ _ _) := func_any _ K.bm K.L x.m 0 wr G1.out.rep.mod (by rw [HNF.out]; omega)
      obtain ⟨ft, hft⟩ : ∃ ft, x.m.funcAt 0 = ft := ⟨_, rfl⟩
      have HFT : Hid (x.m.funcAt 0 = ft) := hft
      rw [hft] at HFu
      obtain ⟨ty, lo, sz⟩ := ft
      simp only at HFu
      clear hbs hft GT
      subst hgE
      go_wp2_with fail
      refine HFu.out.mono ?_
      rintro e w1 ⟨rfl, n1, hw1⟩
      have GN : Hid (DueS w Sb bb K x w1) := by rw [hw1]; exact G1.out.go ((Fr.refl _ _).drewN n1)
      clear hw1 HFu G1 c0 bl
      by_cases hf0 : nf = 0
      · have HDUE : Hid (x.m.due = (((0 : Int), (0 : Int), (0 : Int)), true)) := by
          show _ = _
          unfold ModD.due
          rw [HBS.out]
          simp only
          rw [if_pos (by rw [HNF.out]; exact hf0)]
        subst hf0
        have x0 := GN.out.ans.cell 0
        have x1 := GN.out.ans.cell 1
        have x2 := GN.out.ans.cell 2
        have x3 := GN.out.ans.cell 3
        simp at x0 x1 x2 x3
        have y0 := GN.out.ans.frozen 0
        have y1 := GN.out.ans.frozen 1
        have y2 := GN.out.ans.frozen 2
        have y3 := GN.out.ans.frozen 3
        have yl := GN.out.ans.lt
        go_wp2
        (try simp only [Exit.inBlock, Exit.then])
        obtain ⟨p1, p2⟩ := GN.out.put (.int .i64 0) (.int .i64 0) (.int .i64 0) (.string ⟨#[]⟩)
        refine bodyPost_ret (due_res _ _ w.heap.size _ _ _ _ rfl p1) rfl ?_
        unfold duePost
        rw [HDUE.out]
        exact ⟨rfl, p2⟩
      · have hfi : ((nf : Int) == 0) = false := by rw [beq_eq_false_iff_ne]; omega
        by_cases h1 : nf ≠ 1 ∨ sz ≠ 1
        · have HDUE : Hid (x.m.due = (((0 : Int), (0 : Int), (0 : Int)), false)) := by
            show _ = _
            unfold ModD.due
            rw [HBS.out]
            simp only
            rw [if_neg (by rw [HNF.out]; exact hf0), if_pos (by rw [HNF.out, HFT.out]; exact h1)]
          by_cases hn1 : nf = 1
          · subst hn1
            have hs1 : (sz != 1) = true := by rw [bne_iff_ne]; rcases h1 with h | h; exact absurd rfl h; exact h
            clear h1
            have x0 := GN.out.ans.cell 0
            have x1 := GN.out.ans.cell 1
            have x2 := GN.out.ans.cell 2
            have x3 := GN.out.ans.cell 3
            simp at x0 x1 x2 x3
            have y0 := GN.out.ans.frozen 0
            have y1 := GN.out.ans.frozen 1
            have y2 := GN.out.ans.frozen 2
            have y3 := GN.out.ans.frozen 3
            have yl := GN.out.ans.lt
            go_wp2
            (try simp only [Exit.inBlock, Exit.then])
            obtain ⟨p1, p2⟩ := GN.out.put (.int .i64 0) (.int .i64 0) (.int .i64 0) (.string ⟨#[]⟩)
            refine bodyPost_ret (due_res _ _ w.heap.size _ _ _ _ rfl p1) rfl ?_
            unfold duePost
            rw [HDUE.out]
            exact ⟨rfl, p2⟩
          · have hs1 : ((nf : Int) != 1) = true := by rw [bne_iff_ne]; omega
            clear h1
            have x0 := GN.out.ans.cell 0
            have x1 := GN.out.ans.cell 1
            have x2 := GN.out.ans.cell 2
            have x3 := GN.out.ans.cell 3
            simp at x0 x1 x2 x3
            have y0 := GN.out.ans.frozen 0
            have y1 := GN.out.ans.frozen 1
            have y2 := GN.out.ans.frozen 2
            have y3 := GN.out.ans.frozen 3
            have yl := GN.out.ans.lt
            go_wp2
            (try simp only [Exit.inBlock, Exit.then])
            obtain ⟨p1, p2⟩ := GN.out.put (.int .i64 0) (.int .i64 0) (.int .i64 0) (.string ⟨#[]⟩)
            refine bodyPost_ret (due_res _ _ w.heap.size _ _ _ _ rfl p1) rfl ?_
            unfold duePost
            rw [HDUE.out]
            exact ⟨rfl, p2⟩
        · have hn1 : nf = 1 := by omega
          have hs1 : sz = 1 := by omega
          subst hn1
          subst hs1
          have HTp : Hid (Calls _ _ _ _ _) := type_any _ K.bm K.L x.m ty w1 GN.out.rep.mod (by rw [HNP.out]; omega) HNR.out
          obtain ⟨tt, htt⟩ : ∃ tt, x.m.typeAt ty = tt := ⟨_, rfl⟩
          have HTA : Hid (x.m.typeAt ty = tt) := htt
          rw [htt] at HTp
          obtain ⟨tp, tr⟩ := tt
          simp only at HTp
          have c0 := GN.out.rep.here.cell 0
          simp at c0
          have bl := GN.out.rep.here.lt
          clear htt h1
          go_wp2_with fail
          refine HTp.out.mono ?_
          rintro e w2 ⟨rfl, n2, hw2⟩
          obtain ⟨GM, hGM⟩ : ∃ GM : Hid (DueS w Sb bb K x w2), True := ⟨by rw [hw2]; exact GN.out.go ((Fr.refl _ _).drewN n2), trivial⟩
          clear hw2 HTp GN c0 bl hGM
          have GN := GM
          clear GM
          have due1 : x.m.due = (if tr = [] then (((0 : Int), (0 : Int), (0 : Int)), true) else (((6 : Int), (ni : Int), (0 : Int)), true)) := by
            unfold ModD.due
            rw [HBS.out]
            simp only
            rw [if_neg (by rw [HNF.out]; exact hf0), if_neg (by rw [HNF.out, HFT.out]; simp), HFT.out]
            simp only
            rw [HTA.out, HNI.out]
          cases tr with
          | nil =>
            have HDUE : Hid (x.m.due = (((0 : Int), (0 : Int), (0 : Int)), true)) := by show _ = _; rw [due1, if_pos rfl]
            clear due1
            have x0 := GN.out.ans.cell 0
            have x1 := GN.out.ans.cell 1
            have x2 := GN.out.ans.cell 2
            have x3 := GN.out.ans.cell 3
            simp at x0 x1 x2 x3
            have y0 := GN.out.ans.frozen 0
            have y1 := GN.out.ans.frozen 1
            have y2 := GN.out.ans.frozen 2
            have y3 := GN.out.ans.frozen 3
            have yl := GN.out.ans.lt
            go_wp2
            (try simp only [Exit.inBlock, Exit.then])
            obtain ⟨p1, p2⟩ := GN.out.put (.int .i64 0) (.int .i64 0) (.int .i64 0) (.string ⟨#[]⟩)
            refine bodyPost_ret (due_res _ _ w.heap.size _ _ _ _ rfl p1) rfl ?_
            unfold duePost
            rw [HDUE.out]
            exact ⟨rfl, p2⟩
          | cons t0 tr0 =>
            have HDUE : Hid (x.m.due = (((6 : Int), (ni : Int), (0 : Int)), true)) := by show _ = _; rw [due1, if_neg (by simp)]
            clear due1
            have x0 := GN.out.ans.cell 0
            have x1 := GN.out.ans.cell 1
            have x2 := GN.out.ans.cell 2
            have x3 := GN.out.ans.cell 3
            simp at x0 x1 x2 x3
            have y0 := GN.out.ans.frozen 0
            have y1 := GN.out.ans.frozen 1
            have y2 := GN.out.ans.frozen 2
            have y3 := GN.out.ans.frozen 3
            have yl := GN.out.ans.lt
            go_wp2
            (try simp only [Exit.inBlock, Exit.then])
            obtain ⟨p1, p2⟩ := GN.out.put (.int .i64 6) (.int .i64 ni) (.int .i64 0) (.string ⟨#[]⟩)
            refine bodyPost_ret (due_res _ _ w.heap.size _ _ _ _ rfl p1) rfl ?_
            unfold duePost
            rw [HDUE.out]
            exact ⟨rfl, p2⟩
end Go.Proofs.Qxb6500576aDoor
