/-
  THE WALK of run.ask.
-/
import Derived.Test.Qxb6500575aGreatDoorSTape
import Derived.Stop.Asserts
namespace Go.Proofs.Qxb6500575aGreatDoor
open Go Go.RowKit
set_option linter.unusedVariables false
set_option linter.unusedSimpArgs false

theorem rowVals : IsRow Tryz.prog 37 70 (.agg #[.int .u8 0, .int .i64 0]) 2 16 := ⟨by kernel_rfl, by kernel_rfl, rfl, by decide⟩
def bv0 (n : Nat) : List BV := List.replicate n ⟨0, 0⟩
theorem made_bv (m : Nat) : (madeCells #[.int .u8 0, .int .i64 0] (m * 2)).toList = bvCells (bv0 m) := by
  apply List.ext_getElem?
  intro i
  by_cases hi : i < m * 2
  · have h1 := bvCells_at (bv0 m) (i / 2) ⟨0, 0⟩ (by simp [bv0, List.getElem?_replicate]; omega)
    simp only [madeCells, Array.toList_map, Array.toList_range, List.getElem?_map, List.getElem?_range hi, Option.map_some]
    rcases Nat.mod_two_eq_zero_or_one i with h2 | h2
    · rw [show i = i / 2 * 2 by omega, h1.1]
      simp
    · rw [show i = i / 2 * 2 + 1 by omega, h1.2]
      simp [Nat.add_mod]
  · rw [List.getElem?_eq_none (by simp [madeCells]; omega), List.getElem?_eq_none (by rw [bvCells_len]; simp [bv0]; omega)]
theorem bv0_step (bvs : List BV) (i : Nat) (b : BV) (h : bvs[i]? = some b) : (bv0 (i + 1) ++ bvs.drop (i + 1)).set i b = bv0 i ++ bvs.drop i := by
  have hl : i < bvs.length := (List.getElem?_eq_some_iff.1 h).1
  rw [List.set_append_left _ _ (by simp [bv0]), List.drop_eq_getElem_cons hl, (List.getElem?_eq_some_iff.1 h).2]
  simp only [bv0, List.replicate_succ']
  rw [List.set_append_right _ _ (by simp)]
  simp
theorem methodE (v : Value) (w : World) : (Go.method 403 40 v "Trap").run Tryz.prog w = .ok (179, v) w := by kernel_rfl
theorem asTr (v : Value) (w : World) : (Instr.typeAssert (.iface 40 v) 74 252 true).run Tryz.prog w = .ok (.tuple #[.iface 40 v, .bool true]) w := by kernel_rfl
theorem noTr0 (w : World) : (Instr.typeAssert .nilIface 74 252 true).run Tryz.prog w = .ok (.tuple #[.nilIface, .bool false]) w := by kernel_rfl
theorem noTr1 (v : Value) (w : World) : (Instr.typeAssert (.iface 286 v) 74 252 true).run Tryz.prog w = .ok (.tuple #[.nilIface, .bool false]) w := run_typeAssert_lacksB Tryz.underlying252 (by kernel_rfl) (by kernel_rfl) v 74 w
theorem noTr2 (v : Value) (w : World) : (Instr.typeAssert (.iface 288 v) 74 252 true).run Tryz.prog w = .ok (.tuple #[.nilIface, .bool false]) w := run_typeAssert_lacksB Tryz.underlying252 (by kernel_rfl) (by kernel_rfl) v 74 w
theorem methodT (v : Value) (w : World) : (Go.method 403 85 v "Call").run Tryz.prog w = .ok (180, v) w := by kernel_rfl
theorem need_f {b : Bool} (hb : b = false) (t : Int) (w : World) : Calls Tryz.prog 93 #[.bool b, .int .i64 t] w fun r w' => r = .panicked (trapV t) ∧ w' = w := by
  subst hb
  exact need_no t w
theorem trap_any (n : Int) (w : World) : Calls Tryz.prog 179 #[.int .i64 n] w fun e w' => e = .returned (.int .i64 n) ∧ w' = w := by
  go_enter Tryz.func179, Tryz.ntmps179
  go_wp2
  go_ret
  exact ⟨rfl, rfl⟩
variable {σ τ : Type}
/-- an answer, taken: rs: the declared results -/
def hostR (rs : List UInt8) (s : τ) (a : List BV × Int) : τ × Int × List V :=
  if a.2 = 0 then (if a.1.length = rs.length ∧ (a.1.zip rs).all (fun p => fitsB p.1 p.2) = true then (s, 0, a.1.map fun b => word b.t b.v) else (s, 15, [])) else (s, a.2, [])
/-- the host that ask is -/
def hostF (P : ProgD) (ask : τ → Int → List BV → τ × (List BV × Int)) : HF τ := fun s g args =>
  hostR ((P.funs[g.toNat]?.map FunD.results).getD []) (ask s g (args.map V.bv)).1 (ask s g (args.map V.bv)).2
section
variable {R : RP σ} {T : Nat → Typing} {h : Value} {sem : σ → τ} {H : HF τ}
set_option maxRecDepth 100000
set_option maxHeartbeats 1000000
theorem sask_any (pt : ProgT R.P T) (hh : (h = .nilIface ∧ H = fun s _ _ => (s, 15, [])) ∨ ∃ hv ask, h = .iface 85 hv ∧ AnswX sem ask R hv ∧ H = hostF R.P ask) : AskX sem H R h := by
  intro w L K x n d s r rs g u' args rest hr hfr hu hg hty hfit hfl hlen hrl
  obtain ⟨p1, p2, p3, p4, p5, p6⟩ := pt.ps u' (List.mem_of_getElem? hu)
  have hsig : ({ R.P with steps := n } : ProgD).sig g = (u', true) := by unfold ProgD.sig; rw [if_neg (by omega)]; simp [hu]
  have SIG : Hid (Calls _ _ _ _ _) := sig_any (PS R.bp R.LP) R.bp R.LP { R.P with steps := n } w g hr.prog (by have := pt.flen; simp only; omega)
  rw [hsig] at SIG
  simp only at SIG
  have c0 := hr.inst.here.cell 0
  simp at c0
  have hal : args.length = u'.params.length := by have := congrArg List.length hty; simpa using this
  obtain ⟨up, ur, ul⟩ := u'
  simp only at *
  have HU : Hid (R.P.funs[g]? = some ⟨up, ur, ul⟩) := hu
  obtain ⟨m, HM⟩ : ∃ m, Hid (m = up.length) := ⟨_, rfl⟩
  have hm3 : m ≤ 3 := by rw [HM.out]; exact p1
  have HAL : Hid (args.length = m) := by rw [HM.out]; exact hal
  have HTY : Hid (args.map V.ty = up.reverse) := hty
  have HFIT : Hid (∀ v ∈ args, v.Fits) := hfit
  have HTR : Hid (TyL ur) := p5
  have HR : Hid (∀ k, RunW R (w.drewN k) L K { x with st := args.drop (m - m) ++ rest } n d s) := fun k => by simpa using hr.drewN k
  have HLEN : Hid ((args ++ rest).length ≤ 900) := hlen
  have HUL : Hid (up.length = m) := HM.out.symm
  obtain ⟨ti, hti, hz, hsz, hby⟩ := info_parts rowVals.hi
  clear hr hsig hu hty hfit p4 p5 p6 hal hlen
  go_enter Tryz.func99, Tryz.ntmps99
  go_wp2_with fail
  refine SIG.out.mono ?_
  rintro e w1 ⟨rfl, n1, rfl⟩
  clear SIG
  go_wp2_with fail
  refine (need_ok _ _).mono ?_
  rintro e w1 ⟨rfl, rfl⟩
  rw [HUL.out] at p1
  have hulI : (up.length : Int) = m := by rw [HUL.out]
  go_wp2_with (at_make; go_must (refine wpList_make_full _ rfl _ _ 37 rfl 0 70 ti (.agg #[.int .u8 0, .int .i64 0]) 2 rowVals.ht hti hz hsz .i64 .i64 _ _ m rfl rfl rfl rfl (by rw [hby]; omega) (by unfold maxLen; omega) (Nat.zero_le _) ?mk))
  case mk =>
    intro w2 hown hgrow
    have F2 : Fr (fun _ => False) (w.drewN n1) w2 := (Fr.of_grown hgrow).weaken (fun k _ h => by cases h)
    obtain ⟨bvs, HBV⟩ : ∃ bvs, Hid (bvs = args.reverse.map V.bv) := ⟨_, rfl⟩
    obtain ⟨ga, HGA⟩ : ∃ ga, Hid (ga = (w.drewN n1).heap.size) := ⟨_, rfl⟩
    have HG0 : Hid (R.w0.heap.size ≤ ga) := by
      show _ ≤ _
      rw [HGA.out]; exact (HR.out n1).fr.size
    have HGS : Hid (¬ R.H.S s ga) := by
      intro hS
      have := R.H.lt (HR.out n1).host hS
      rw [HGA.out] at this
      omega
    have O2 : Hid (World.ownsRow w2 0 70 2 (.slice (some ⟨ga, 0, none⟩) m m) m (bvCells (bv0 m ++ bvs.drop m))) := by
      show World.ownsRow _ _ _ _ _ _ _
      rw [HGA.out, List.drop_eq_nil_of_le (by rw [HBV.out]; simp [HAL.out]), List.append_nil, ← made_bv]
      exact hown
    have R2 : Hid (RunW R w2 L K { x with st := args.drop (m - m) ++ rest } n d s) := (HR.out n1).fresh F2
    rw [show (w.heap.size) = ga from HGA.out.symm]
    clear hown hgrow F2 HR
    go_wp2
    go_loopw [11] (fun t wr => ∃ j : Nat, j ≤ m ∧ t = .int .i64 ((j : Int) - 1) ∧ Hid (RunW R wr L K { x with st := args.drop (m - j) ++ rest } n d s) ∧ Hid (World.ownsRow wr 0 70 2 (.slice (some ⟨ga, 0, none⟩) m m) m (bvCells (bv0 j ++ bvs.drop j)))) (fun t _ => (intOf t + 1).toNat)
    case atStart => exact ⟨m, Nat.le_refl _, rfl, R2, O2⟩
    case round =>
      clear R2 O2
      obtain ⟨j, hj, rfl, R3, O3⟩ := hrel
      cases j with
      | succ i =>
        rw [show ((((i + 1 : Nat) : Nat) : Int) - 1) = i by omega]
        have hlt : m - (i + 1) < args.length := by rw [HAL.out]; omega
        obtain ⟨v, hv⟩ : ∃ v, args[m - (i + 1)]? = some v := ⟨_, List.getElem?_eq_getElem hlt⟩
        have HV : Hid (args[m - (i + 1)]? = some v) := hv
        have hvf : v.Fits := HFIT.out v (List.mem_of_getElem? hv)
        have hdrop : args.drop (m - (i + 1)) = v :: args.drop (m - i) := by
          rw [List.drop_eq_getElem_cons hlt, (List.getElem?_eq_some_iff.1 hv).2, show m - (i + 1) + 1 = m - i by omega]
        have hps : up[i]? = some v.ty := by
          have e1 := congrArg (fun l => l[m - (i + 1)]?) HTY.out
          simp only [List.getElem?_map, hv, Option.map_some] at e1
          rw [List.getElem?_reverse (by rw [HUL.out]; omega), HUL.out, show m - 1 - (m - (i + 1)) = i by omega] at e1
          exact e1.symm
        have hb : ∀ h, (((⟨up.toArray⟩ : ByteArray)[i]'h).toNat : Int) = v.ty.toNat := fun h => by
          show (up[i].toNat : Int) = _
          rw [(List.getElem?_eq_some_iff.1 hps).2]
        have R3' : RunW R wr L K { x with st := v :: (args.drop (m - i) ++ rest) } n d s := by
          have := R3.out
          rw [hdrop] at this
          exact this
        have hdl : (args.drop (m - i) ++ rest).length ≤ 900 ∧ rest.length ≤ (args.drop (m - i) ++ rest).length := by
          have := HLEN.out
          simp at this ⊢
          omega
        have HNUM : Hid (Calls _ _ _ _ _) := rnum_any R3'.inst hvf rfl hfr (by omega) (by omega) (by omega)
        have hgl := owns_lt O3.out ga rfl
        have hil : (i : Int) < up.length := by rw [HUL.out]; omega
        have HR3 : Hid (RunW _ _ _ _ _ _ _ _) := R3'
        have HBI : Hid (bvs[i]? = some v.bv) := by
          show _ = _
          rw [HBV.out, List.getElem?_map, List.getElem?_reverse (by rw [HAL.out]; omega), HAL.out, show m - 1 - i = m - (i + 1) by omega, hv]
          rfl
        clear R3 R3' hv hps hdrop hlt hvf
        go_wp2_with fail
        refine HNUM.out.mono ?_
        rintro e w3 ⟨rfl, i1, i2⟩
        have R4 : RunW R w3 L K { x with st := args.drop (m - i) ++ rest } n d s := HR3.out.step i1 i2
        have O4 := owns_fr O3.out i2.fr (HR3.out.inst.row O3.out (by decide) (by decide) (by decide))
        have hbx := bvCells_at (bv0 (i + 1) ++ bvs.drop (i + 1)) i ⟨0, 0⟩ (by rw [List.getElem?_append_left (by simp [bv0])]; simp [bv0])
        have hgl := owns_lt O4 ga rfl
        have a0 := O4.cellAt (i * 2) (by omega)
        have a1 := O4.cellAt (i * 2 + 1) (by omega)
        rw [hbx.1] at a0
        rw [hbx.2] at a1
        simp only [show (((0 : UInt8).toNat : Nat) : Int) = 0 from rfl] at a0
        have hf0 := O4.frozenAt (i * 2)
        have hf1 := O4.frozenAt (i * 2 + 1)
        obtain ⟨cs, hcs⟩ := owns_typed O4 (g := ga) rfl
        have HCS : Hid (Has w3 ga cs 70) := hcs
        have HO4 : Hid (World.ownsRow _ _ _ _ _ _ _) := O4
        have HR4 : Hid (RunW _ _ _ _ _ _ _ _) := R4
        clear HR3 O3 HNUM i1 i2 R4 O4 hbx hcs
        obtain ⟨vt, HVT⟩ : ∃ vt : Int, Hid (vt = v.ty.toNat) := ⟨_, rfl⟩
        obtain ⟨vn, HVN⟩ : ∃ vn : Int, Hid (vn = v.num) := ⟨_, rfl⟩
        rw [← HVT.out] at hb ⊢
        rw [← HVN.out]
        go_wp2
        go_roundw
        case rel =>
          have hFa : Fr (fun k => k = ga) w3 ((w3.setCell ⟨ga, i * 2, none⟩ (.int .u8 vt)).setCell ⟨ga, i * 2 + 1, none⟩ (.int .i64 vn)) := Fr.setCell (S := fun k => k = ga) (Fr.setCell (S := fun k => k = ga) (Fr.refl _ _) (p := ⟨ga, i * 2, none⟩) (.inl rfl) _) (p := ⟨ga, i * 2 + 1, none⟩) (.inl rfl) _
          refine ⟨i, by omega, by first | rfl | go_num, HR4.out.args HCS.out HGS.out HG0.out hFa, ?_⟩
          have := ((HO4.out.stored (i * 2) (.int .u8 vt)).1.stored (i * 2 + 1) (.int .i64 vn)).1
          have e1 := bv_set (bv0 (i + 1) ++ bvs.drop (i + 1)) i v.bv (by simp [bv0]; omega)
          rw [bv0_step bvs i v.bv HBI.out] at e1
          rw [← e1]
          simp only [V.bv]
          rw [← HVT.out, ← HVN.out]
          exact this
        case measure => simp [intOf]
      | zero =>
        have R4 : Hid (RunW R wr L K { x with st := rest } n d s) := by
          have := R3.out
          rw [List.drop_eq_nil_of_le (by rw [HAL.out]; omega), List.nil_append] at this
          exact this
        have O4 : Hid (World.ownsRow wr 0 70 2 (.slice (some ⟨ga, 0, none⟩) m m) m (bvCells bvs)) := by
          have := O3.out
          simp only [bv0, List.replicate_zero, List.nil_append, List.drop_zero] at this
          exact this
        clear R3 O3
        rcases hh with ⟨rfl, rfl⟩ | ⟨hv, ask, rfl, an, rfl⟩
        · go_wp2_with fail
          refine (need_no 15 _).mono ?_
          rintro e w3 ⟨rfl, rfl⟩
          go_wp2
          exact ⟨rfl, 15, by omega, by omega, rfl, L, _, s, R4.out, rfl, rfl, rfl, rfl⟩
        · have HAN : Hid (AnswX sem ask R hv) := an
          clear an
          have mt := methodT
          go_wp2_with fail
          refine (need_ok _ _).mono ?_
          rintro e w3 ⟨rfl, rfl⟩
          have hbl : bvs.length = m := by rw [HBV.out]; simp [HAL.out]
          have HCALL : Hid (Calls _ _ _ _ _) := HAN.out (g : Int) bvs (some ⟨ga, 0, none⟩) m R4.out (by omega) (by rw [hbl]; exact O4.out) (fun g' hg' => by simp [Value.ownBlock] at hg'; subst hg'; exact ⟨HG0.out, HGS.out⟩)
          rw [hbl] at HCALL
          clear hbl
          go_wp2_with fail
          refine HCALL.out.mono ?_
          clear HCALL HAN O4 R4
          rintro e w4 ⟨s', r4, hsem, hans⟩
          have R4 : Hid (RunW _ _ _ _ _ _ _ _) := r4
          have HHF : Hid (hostF R.P ask (sem s) g args.reverse = hostR ur (ask (sem s) g bvs).1 (ask (sem s) g bvs).2) := by
            show _ = _
            unfold hostF
            rw [Int.toNat_natCast, HU.out, ← HBV.out]
            rfl
          generalize ask (sem s) g bvs = qa at hsem hans HHF
          obtain ⟨qs, bs, er⟩ := qa
          simp only at hsem hans HHF
          have HSEM : Hid (sem s' = qs) := hsem
          clear r4 hsem
          rcases hans with ⟨he0, v, rfl, hbl2, hbf, hov⟩ | ⟨he0, erV, rfl, her⟩
          · simp only at he0 hbl2 hbf hov
            subst he0
            have ht := noTr0
            have hvf : ∃ va vc, v = .slice va bs.length vc := by
              rcases hov.2 with ⟨h0, h1⟩ | ⟨g', cap, cur, hv, _⟩
              · exact ⟨none, 0, by rw [h0, h1]⟩
              · exact ⟨_, cap, hv⟩
            obtain ⟨va, vc, rfl⟩ := hvf
            have HOV : Hid (World.ownsRow w4 0 70 2 (.slice va bs.length vc) bs.length (bvCells bs)) := hov
            have HBF : Hid (∀ b ∈ bs, I64 b.v) := hbf
            clear hov hbf
            by_cases hlen : bs.length = ur.length
            · have hcl : ((bs.length : Int) == (ur.length : Int)) = true := by simp [hlen]
              cases bs with
              | nil =>
                have hur : ur = [] := List.eq_nil_of_length_eq_zero (by simpa using hlen.symm)
                subst hur
                simp only [List.length_nil] at *
                go_wp2_with fail
                refine (need_ok _ _).mono ?_
                rintro e w5 ⟨rfl, rfl⟩
                go_wp2_with fail
                refine (need_ok _ _).mono ?_
                rintro e w5 ⟨rfl, rfl⟩
                go_wp2
                refine wp_loop_rounds 1 ?_
                rw [rounds_succ]
                go_wp2
                go_end0
                exact .inl ⟨rfl, L, s', [], R4.out, rfl, rfl, (fun v hv => by cases hv), by rw [HHF.out]; rfl, by rw [HHF.out]; rfl, by rw [HHF.out]; exact HSEM.out.symm⟩
              | cons b bs' =>
                have hb1 : bs' = [] := List.eq_nil_of_length_eq_zero (by simp at hlen; omega)
                subst hb1
                obtain ⟨t, rfl⟩ : ∃ t, ur = [t] := by
                  cases ur with
                  | nil => simp at hlen
                  | cons t l => exact ⟨t, by rw [List.eq_nil_of_length_eq_zero (l := l) (by have := p2; simp only [List.length_cons] at this; omega)]⟩
                obtain ⟨gv, hgv, hcv⟩ := owns_some HOV.out (by simp)
                subst hgv
                have b0 := HOV.out.cellAt 0 (by simp)
                have b1 := HOV.out.cellAt 1 (by simp)
                simp [bvCells] at b0 b1
                have hgvl := owns_lt HOV.out gv rfl
                have hvc : 1 ≤ vc := by
                  rcases owns_form HOV.out with ⟨h, _⟩ | ⟨_, _, h⟩
                  · cases h
                  · simpa using h
                have hbI : I64 b.v := HBF.out b (by simp)
                have htt : t = 105 ∨ t = 108 := HTR.out t (by simp)
                simp only [List.length_cons, List.length_nil, Nat.zero_add] at *
                obtain ⟨btt, bvv⟩ := b
                simp only at b0 b1 hbI
                clear hcv hlen hcl
                go_wp2_with fail
                refine (need_ok _ _).mono ?_
                rintro e w5 ⟨rfl, rfl⟩
                go_wp2_with fail
                refine (need_ok _ _).mono ?_
                rintro e w5 ⟨rfl, rfl⟩
                go_wp2
                refine wp_loop_rounds 2 ?_
                rw [rounds_succ]
                obtain ⟨W, HW⟩ : ∃ W, Hid (W = w5.alloc (.cells #[.int .u8 btt.toNat, .int .i64 bvv] 70)) := ⟨_, rfl⟩
                obtain ⟨G, HGG⟩ : ∃ G, Hid (G = w5.heap.size) := ⟨_, rfl⟩
                have R5 : Hid (RunW R W L K { x with st := rest } n d s') := by
                  show RunW _ _ _ _ _ _ _ _
                  rw [HW.out]; exact R4.out.alloc _
                have HG : Has W G #[.int .u8 btt.toNat, .int .i64 bvv] 70 := by rw [HW.out, HGG.out]; exact Has.new _ _ _
                have e0 : W.drew.cell? ⟨G, 0, none⟩ = _ := HG.cell 0
                have e1 : W.drew.cell? ⟨G, 1, none⟩ = _ := HG.cell 1
                simp only [List.getElem?_toArray, List.getElem?_cons_succ, List.getElem?_cons_zero] at e0 e1
                have HHG : Hid (Has W G _ _) := HG
                clear HG R4
                go_wp2
                rw [← HW.out, ← HGG.out]
                refine wp_region_tail 4 (by kernel_rfl) (by kernel_rfl) (fun _ _ _ _ _ h => h) ?_
                simp only [List.take_succ_cons, List.take_zero, List.drop_succ_cons, List.drop_zero]
                repeat go_big_quiet_step (fail)
                refine wpQuiet_nil ?_
                go_wp2_with fail
                refine (fits_any ⟨btt, bvv⟩ t _).mono ?_
                rintro e w6 ⟨rfl, f6⟩
                have R6 : Hid (RunW R w6 L K { x with st := rest } n d s') := R5.out.drew.fresh f6
                have HG6 : Has w6 G _ _ := HHG.out.drew.fr f6 (fun h => h)
                have e0 := HG6.cell 0
                have e1 := HG6.cell 1
                simp only [List.getElem?_toArray, List.getElem?_cons_succ, List.getElem?_cons_zero] at e0 e1
                have k6 := R6.out.inst.here.lt
                have kG := HG6.lt
                have HHG6 : Hid (Has w6 G _ _) := HG6
                clear R5 HHG f6 HG6
                cases hfb : fitsB ⟨btt, bvv⟩ t with
                | false =>
                  go_wp2_with fail
                  refine (need_no 15 _).mono ?_
                  rintro e w7 ⟨rfl, rfl⟩
                  go_wp2
                  exact ⟨rfl, .inr ⟨15, by omega, by omega, rfl, L, _, s', R6.out, rfl, rfl, by rw [HHF.out]; simp [hostR, hfb], by rw [HHF.out, HSEM.out]; simp [hostR, hfb]⟩⟩
                | true =>
                  obtain ⟨hw1, hw2, _⟩ := fits_word htt hfb hbI
                  have c2 := R6.out.inst.here.cell 2
                  simp at c2
                  have HRL : Hid (rest.length ≤ 900) := by
                    have := HLEN.out
                    simp at this
                    show _ ≤ _
                    omega
                  go_wp2_with fail
                  refine (need_ok _ _).mono ?_
                  rintro e w7 ⟨rfl, rfl⟩
                  go_wp2
                  refine wp_region_wapp rowVal 9 (by kernel_rfl) (by kernel_rfl) (fun _ _ _ _ _ h => h) _ _ _ _ rfl (.tmp 110) 115 116 117 rfl rfl rfl rfl rfl rfl rfl _ _ _ R6.out.inst.st (word btt bvv).val (by rw [V.cells]; rfl) (by decide) (by simp [V.cells, V.oneCell]) (by have := HRL.out; simp only; omega) ?_
                  intro gg cap w8 q1 q2 q3 q4
                  obtain ⟨r1, r2, r3, r4, r5⟩ := R6.out.inst.pushed (word btt bvv) q1 q2 q3 q4
                  have FIN : Hid (RunW _ _ _ _ _ _ _ _) := R6.out.step r4 r5
                  have d2 := r1 2
                  rw [c2] at d2
                  have f2 := r2 2
                  have HG8 : Has w8 G _ _ := (HHG6.out.alloc _).fr q2 (owns_ne R6.out.inst.st HHG6.out (by decide))
                  have g0 := HG8.cell 0
                  have g1 := HG8.cell 1
                  simp only [List.getElem?_toArray, List.getElem?_cons_succ, List.getElem?_cons_zero] at g0 g1
                  clear q1 q2 q3 q4 r4 r5 r1 r2 R6 HG8 HHG6
                  simp only [List.take_succ_cons, List.take_zero]
                  repeat go_big_quiet_step (fail)
                  refine wpQuiet_nil ⟨?_, by simp, by simp, rfl, ?_⟩
                  · intro K hK
                    go_wp2_with fail
                    refine (word_any btt bvv _).mono ?_
                    rintro e w' ⟨rfl, rfl⟩
                    go_wp2
                    exact hK
                  · go_wp2
                    rw [rounds_succ]
                    go_wp2
                    go_end0
                    exact .inl ⟨rfl, _, s', [word btt bvv], FIN.out, rfl, by simp [hw1], (fun v hv => by simp at hv; subst hv; exact hw2), by rw [HHF.out]; simp [hostR, hfb], by rw [HHF.out]; simp [hostR, hfb], by rw [HHF.out, HSEM.out]; simp [hostR, hfb]⟩
            · have hcl : ((bs.length : Int) == (ur.length : Int)) = false := beq_eq_false_iff_ne.2 (by omega)
              go_wp2_with fail
              refine (need_ok _ _).mono ?_
              rintro e w5 ⟨rfl, rfl⟩
              go_wp2_with fail
              refine (need_no 15 _).mono ?_
              rintro e w5 ⟨rfl, rfl⟩
              go_wp2
              exact ⟨rfl, .inr ⟨15, by omega, by omega, rfl, L, _, s', R4.out, rfl, rfl, by rw [HHF.out]; simp [hostR, hlen], by rw [HHF.out, HSEM.out]; simp [hostR, hlen]⟩⟩
          · simp only at he0 her
            have HE : Hid ((hostF R.P ask (sem s) g args.reverse).2.1 = er ∧ (hostF R.P ask (sem s) g args.reverse).1 = sem s') := by
              rw [HHF.out, HSEM.out]
              unfold hostR
              rw [if_neg he0]
              exact ⟨rfl, rfl⟩
            rcases her with ⟨nn, rfl, hnn⟩ | ⟨rfl | rfl, h15⟩
            · have HNN : Hid ((11 ≤ nn ∧ nn < 18 ∧ er = nn) ∨ (¬ (11 ≤ nn ∧ nn < 18) ∧ er = 15)) := hnn
              clear hnn
              have ht := asTr
              have me := methodE
              by_cases hn1 : 11 ≤ nn
              · by_cases hn2 : nn < 18
                · go_wp2_with fail
                  refine (trap_any nn _).mono ?_
                  rintro e w5 ⟨rfl, rfl⟩
                  go_wp2_with fail
                  refine (need_ok _ _).mono ?_
                  rintro e w5 ⟨rfl, rfl⟩
                  go_wp2
                  exact ⟨rfl, .inr ⟨nn, by omega, by omega, rfl, L, _, s', R4.out, rfl, rfl, by rw [HE.out.1]; have := HNN.out; omega, HE.out.2⟩⟩
                · go_wp2_with fail
                  refine (trap_any nn _).mono ?_
                  rintro e w5 ⟨rfl, rfl⟩
                  go_wp2_with fail
                  refine (need_f (decide_eq_false (by omega)) 15 _).mono ?_
                  rintro e w5 ⟨rfl, rfl⟩
                  go_wp2
                  exact ⟨rfl, .inr ⟨15, by omega, by omega, rfl, L, _, s', R4.out, rfl, rfl, by rw [HE.out.1]; have := HNN.out; omega, HE.out.2⟩⟩
              · go_wp2_with fail
                refine (trap_any nn _).mono ?_
                rintro e w5 ⟨rfl, rfl⟩
                go_wp2_with fail
                refine (need_no 15 _).mono ?_
                rintro e w5 ⟨rfl, rfl⟩
                go_wp2
                exact ⟨rfl, .inr ⟨15, by omega, by omega, rfl, L, _, s', R4.out, rfl, rfl, by rw [HE.out.1]; have := HNN.out; omega, HE.out.2⟩⟩
            · have HNN : Hid (er = 15) := h15
              have ht := noTr1
              go_wp2_with fail
              refine (need_no 15 _).mono ?_
              rintro e w5 ⟨rfl, rfl⟩
              go_wp2
              exact ⟨rfl, .inr ⟨15, by omega, by omega, rfl, L, _, s', R4.out, rfl, rfl, by rw [HE.out.1]; have := HNN.out; omega, HE.out.2⟩⟩
            · have HNN : Hid (er = 15) := h15
              have ht := noTr2
              go_wp2_with fail
              refine (need_no 15 _).mono ?_
              rintro e w5 ⟨rfl, rfl⟩
              go_wp2
              exact ⟨rfl, .inr ⟨15, by omega, by omega, rfl, L, _, s', R4.out, rfl, rfl, by rw [HE.out.1]; have := HNN.out; omega, HE.out.2⟩⟩
end
end Go.Proofs.Qxb6500575aGreatDoor
