/-
  THE WALK of comp: CheckMid: the upvalues.
-/
import Derived.Test.Qxb6500574aGreatDoorWKc2
import Derived.Test.Qxb6500574aGreatDoorWKc4
import Derived.Test.Qxb6500574aGreatDoorURg
import Derived.Test.Qxb6500574aGreatDoorRegC
import Derived.Test.Qxb6500574aGreatDoorWCm9
namespace Go.Proofs.Qxb6500574aGreatDoor
open Go Go.RowKit
set_option linter.unusedVariables false
set_option linter.unusedSimpArgs false
open Go.Lib
section
set_option maxRecDepth 100000
set_option maxHeartbeats 1000000
variable {w : World} {o : Nat → Nat} {C : CC} {N : List Nd} {c : CmD} {x : Nat} {xs : List (FnD × FnL)} {L : FnL}
theorem ckU_w (R : CRep w o C N c) (F : FnAt w o C c x xs L) (hx : x < c.np) (hu : UpOk c x) {a : Act} (ha : Fr36 C.gF x a) (h1 : a.tmps[85]? = some (.slice L.up.a (c.fn x).ups.length L.up.c)) (h2 : a.tmps[86]? = some (.int .i64 (c.fn x).ups.length)) (h3 : a.tmps[87]? = some (.int .i64 0)) {Q : Exit → Act → World → Prop} (hQ : ∀ c a t v w, Q (.panic c) (a.put (some t) v) w → Q (.panic c) a w) (hK : ∀ a' w', Fr36 C.gF x a' → Fr (fun _ => False) w w' → Q (.exit 0) a' w') :
    (mdU Tryz.f36.body).wp Tryz.prog Q a w := by
  have c1 := F.cell 1 (by omega)
  have c5 := F.cell 5 (by omega)
  have fl := F.lt
  simp only [fnV, List.getElem?_cons_succ, List.getElem?_cons_zero, Sl.v] at c1 c5
  have HF : Hid (FnAt w o C c x xs L) := F
  have HUO : Hid (UpOk c x) := hu
  have HK : Hid (∀ a' w', Fr36 C.gF x a' → Fr (fun _ => False) w w' → Q (.exit 0) a' w') := hK
  have HQQ : Hid (∀ c a t v w, Q (.panic c) (a.put (some t) v) w → Q (.panic c) a w) := hQ
  obtain ⟨ups, HUPS⟩ : ∃ ups, Hid ((c.fn x).ups = ups) := ⟨_, rfl⟩
  have HRU : Hid (Row w o (labF x 1) 135 2 L.up ups.length (ups.flatMap dCells)) := by rw [← HUPS.out]; exact F.one.up
  rw [HUPS.out] at c5 h1 h2
  obtain ⟨n, HN⟩ : ∃ n : Nat, Hid (ups.length = n) := ⟨_, rfl⟩
  obtain ⟨ua, HUA⟩ : ∃ ua, Hid (L.up.a = ua) := ⟨_, rfl⟩
  obtain ⟨uc, HUC⟩ : ∃ uc, Hid (L.up.c = uc) := ⟨_, rfl⟩
  rw [HN.out, HUA.out, HUC.out] at c5 h1
  rw [HN.out] at h2
  obtain ⟨u, ea, hv⟩ := form262 ha.size ha.df
  rw [hv 0 _ ha.t0, hv 85 _ h1, hv 86 _ h2, hv 87 _ h3] at ea
  subst ea
  have hn144 : n ≤ 144 := by rw [← HN.out, ← HUPS.out]; exact hu.le
  clear R F hu hK ha hv h1 h2 h3 hQ
  simp only [mdU, codeL, codeR, codeIn, Tryz.f36, Option.getD_some]
  go_loopg [87] n (fun g v87 w1 => ∃ j : Nat, j + g = n ∧ v87 = .int .i64 j ∧ Hid (Fr (fun _ => False) w w1))
  case atStart => exact ⟨0, by omega, rfl, Fr.refl _ _⟩
  case round =>
    obtain ⟨j, hj, rfl, HFR⟩ := hrel
    by_cases hjn : j < n
    · have hj' : (j : Int) < (n : Int) := by omega
      obtain ⟨d, hd⟩ : ∃ d, ups[j]? = some d := ⟨_, List.getElem?_eq_getElem (by rw [HN.out]; exact hjn)⟩
      obtain ⟨gU, e1, e2, e3, e4, e5, e6⟩ := HRU.out.at dCells_len hd
      have k0 := HFR.out.cell (e5 0 (by omega))
      have k1 := HFR.out.cell (e5 1 (by omega))
      simp only [dCells, List.getElem?_cons_succ, List.getElem?_cons_zero, Nat.add_zero] at k0 k1
      have e4 : gU < wr.heap.size := Nat.lt_of_lt_of_le e4 HFR.out.size
      rw [HN.out, HUC.out] at e2
      have hua : ua = some ⟨gU, 0, none⟩ := HUA.out.symm.trans e1
      subst hua
      obtain ⟨p, hp1, hp2, hp3⟩ := HUO.out.fit d (by rw [HUPS.out]; exact List.mem_of_getElem? hd)
      have hus := HUO.out.us d (by rw [HUPS.out]; exact List.mem_of_getElem? hd)
      obtain ⟨lp, q1, q2⟩ := HF.out.all p hp2
      have d4 := HFR.out.cell (HF.out.rep.cell q1 (j := 4) (by omega))
      have d5 := HFR.out.cell (HF.out.rep.cell q1 (j := 5) (by omega))
      simp only [fnV, List.getElem?_cons_succ, List.getElem?_cons_zero, Sl.v] at d4 d5
      have c1 := HFR.out.cell c1
      have c5 := HFR.out.cell c5
      have fl : C.gF < wr.heap.size := Nat.lt_of_lt_of_le fl HFR.out.size
      simp only [hp1, pptr, fptr] at c1
      obtain ⟨pn, HPN⟩ : ∃ v, Hid ((c.fn p).nslots = v) := ⟨_, rfl⟩
      obtain ⟨pu, HPU⟩ : ∃ v, Hid ((c.fn p).ups.length = v) := ⟨_, rfl⟩
      rw [HPN.out] at d4
      rw [HPU.out] at d5
      rw [HPN.out, HPU.out] at hp3
      have HD : Hid (ups[j]? = some d) := hd
      have HND : Hid (ups.Nodup) := by rw [← HUPS.out]; exact HUO.out.nd
      obtain ⟨g', HG'⟩ : ∃ g', Hid (gk = g' + 1) := ⟨gk - 1, by show _ = _; omega⟩
      have HJ : Hid (j + gk = n) := hj
      obtain ⟨d1, d2⟩ := d
      simp only at hp3 k0 k1 hus
      obtain ⟨hus1, hus2⟩ := hus
      have hjc : j ≤ uc := by omega
      -- the block of this round
      obtain ⟨b4, HB4⟩ : ∃ b, Hid (wr.heap.size = b) := ⟨_, rfl⟩
      obtain ⟨W1, HW1⟩ : ∃ W, Hid (wr.alloc (.cells #[.int .u8 d1, .int .u8 d2] 135) = W) := ⟨_, Eq.refl _⟩
      have hb4e : wr.heap.size = b4 := HB4.out
      have eW1 : wr.alloc (.cells #[.int .u8 d1, .int .u8 d2] 135) = W1 := HW1.out
      have FW1 : Fr (fun _ => False) wr W1 := by rw [← HW1.out]; exact (Fr.refl _ _).alloc _
      have hB : Has W1 b4 #[.int .u8 d1, .int .u8 d2] 135 := by rw [← HW1.out]; exact Has.newC _ _ _ HB4.out.symm
      have m0 := hB.cell 0
      have m1 := hB.cell 1
      have mz0 := hB.frozen 0
      have mz1 := hB.frozen 1
      have ml := hB.lt
      simp only [List.getElem?_toArray, List.getElem?_cons_succ, List.getElem?_cons_zero] at m0 m1
      have HB : Hid (Has W1 b4 #[.int .u8 d1, .int .u8 d2] 135) := hB
      have FF : Hid (Fr (fun _ => False) w W1) := HFR.out.trans FW1 (fun _ _ x => x)
      have c1b := FW1.cell c1
      have c5b := FW1.cell c5
      have d4b := FW1.cell d4
      have d5b := FW1.cell d5
      have flb : C.gF < W1.heap.size := Nat.lt_of_lt_of_le fl FW1.size
      -- the inner loop's cells
      have INN : Hid (∀ (W : World), Fr (fun _ => False) W1 W → ∀ i, i < j → ∃ e : Nat × Nat, W.cell? ⟨gU, i * 2, none⟩ = some (.int .u8 e.1) ∧ W.cell? ⟨gU, i * 2 + 1, none⟩ = some (.int .u8 e.2) ∧ gU < W.heap.size ∧ W.cell? ⟨b4, 0, none⟩ = some (.int .u8 d1) ∧ W.cell? ⟨b4, 1, none⟩ = some (.int .u8 d2) ∧ b4 < W.heap.size ∧ ∀ W', (Op.equalIn 10000 135 (.agg #[.int .u8 e.1, .int .u8 e.2]) (.agg #[.int .u8 d1, .int .u8 d2])).run Tryz.prog W' = .ok false W') := by
        intro W hW i hi
        obtain ⟨e, he⟩ : ∃ e, ups[i]? = some e := ⟨_, List.getElem?_eq_getElem (by rw [HN.out]; omega)⟩
        obtain ⟨gV, f1, f2, f3, f4, f5, f6⟩ := HRU.out.at dCells_len he
        have hg : gV = gU := by
          have h1 := HUA.out.symm.trans f1
          injection h1 with h1
          injection h1 with h1
          exact h1.symm
        subst hg
        have hWW := FF.out.trans hW (fun _ _ x => x)
        have n0 := hWW.cell (f5 0 (by omega))
        have n1 := hWW.cell (f5 1 (by omega))
        simp only [dCells, List.getElem?_cons_succ, List.getElem?_cons_zero, Nat.add_zero] at n0 n1
        have hb := HB.out.fr hW (fun x => x)
        refine ⟨e, n0, n1, Nat.lt_of_lt_of_le f4 hWW.size, hb.cell 0, hb.cell 1, hb.lt, fun W' => ?_⟩
        rw [eqD]
        congr 1
        apply Bool.eq_false_iff.2
        intro hc
        simp only [Bool.and_eq_true, beq_iff_eq] at hc
        have hne : e = (d1, d2) := Prod.ext (by dsimp only; omega) (by dsimp only; omega)
        rw [hne] at he
        have hjl : j < ups.length := by rw [HN.out]; exact hjn
        exact nodup_ne HND.out (by omega) hjl hi ((List.getElem?_eq_some_iff.1 he).2.trans (List.getElem?_eq_some_iff.1 HD.out).2.symm)
      clear e1 e3 e5 e6 hd q1 q2 hp1 hp2 hB FW1 hj
      -- behind the inner loop
      have NXT : Hid (∀ W, Fr (fun _ => False) W1 W → Fr (fun _ => False) w W) := fun W h => FF.out.trans h (fun _ _ x => x)
      have nn1 : ¬ (1 : Int) < (d1 : Int) := by omega
      rcases hp3 with ⟨h1, h2⟩ | ⟨h1, h2⟩
      · have h2' : decide (pn ≤ d2) = false := by rw [decide_eq_false_iff_not]; omega
        have hq1 : ((d1 : Int) == 1) = true := by simp [h1]
        have hq0 : ((d1 : Int) == 0) = false := by simp [h1]
        clear h1
        go_wp2_with fail
        refine Go.Proofs.Qxb6500574aGreatDoor.C.wp_region_tail 34 (by kernel_rfl) (by kernel_rfl) (fun c a t v w h => HQQ.out c a t v w h) ?_
        simp only [List.take_succ_cons, List.take_zero, List.drop_succ_cons, List.drop_zero]
        repeat go_big_quiet_step (fail)
        refine wpQuiet_nil ?_
        go_wp2_with fail
        have HD1 : Hid (Fr (fun _ => False) W1 W1.drew) := (Fr.refl _ _).drew
        clear c1b c5b d4b d5b flb m0 m1 mz0 mz1 ml k0 k1 hb4e eW1
        go_loopg [144] j (fun g v144 w1 => ∃ i : Nat, i + g = j ∧ v144 = .int .i64 i ∧ Hid (Fr (fun _ => False) W1 w1))
        case atStart => exact ⟨0, by omega, rfl, HD1⟩
        case round =>
          obtain ⟨i, hii, rfl, HFI⟩ := hrel
          by_cases hij : i < j
          · have hi' : (i : Int) < (j : Int) := by omega
            obtain ⟨⟨e1, e2⟩, n0, n1, nl, p0, p1, pl, heq⟩ := INN.out wr HFI.out i hij
            dsimp only at n0 n1 heq
            have HF2 : Hid (Fr (fun _ => False) W1 (wr.alloc (.cells #[.int .u8 e1, .int .u8 e2] 135))) := HFI.out.alloc _
            obtain ⟨g2, HG2⟩ : ∃ g2, Hid (gk = g2 + 1) := ⟨gk - 1, by show _ = _; omega⟩
            have HI2 : Hid (i + gk = j) := hii
            clear hii
            go_wp2_with fail
            go_roundg g2
            case measure => have := HG2.out; omega
            case rel => exact ⟨i + 1, by have h1 := HI2.out; have h2 := HG2.out; omega, by simp, HF2.out⟩
          · have hi' : ¬ (i : Int) < (j : Int) := by omega
            have HFE : Hid (Fr (fun _ => False) w wr) := NXT.out wr HFI.out
            clear hii
            go_wp2_with fail
            go_roundg g'
            case measure => have := HG'.out; omega
            case rel => exact ⟨j + 1, by have h1 := HJ.out; have h2 := HG'.out; omega, by simp, HFE.out⟩
      · have h2' : decide (pu ≤ d2) = false := by rw [decide_eq_false_iff_not]; omega
        have hq1 : ((d1 : Int) == 1) = false := by simp [h1]
        have hq0 : ((d1 : Int) == 0) = true := by simp [h1]
        clear h1
        go_wp2_with fail
        refine Go.Proofs.Qxb6500574aGreatDoor.C.wp_region_tail 34 (by kernel_rfl) (by kernel_rfl) (fun c a t v w h => HQQ.out c a t v w h) ?_
        simp only [List.take_succ_cons, List.take_zero, List.drop_succ_cons, List.drop_zero]
        repeat go_big_quiet_step (fail)
        refine wpQuiet_nil ?_
        go_wp2_with fail
        have HD1 : Hid (Fr (fun _ => False) W1 W1.drew) := (Fr.refl _ _).drew
        clear c1b c5b d4b d5b flb m0 m1 mz0 mz1 ml k0 k1 hb4e eW1
        go_loopg [144] j (fun g v144 w1 => ∃ i : Nat, i + g = j ∧ v144 = .int .i64 i ∧ Hid (Fr (fun _ => False) W1 w1))
        case atStart => exact ⟨0, by omega, rfl, HD1⟩
        case round =>
          obtain ⟨i, hii, rfl, HFI⟩ := hrel
          by_cases hij : i < j
          · have hi' : (i : Int) < (j : Int) := by omega
            obtain ⟨⟨e1, e2⟩, n0, n1, nl, p0, p1, pl, heq⟩ := INN.out wr HFI.out i hij
            dsimp only at n0 n1 heq
            have HF2 : Hid (Fr (fun _ => False) W1 (wr.alloc (.cells #[.int .u8 e1, .int .u8 e2] 135))) := HFI.out.alloc _
            obtain ⟨g2, HG2⟩ : ∃ g2, Hid (gk = g2 + 1) := ⟨gk - 1, by show _ = _; omega⟩
            have HI2 : Hid (i + gk = j) := hii
            clear hii
            go_wp2_with fail
            go_roundg g2
            case measure => have := HG2.out; omega
            case rel => exact ⟨i + 1, by have h1 := HI2.out; have h2 := HG2.out; omega, by simp, HF2.out⟩
          · have hi' : ¬ (i : Int) < (j : Int) := by omega
            have HFE : Hid (Fr (fun _ => False) w wr) := NXT.out wr HFI.out
            clear hii
            go_wp2_with fail
            go_roundg g'
            case measure => have := HG'.out; omega
            case rel => exact ⟨j + 1, by have h1 := HJ.out; have h2 := HG'.out; omega, by simp, HFE.out⟩
    · have hj' : ¬ (j : Int) < (n : Int) := by omega
      go_wp2_with fail
      exact HK.out _ _ ⟨by kernel_rfl, rfl, by kernel_rfl⟩ HFR.out
end
end Go.Proofs.Qxb6500574aGreatDoor
