/-
  THE WALK of vm: Load.
-/
import Derived.Test.Qxb6500574aGreatDoorVLd9
import Derived.Test.Qxb6500574aGreatDoorVTabM
import Derived.Test.Qxb6500574aGreatDoorVSpawn
import Derived.Test.Qxb6500574aGreatDoorVInv9
import Derived.Test.Qxb6500574aGreatDoorVExec
namespace Go.Proofs.Qxb6500574aGreatDoor
open Go Go.RowKit
set_option linter.unusedVariables false
set_option linter.unusedSimpArgs false
theorem tab0_fit : TFit tab0 := ⟨by simp [tab0], by simp [tab0], by simp [tab0], by simp [tab0], by simp [tab0], by simp [tab0], by simp [tab0], by simp [tab0], by simp [tab0], by simp [tab0]⟩
/-- the globals with the first k builtins -/
def globK : Nat → TabD
  | 0 => tab0
  | k + 1 => ((globK k).put (strV (builtinN ((k + 1 : Nat) : Int))) ⟨6, k + 1, []⟩).2
theorem globK_all : globK 11 = globals := rfl
theorem globK_fit : ∀ k, TFit (globK k)
  | 0 => tab0_fit
  | k + 1 => ((globK_fit k).put _ _ (fun h => by cases h)).1
theorem name_well (k : Nat) : wellV (strV (builtinN ((k + 1 : Nat) : Int))) = true := by
  have : (builtinN ((k + 1 : Nat) : Int)).length ≤ 40 := by
    unfold builtinN
    repeat' split
    all_goals decide
  unfold wellV strV
  dsimp only
  rw [if_pos rfl]
  simp only [beq_self_eq_true, Bool.true_and, decide_eq_true_eq]
  exact this
/-- the machine with nothing loaded -/
def vm0 : VMD := ⟨[], [], [], [], [], [], [], [], [], []⟩
/-- what Load leaves -/
def LoadPost (w : World) (A : VL) (s : Bs) (fuel : Int) (e' : Ending) (w' : World) : Prop :=
  ∃ A' m' f' e9, VRep w' A' m' f' e9 ∧ VSt isVM w A w' A' ∧ ((∃ er : Nat, loadP s = .inl er ∧ e' = .returned (.int .i64 er) ∧ m' = vm0 ∧ f' = 0 ∧ e9 = 21) ∨ (loadP s = .inr m' ∧ f' = fuel.toNat ∧ e9 = 0 ∧ e' = .returned (.int .i64 0)))
section
variable {w : World} {A : VL} {m : VMD} {f e : Nat} {s : Bs}
theorem VRep.cutOut (h : VRep w A m f e) : VRep (w.setCell ⟨A.b, 11, none⟩ (.slice A.C.out.a 0 A.C.out.c)) A { m with out := [] } f e ∧ VSt isCo w A (w.setCell ⟨A.b, 11, none⟩ (.slice A.C.out.a 0 A.C.out.c)) A := by
  have hlb := h.core.here.lb
  have s1 : Stp (fun k => k = 1) w A.o (w.setCell ⟨A.b, 11, none⟩ (.slice A.C.out.a 0 A.C.out.c)) A.o := (Stp.refl _ _ _).setCell (p := ⟨A.b, 11, none⟩) hlb _
  have hh := (h.core.here.put 11 (.slice A.C.out.a 0 A.C.out.c) (cs' := vmCells A.bn A.bt A.bT A.C { m with out := [] } m.ths.length f e) (by simp [vmCells])).1
  exact h.setCore (m' := { m with out := [] }) (f' := f) (e' := e) (C' := A.C) (s1.weaken (fun k hk => .inl hk)) ⟨hh, h.core.protos.st s1 (by omega), h.core.descs.st s1 (by omega), h.core.consts.st s1 (by omega), h.core.code.st s1 (by omega), h.core.clos.st s1 (by omega), h.core.upix.st s1 (by omega), h.core.cells.st s1 (by omega), (h.core.out.take 0 (Nat.zero_le _) (ys := []) (by simp)).st s1 (by omega)⟩ rfl rfl
theorem VRep.setEnd (h : VRep w A m f e) (g : Nat) : VRep (w.setCell ⟨A.b, 12, none⟩ (.int .i64 g)) A m f g ∧ VSt isCo w A (w.setCell ⟨A.b, 12, none⟩ (.int .i64 g)) A := by
  obtain ⟨h1, h2⟩ := h.core.field (f' := f) (e' := g) 12 (.int .i64 g) rfl
  exact h.setCore (h2.weaken (fun k hk => .inl hk)) h1 rfl rfl
theorem isCo_VM {l : Nat} (h : isCo l) : isVM l := by
  unfold isVM
  rcases h with h | h | h <;> omega
theorem VRep.tabs12 (h : VRep w A m f e) : m.tabs.length ≤ 12 := by
  obtain ⟨k, hk, _⟩ := h.tabs
  omega
set_option maxRecDepth 100000
set_option maxHeartbeats 1000000
theorem load_any (h : VRep w A m f e) (fuel : Int) (hfu : fuel ≤ 9223372036854775807) :
    Calls Tryz.prog 54 #[.pointer (some ⟨A.b, 0, none⟩), sv s, .int .i64 fuel] w (LoadPost w A s fuel) := by
  have WP := wipe_any h 21
  go_enter Tryz.func54, Tryz.ntmps54
  go_wp2_with fail
  refine WP.mono ?_
  rintro e' w1 ⟨rfl, A1, R1, S1⟩
  clear WP
  -- the output is cut, the fuel is 0
  have R2 := R1.cutOut
  have R3 := R2.1.setFuel 0
  have b1 := S1.b
  obtain ⟨NO, HNO⟩ : ∃ NO, Hid ((wipeM m).out.length = NO) := ⟨_, rfl⟩
  have d11 := R1.cell0 11
  have d10 := R1.cell0 10
  have d1 := R1.cell0 1
  have z := R1.core.here.has.frozen
  have z11 := z 11
  have z10 := z 10
  have dl := R1.bl
  simp only [vmCells, List.getElem?_toArray, List.getElem?_cons_succ, List.getElem?_cons_zero, Sl.v, HNO.out] at d11 d10 d1
  have fo := R1.core.out.form
  have S3 : VSt isVM w A _ A1 := ((S1.trans R2.2).trans R3.2).weaken (fun _ => isCo_VM)
  have RS := reset_vm R3.1 R3.1.tabs12
  rw [b1] at d11 d10 d1 z11 z10 dl R3 S3 RS
  obtain ⟨W3, HW3⟩ : ∃ W, Hid ((w1.setCell ⟨A.b, 11, none⟩ (.slice A1.C.out.a 0 A1.C.out.c)).setCell ⟨A.b, 10, none⟩ (.int .i64 ((0 : Nat) : Int)) = W) := ⟨_, rfl⟩
  rw [HW3.out] at R3 S3 RS
  have HR3 : Hid (VRep W3 A1 { wipeM m with out := [] } 0 21) := R3.1
  have HS3 : Hid (VSt isVM w A W3 A1) := S3
  have HRS : Hid (Calls Tryz.prog 79 #[.pointer (some ⟨A1.bt, 0, none⟩)] W3 _) := RS
  clear R2 R3 S3 RS z R1 S1
  clear fo
  go_wp2_with fail
  have e3 : (w1.setCell ⟨A.b, 11, none⟩ (.slice A1.C.out.a 0 A1.C.out.c)).setCell ⟨A.b, 10, none⟩ (.int .i64 0) = W3 := HW3.out
  rw [e3]
  refine HRS.out.mono ?_
  rintro e' w4 ⟨rfl, A4, R4, S4, _⟩
  have R4 : VRep w4 A4 vm0 0 21 := R4
  have S4 := HS3.out.trans S4
  have HR4 : Hid (VRep w4 A4 vm0 0 21) := R4
  have HS4 : Hid (VSt isVM w A w4 A4) := S4
  have b4 := S4.b
  clear e3 HRS HS3 HR3 HW3 d11 d10 d1 z11 z10 dl HNO h R4 S4
  by_cases hlong : 32768 < s.length
  · have hl' : (32768 : Int) < (s.length : Int) := by omega
    have HF : Hid (LoadPost w A s fuel (.returned (.int .i64 1)) w4) := ⟨A4, vm0, 0, 21, HR4.out, HS4.out, .inl ⟨1, by unfold loadP; rw [if_pos hlong], rfl, rfl, rfl, rfl⟩⟩
    clear HR4 HS4 hlong
    go_wp2_with fail
    go_ret
    exact HF.out
  have hl' : ¬ (32768 : Int) < (s.length : Int) := by omega
  have DC := decode_any (s := s) HR4.out rfl (by omega)
  rw [b4] at DC
  go_wp2_with fail
  refine DC.mono ?_
  rintro e' w5 ⟨A5, m5, ok, rfl, R5, S5, hsm, hok⟩
  have S5 := HS4.out.trans S5
  have b5 := S5.b
  clear DC
  rcases hok with ⟨rfl, hdc⟩ | ⟨rfl, im, hdc, him⟩
  · have hlp : loadP s = .inl 11 := by unfold loadP; rw [if_neg hlong, hdc]
    have hwz : wipeM m5 = vm0 := by
      obtain ⟨q1, q2, q3, q4, q5, q6⟩ := hsm
      unfold wipeM
      rw [q2, q3]
      rfl
    have WP := wipe_any R5 21
    rw [b5] at WP
    have HFN : Hid (∀ A6 w6, VRep w6 A6 (wipeM m5) 0 21 → VSt isCo w5 A5 w6 A6 → LoadPost w A s fuel (.returned (.int .i64 11)) w6) := fun A6 w6 r q => ⟨A6, _, 0, 21, r, S5.trans (q.weaken (fun _ => isCo_VM)), .inl ⟨11, hlp, rfl, hwz, rfl, rfl⟩⟩
    clear R5 S5 hlp hdc HR4 HS4 hwz
    go_wp2_with fail
    refine WP.mono ?_
    rintro e' w6 ⟨rfl, A6, R6, S6⟩
    have HF : Hid (LoadPost w A s fuel (.returned (.int .i64 11)) w6) := HFN.out A6 w6 R6 S6
    clear WP HFN R6 S6
    go_wp2_with fail
    go_ret
    exact HF.out
  have hlp : loadP s = .inr (loadM im) := by unfold loadP; rw [if_neg hlong, hdc]
  have hm5 : m5 = ⟨im.protos, im.descs, im.consts, im.code, [], [], [], [], [], []⟩ := by
    obtain ⟨q1, q2, q3, q4, q5, q6⟩ := hsm
    subst him
    obtain ⟨f1, f2, f3, f4, f5, f6, f7, f8, f9, f10⟩ := m5
    simp only [vm0] at q1 q2 q3 q4 q5 q6
    subst q1 q2 q3 q4 q5 q6
    rfl
  subst hm5
  have HLP : Hid (loadP s = .inr (loadM im)) := hlp
  have MK := make_vm R5 (by simp)
  have d1 := R5.cell0 1
  have dl := R5.bl
  simp only [vmCells, List.getElem?_toArray, List.getElem?_cons_succ, List.getElem?_cons_zero, Sl.v] at d1
  rw [b5] at d1 dl
  have HS5 : Hid (VSt isVM w A w5 A5) := S5
  clear R5 S5 hlp hdc HR4 HS4 him hsm
  go_wp2_with fail
  refine MK.mono ?_
  rintro e' w6 ⟨rfl, A6, R6, S6, _⟩
  have S6 := HS5.out.trans S6
  have HI0 : Hid (VRep w6 A6 ⟨im.protos, im.descs, im.consts, im.code, [], [], [], [], [], [globK 0]⟩ 0 21) := R6
  have HS6 : Hid (VSt isVM w A w6 A6) := S6
  clear R6 S6 MK d1 dl HS5
  go_wp2_with fail
  go_loopg [8] 11 (fun n v8 wr => ∃ (k : Nat) (Ak : VL), v8 = .int .i64 ((k : Int) + 1) ∧ k + n = 11 ∧ Hid (VRep wr Ak ⟨im.protos, im.descs, im.consts, im.code, [], [], [], [], [], [globK k]⟩ 0 21) ∧ Hid (VSt isVM w A wr Ak))
  case atStart => exact ⟨0, A6, rfl, rfl, HI0.out, HS6.out⟩
  case round =>
    clear HI0 HS6
    obtain ⟨k, Ak, rfl, hkn, HR, HS⟩ := hrel
    have bk := HS.out.b
    have d1 := HR.out.cell0 1
    have dl := HR.out.bl
    simp only [vmCells, List.getElem?_toArray, List.getElem?_cons_succ, List.getElem?_cons_zero, Sl.v] at d1
    rw [bk] at d1 dl
    cases gk with
    | zero =>
      obtain rfl : k = 11 := by omega
      rw [show ((11 : Nat) : Int) + 1 = 12 from rfl]
      rw [globK_all] at HR
      have d6 := HR.out.cell0 6
      have d10 := HR.out.cell0 10
      have d12 := HR.out.cell0 12
      have z := HR.out.core.here.has.frozen
      rw [bk] at d6 d10 d12 z
      have z6 := z 6
      have z10 := z 10
      have z12 := z 12
      simp only [vmCells, List.getElem?_toArray, List.getElem?_cons_succ, List.getElem?_cons_zero, Sl.v, List.length_nil] at d6
      have HOWN : Hid (wr.ownsRow 0 187 3 (.slice Ak.C.clos.a 0 Ak.C.clos.c) 0 []) := HR.out.core.clos.own
      clear z
      go_wp2_with (at_builtin; go_must (refine wpList_appN row_clos _ rfl (.tmp 63) (.tmp 65) rfl _ _ _ rfl (owns_alloc HOWN.out _) _ 1 1 (clCells cl0) rfl (Has.new _ _ _) rfl (by omega) ?one ?bd ?go))
      case one => exact clCells_oneC _
      case go =>
        intro g cap w7 q1 q2 q3 q4
        obtain ⟨hh, R7, S7⟩ := HR.out.app_clos cl0 ((Fr.refl _ wr).alloc (.cells (clCells cl0).toArray 187)) q1 q2 (by
          rcases q3 with q3 | q3
          · exact .inl q3
          · right; rw [q3]; simp) q4
        have S7 := HS.out.trans (S7.weaken (fun k hk => by unfold isVM; omega))
        have SP := spawn_any R7 (by simp) 0
        rw [bk] at hh R7 S7 SP
        have y6 := hh.cell 6
        have yz := hh.frozen 6
        have yl := hh.lt
        simp only [vmCells, List.getElem?_toArray, List.getElem?_cons_succ, List.getElem?_cons_zero, Sl.v, List.length_nil] at y6
        clear q1 q2 q3 q4 hh R7 d6 d10 d12 z6 z10 z12 HOWN
        have HS7 : Hid (VSt isVM w A (w7.setCell ⟨A.b, 6, none⟩ (.slice (some ⟨g, 0, none⟩) 1 cap)) _) := S7
        have HSP : Hid (Calls Tryz.prog 83 #[.pointer (some ⟨A.b, 0, none⟩), .int .i64 0] (w7.setCell ⟨A.b, 6, none⟩ (.slice (some ⟨g, 0, none⟩) 1 cap)) fun e' w' => (∃ v, e' = .returned v) ∧ ∃ A', VRep w' A' (loadM im) 0 21 ∧ VSt isVM w A w' A') := by
          refine SP.mono ?_
          rintro e' w' ⟨rfl, A', r, q⟩
          exact ⟨⟨_, rfl⟩, A', r, S7.trans (q.weaken (fun k hk => by
            rcases hk with hk | hk
            · exact isCo_VM hk
            · exact isT_VM hk))⟩
        clear S7 SP HS7
        go_wp2_with fail
        refine HSP.out.mono ?_
        rintro e' w8 ⟨⟨v, rfl⟩, A8, R8, S8⟩
        have b8 := S8.b
        have d10 := R8.cell0 10
        have d12 := R8.cell0 12
        have z := R8.core.here.has.frozen
        have z10 := z 10
        have z12 := z 12
        have zl := R8.bl
        simp only [vmCells, List.getElem?_toArray, List.getElem?_cons_succ, List.getElem?_cons_zero] at d10 d12
        rw [b8] at d10 d12 z10 z12 zl
        by_cases hf : 0 < fuel
        · have hf0 : ((fuel.toNat : Nat) : Int) = fuel := Int.toNat_of_nonneg (by omega)
          have R9 := R8.setFuel fuel.toNat
          have R10 := R9.1.setEnd 0
          rw [b8, hf0] at R10
          have HF : Hid (LoadPost w A s fuel (.returned (.int .i64 0)) ((w8.setCell ⟨A.b, 10, none⟩ (.int .i64 fuel)).setCell ⟨A.b, 12, none⟩ (.int .i64 0))) := by
            rw [b8, hf0] at R9
            exact ⟨A8, loadM im, fuel.toNat, 0, R10.1, (S8.trans (R9.2.weaken (fun _ => isCo_VM))).trans (R10.2.weaken (fun _ => isCo_VM)), .inr ⟨HLP.out, rfl, rfl, rfl⟩⟩
          clear R9 R10 R8 S8 HSP HR HS z hf0
          go_wp2_with fail
          go_ret
          exact HF.out
        · have hf0 : fuel.toNat = 0 := by omega
          have R10 := R8.setEnd 0
          rw [b8] at R10
          have HF : Hid (LoadPost w A s fuel (.returned (.int .i64 0)) (w8.setCell ⟨A.b, 12, none⟩ (.int .i64 0))) := ⟨A8, loadM im, 0, 0, R10.1, S8.trans (R10.2.weaken (fun _ => isCo_VM)), .inr ⟨HLP.out, hf0.symm, rfl, rfl⟩⟩
          clear R10 R8 S8 HSP HR HS z hf0
          go_wp2_with fail
          go_ret
          exact HF.out
    | succ n =>
      have hk : k < 11 := by omega
      have hk1 : (k : Int) + 1 ≤ 11 := by omega
      have BN := builtinName_any (w := wr) ((k : Int) + 1)
      have SV := set_vm (h := 0) (td := globK k) HR.out rfl (globK_fit k) (by simp) (k := strV (builtinN ((k + 1 : Nat) : Int))) (v := ⟨6, k + 1, []⟩) (name_well k) (by
        unfold wellV
        simp
        omega) (fun h => by cases h)
      have hcast : (((k + 1 : Nat)) : Int) = (k : Int) + 1 := by omega
      have HSV : Hid (Calls Tryz.prog 82 #[.pointer (some ⟨Ak.bt, 0, none⟩), .int .i64 0, .agg #[.int .i64 3, .int .u64 0, sv (builtinN ((k : Int) + 1))], .agg #[.int .i64 6, .int .u64 ((k : Int) + 1), sv []]] wr fun e' w' => (∃ v, e' = .returned v) ∧ ∃ A', VRep w' A' ⟨im.protos, im.descs, im.consts, im.code, [], [], [], [], [], [globK (k + 1)]⟩ 0 21 ∧ VSt isVM wr Ak w' A') := by
        have h0 := SV
        dsimp only [Vl.val, strV] at h0
        rw [hcast] at h0
        refine h0.mono ?_
        rintro e' w' ⟨rfl, A', r, q, _⟩
        refine ⟨⟨_, rfl⟩, A', ?_, q⟩
        have e1 : (globK (k + 1)) = ((globK k).put ⟨3, 0, builtinN ((k : Int) + 1)⟩ ⟨6, k + 1, []⟩).2 := by
          show ((globK k).put (strV (builtinN ((k + 1 : Nat) : Int))) ⟨6, k + 1, []⟩).2 = _
          rw [hcast]
          rfl
        rw [e1]
        exact r
      obtain ⟨NM, HNM⟩ : ∃ NM, Hid (builtinN ((k : Int) + 1) = NM) := ⟨_, rfl⟩
      rw [HNM.out] at BN HSV
      clear SV
      go_wp2_with fail
      refine BN.mono ?_
      rintro e' w7 ⟨rfl, rfl⟩
      clear BN
      go_wp2_with fail
      refine HSV.out.mono ?_
      rintro e' w8 ⟨⟨v, rfl⟩, A8, R8, S8⟩
      have S8 := HS.out.trans S8
      have HR8 : Hid (VRep w8 A8 ⟨im.protos, im.descs, im.consts, im.code, [], [], [], [], [], [globK (k + 1)]⟩ 0 21) := R8
      have HS8 : Hid (VSt isVM w A w8 A8) := S8
      clear R8 S8 HR HS HSV d1 dl
      go_wp2_with fail
      go_roundg n
      case measure => exact Nat.lt_succ_self _
      case rel => exact ⟨k + 1, A8, by simp, by omega, HR8.out, HS8.out⟩
end
end Go.Proofs.Qxb6500574aGreatDoor
