/-
  THE WALK of vm: Exec.
-/
import Derived.Test.Qxb6500574aGreatDoorVRun2
import Derived.Test.Qxb6500574aGreatDoorVValid
import Derived.Test.Qxb6500574aGreatDoorVEnterW
import Derived.Test.Qxb6500574aGreatDoorReg4
import Derived.Test.Qxb6500574aGreatDoorReg8
namespace Go.Proofs.Qxb6500574aGreatDoor
open Go Go.RowKit
set_option linter.unusedVariables false
set_option linter.unusedSimpArgs false
/-- how Exec ends, where the rounds come to r -/
def ExPost (w : World) (A : VL) (e : Nat) (r : EvD × Nat × VMD) (e' : Ending) (w' : World) : Prop :=
  ∃ A' m9 e9, e' = .returned r.1.val ∧ VRep w' A' m9 r.2.1 e9 ∧ TrapM m9 e9 r ∧ (r.1.k ≠ 5 → m9 = r.2.2 ∧ e9 = e) ∧ VSt isVM w A w' A'
/-- at a head of Exec's loop -/
def ExInv (w : World) (A : VL) (e i b8 f : Nat) (r : EvD × Nat × VMD) (n : Nat) (w' : World) : Prop :=
  ∃ K A' m' f' t fm, VRep w' A' m' f' e ∧ At K m' i t fm ∧ Room K 0 t ∧ Low m' ∧ VSt isVM w A w' A' ∧ roundsP n f' m' i = some r ∧ f' ≤ f ∧ Has w' b8 (evCells ev0) 190 ∧ A'.o b8 = 0
theorem isT_VM {i l : Nat} (h : isT i l) : isVM l := by
  unfold isVM
  rcases h with h | h <;> omega
section
variable {w : World} {A : VL} {m : VMD} {f i : Nat} {t : ThD} {K : Cx}
set_option maxRecDepth 100000
set_option maxHeartbeats 1000000
theorem exec_fresh (R : VRep w A m f 0) (S : Slp K m) (low : Low m) (fu : f < 9223372036854775808) (hi : m.ths[i]? = some t) (hst : t.st = 1) {a b : Vl} (va : VOk K a) (vb : VOk K b) {n : Nat} {r : EvD × Nat × VMD} (hr : roundsP n f (startP m i a b) i = some r) :
    Calls Tryz.prog 84 #[.pointer (some ⟨A.b, 0, none⟩), .int .i64 i, a.val, b.val] w (ExPost w A 0 r) := by
  obtain ⟨t', fm', hAt, hRoom, hRest⟩ := start_ok S hi (by omega) va vb
  have hLow : Low (startP m i a b) := Low.next low hAt.vi hRest hAt.hi (by have := hAt.sl hRoom; omega)
  have hkc := S.vi.kc
  have hkt := S.vi.kt
  have hcn := S.vi.cn
  have VA : Hid (∀ W, Fr (fun _ => False) w W → Calls Tryz.prog 141 #[.pointer (some ⟨A.b, 0, none⟩), a.val] W fun e' w' => e' = .returned (.bool true) ∧ Fr (fun _ => False) W w') := fun W hW => valid_any (R.fresh hW) a (va.valid S.vi.kt S.vi.kc S.vi.kh) ⟨by have := S.vi.kc; have := S.vi.cn; omega, by have := S.vi.kt; have := S.vi.tn; omega⟩
  have VB : Hid (∀ W, Fr (fun _ => False) w W → Calls Tryz.prog 141 #[.pointer (some ⟨A.b, 0, none⟩), b.val] W fun e' w' => e' = .returned (.bool true) ∧ Fr (fun _ => False) W w') := fun W hW => valid_any (R.fresh hW) b (vb.valid S.vi.kt S.vi.kc S.vi.kh) ⟨by have := S.vi.kc; have := S.vi.cn; omega, by have := S.vi.kt; have := S.vi.tn; omega⟩
  have HA : Hid (At K (startP m i a b) i t' fm' ∧ Room K 0 t' ∧ Low (startP m i a b)) := ⟨hAt, hRoom, hLow⟩
  have HR : Hid (VRep w A m f 0) := R
  have HRS : Hid (roundsP n f (startP m i a b) i = some r) := hr
  have HSL : Hid (Slp K m) := S
  have HLO : Hid (Low m) := low
  have HI : Hid (m.ths[i]? = some t) := hi
  have il : i < m.ths.length := (List.getElem?_eq_some_iff.1 hi).1
  have tl5 : m.ths.length ≤ 5 := by have := R.len5; omega
  obtain ⟨T5, HT5⟩ : ∃ T5, Hid (m.ths.length = T5) := ⟨_, rfl⟩
  have c9 := R.core.here.has.cell 9
  have c12 := R.core.here.has.cell 12
  have cl := R.core.here.has.lt
  have hbT : A.bT < w.heap.size := R.ths.here.has.lt
  obtain ⟨l, hx⟩ := R.lays hi
  have HX : Hid (A.X[i]? = some l) := hx
  have d0 : w.cell? ⟨A.bT, i * 5, none⟩ = some (.int .i64 1) := by
    have := R.thCell hi hx (j := 0) (by omega)
    rw [Nat.add_zero] at this
    rw [this]
    simp [thCells, hst]
  have d1 : w.cell? ⟨A.bT, i * 5 + 1, none⟩ = some (.int .i64 t.fn) := by
    rw [R.thCell hi hx (j := 1) (by omega)]
    rfl
  simp only [vmCells, List.getElem?_toArray, List.getElem?_cons_zero, List.getElem?_cons_succ] at c9 c12
  rw [HT5.out] at c9 il tl5
  rw [show ((0 : Nat) : Int) = 0 from rfl] at c12
  have i9 : i < 9223372036854775808 := by omega
  have ge : ((T5 : Int) ≤ (i : Int)) = False := by simp; omega
  have cl1 : A.b < w.heap.size + 1 := by omega
  have cl2 : A.b < w.heap.size + 1 + 1 := by omega
  have HST : Hid (t.st = 1) := hst
  have VAO : Hid (VOk K a) := va
  have VBO : Hid (VOk K b) := vb
  clear hkc hkt hcn R S low hr hi hx hAt hRoom hRest hLow va vb hst
  obtain ⟨at', an, as'⟩ := a
  obtain ⟨bt', bn', bs'⟩ := b
  go_enter Tryz.func84, Tryz.ntmps84
  go_wp2_with fail
  obtain ⟨W0, HW0⟩ : ∃ W, Hid (((w.alloc (.cells #[.int .i64 at', .int .u64 an, sv as'] 68)).alloc (.cells #[.int .i64 bt', .int .u64 bn', sv bs'] 68)).alloc (.cells #[.int .i64 0, .int .i64 0, .int .i64 0, .int .i64 0, .int .u64 0, sv [], .int .i64 0, .int .u64 0, sv []] 190) = W) := ⟨_, rfl⟩
  rw [HW0.out]
  obtain ⟨b7, H7⟩ : ∃ b, Hid (w.heap.size + 1 = b) := ⟨_, rfl⟩
  obtain ⟨b8, H8⟩ : ∃ b, Hid (w.heap.size + 1 + 1 = b) := ⟨_, rfl⟩
  rw [H8.out, H7.out]
  have F0 : Fr (fun _ => False) w W0 := by rw [← HW0.out]; exact (((Fr.refl _ _).alloc _).alloc _).alloc _
  have q6 : Has W0 w.heap.size #[.int .i64 at', .int .u64 an, sv as'] 68 := by rw [← HW0.out]; exact ((Has.new _ _ _).alloc _).alloc _
  have q7 : Has W0 b7 #[.int .i64 bt', .int .u64 bn', sv bs'] 68 := by rw [← HW0.out, ← H7.out]; exact (Has.newC _ _ _ (by simp)).alloc _
  have q8 : Has W0 b8 (evCells ev0) 190 := by rw [← HW0.out, ← H8.out]; exact Has.newC _ _ _ (by simp)
  clear HW0
  refine (VA.out _ F0).mono ?_
  rintro e1 w1 ⟨rfl, f1⟩
  have F1 : Fr (fun _ => False) w w1 := F0.trans f1 (fun _ _ x => x)
  have q6 := q6.fr f1 (fun x => x)
  have q7 := q7.fr f1 (fun x => x)
  have q8 := q8.fr f1 (fun x => x)
  obtain ⟨y0, y1, y2⟩ := Has.cells3 (v := ⟨bt', bn', bs'⟩) q7
  have z7 := q7.lt
  dsimp only at y0 y1 y2
  clear VA F0 f1
  go_wp2_with fail
  clear y0 y1 y2 z7
  refine (VB.out _ F1).mono ?_
  rintro e1 w2 ⟨rfl, f2⟩
  have F2 : Fr (fun _ => False) w w2 := F1.trans f2 (fun _ _ x => x)
  have q6 := q6.fr f2 (fun x => x)
  have q7 := q7.fr f2 (fun x => x)
  have q8 := q8.fr f2 (fun x => x)
  have x9 := F2.cell c9
  have hb2 : A.b < w2.heap.size := Nat.lt_of_lt_of_le cl F2.size
  have hT2 : A.bT < w2.heap.size := Nat.lt_of_lt_of_le hbT F2.size
  have x0 := F2.cell d0
  have x1 := F2.cell d1
  obtain ⟨p0, p1, p2⟩ := Has.cells3 (v := ⟨at', an, as'⟩) q6
  obtain ⟨y0, y1, y2⟩ := Has.cells3 (v := ⟨bt', bn', bs'⟩) q7
  have z6 := q6.lt
  have z7 := q7.lt
  dsimp only at p0 p1 p2 y0 y1 y2
  have Q8 : Hid (Has w2 b8 (evCells ev0) 190) := q8
  have HF2 : Hid (Fr (fun _ => False) w w2) := F2
  have HR2 : Hid (VRep w2 A m f 0) := HR.out.fresh F2
  clear VB F1 f2 c9 c12 d0 d1 q6 q7 q8 F2 cl cl1 cl2 hbT
  go_wp2_with fail
  have k1' : ∀ s : WS w2, s.y.cell? ⟨A.bT, i * 5 + 1, none⟩ = some (.int .i64 t.fn) := fun s => s.f.cell x1
  have k2' : ∀ s : WS w2, s.y.cell? ⟨w.heap.size, 0, none⟩ = some (.int .i64 at') := fun s => s.f.cell p0
  have k3' : ∀ s : WS w2, s.y.cell? ⟨w.heap.size, 1, none⟩ = some (.int .u64 an) := fun s => s.f.cell p1
  have k4' : ∀ s : WS w2, s.y.cell? ⟨w.heap.size, 2, none⟩ = some (sv as') := fun s => s.f.cell p2
  have HNE : Nonempty (WS w2) := WS.non w2
  refine wp_region_mid2 [0, 1, 2, 3, 4, 5, 6] 7 0 (fun x => ∃ s : WS w2, x = s.y) (by kernel_rfl) (by kernel_rfl) (fun _ _ _ _ _ h => h) ⟨⟨w2.drew, (Fr.refl _ _).drew⟩, rfl⟩ [_, _, _, _, _, _, _] rfl _ rfl ?_
  simp only [List.getElem_toArray, List.getElem_cons_succ, List.getElem_cons_zero, List.drop_succ_cons, List.drop_zero, List.length_cons, List.length_nil, Nat.zero_add]
  repeat go_big_quiet_step (fail)
  refine wpQuiet_nil ?_
  clear k1' k2' k3' k4' HNE
  go_wp2_with fail
  refine ⟨⟨⟨_, ((Fr.refl _ w2).drew).alloc _⟩, rfl⟩, ?_⟩
  rw [wpChain_zero]
  go_wp2_with fail
  have T := HSL.out.vi.th i t HI.out
  obtain ⟨q, p, hq, hp, hpe, hpm, hnup, hup⟩ := HSL.out.vi.proto T.fn
  have hpk := HSL.out.vi.txt.pr p hpm
  have hfr := T.al.2 (.inl HST.out)
  have hW : Fr (fun _ => False) w2 (w2.drew.alloc (.cells #[.int .i64 at', .int .u64 an, sv as'] 68)) := ((Fr.refl _ _).drew).alloc _
  have hB : Has (w2.drew.alloc (.cells #[.int .i64 at', .int .u64 an, sv as'] 68)) w2.heap.size #[.int .i64 at', .int .u64 an, sv as'] 68 := Has.new _ _ _
  have WN : Win (w2.drew.alloc (.cells #[.int .i64 at', .int .u64 an, sv as'] 68)) (w2.drew.alloc (.cells #[.int .i64 at', .int .u64 an, sv as'] 68)) A i t (.slice (some ⟨w2.heap.size, 0, none⟩) 1 1) [⟨at', an, as'⟩] := by
    refine ⟨w2.heap.size, 0, 1, rfl, fun j u hj => ⟨?_, Kp.new HR2.out (Nat.le_refl _) HI.out _⟩, .inl rfl, Nat.le_refl _, hB.lt⟩
    rw [Nat.zero_add, hB.cell]
    simpa [vCells] using hj
  have HE := enter_any (HR2.out.fresh hW) HI.out (c := t.fn) hq hp hpk.np hpk.ns (by have := HSL.out.vi.kc; have := HSL.out.vi.cn; omega) (by have := HSL.out.vi.txt.pl; omega) WN (by simp) (ret := 0) (by omega) false (HLO.out i t HI.out) (by rw [hfr]; simp)
  refine HE.mono ?_
  rintro e1 w3 ⟨rfl, A3, R3, S3⟩
  rw [enter_is HI.out] at R3
  obtain ⟨l3, hx3⟩ := R3.lays (setTh_get HI.out)
  have R4 := R3.setSt (setTh_get HI.out) hx3 4
  rw [setTh_setTh] at R4
  have hS3 : VSt isVM w A w3 A3 := ((VSt.fresh HF2.out).trans (VSt.fresh hW)).trans (S3.weaken fun _ => isT_VM)
  have hsp : startP m i ⟨at', an, as'⟩ ⟨bt', bn', bs'⟩ = m.setTh i { t with stack := t.stack ++ (List.range (m.proto t.fn).ns).map (fun j => if j < (m.proto t.fn).np then [⟨at', an, as'⟩].getD j nilV else nilV), frames := t.frames ++ [⟨t.fn, 0, t.stack.length, 0, false⟩], st := 4 } := by
    unfold startP
    dsimp only
    rw [th_get HI.out, if_pos HST.out, enter_is HI.out, th_get (setTh_get HI.out), setTh_setTh]
  clear HE WN hB hW hpk hup hnup hpm hpe hp hq T hfr
  rw [← hsp] at R4
  have o8 : A.o b8 = 0 := HR.out.own _ (by rw [← H8.out]; omega)
  obtain ⟨q8, o83⟩ := (VSt.keep0 (VSt.trans (VSt.fresh (Q := isVM) (((Fr.refl _ w2).drew).alloc (.cells #[.int .i64 at', .int .u64 an, sv as'] 68))) (S3.weaken fun _ => isT_VM)) notVM0 Q8.out o8)
  have INV : Hid (ExInv w A 0 i b8 f r n (w3.setCell ⟨A.bT, i * 5, none⟩ (.int .i64 4))) := by
    have hb := S3.bT
    rw [hb] at R4
    refine ⟨K, A3, _, f, t', fm', R4.1, HA.out.1, HA.out.2.1, HA.out.2.2, hS3.trans (R4.2.weaken fun _ => isT_VM), HRS.out, Nat.le_refl _, ?_, o83⟩
    refine q8.other (p := ⟨A.bT, i * 5, none⟩) (fun e => ?_) _
    have := R3.ths.here.lb
    have e : b8 = A.bT := e
    rw [hb, ← e, o83] at this
    exact absurd this (by decide)
  have w30 : w3.cell? ⟨A.bT, i * 5, none⟩ = some (.int .i64 1) := by
    have := R3.thCell (setTh_get HI.out) hx3 (j := 0) (by omega)
    rw [Nat.add_zero, S3.bT] at this
    rw [this]
    simp [thCells, HST.out]
  have w3f : w3.frozen? ⟨A.bT, i * 5, none⟩ = false := by
    have := R3.ths.here.has.frozen (i * 5)
    rw [S3.bT] at this
    exact this
  have w3l : A.bT < w3.heap.size := by
    have := R3.ths.here.has.lt
    rw [S3.bT] at this
    exact this
  clear R4 R3 S3 hS3 hsp q8 o83 o8 x0 x1 x9 hb2 hT2 p0 p1 p2 y0 y1 y2 z6 z7 hx3
  go_wp2_with fail
  go_loopg [] n (fun k wr => Hid (ExInv w A 0 i b8 f r k wr))
  case atStart => exact INV.out
  case round =>
    clear INV w30 w3f w3l
    obtain ⟨K1, A1, m1, f1, t1, fm1, R1, hAt1, rm1, low1, S1, hr1, hf1, h81, o81⟩ := hrel.out
    have RUN := run_any R1 hAt1 rm1 low1 (by omega) hr1
    rw [S1.b, S1.bT] at RUN
    go_wp2_with fail
    refine RUN.mono ?_
    have s8 : w.heap.size ≤ b8 := by rw [← H8.out]; omega
    rintro e1 w5 (⟨A5, m9, e9, rfl, R5, ho, hne, S5⟩ | ⟨A5, m2, f2, k2, K2, t2, fm2, rfl, hk, hr2, R5, S5, hAt2, rm2, low2, hf2⟩)
    · obtain ⟨k8, ko8⟩ := S5.keep0 notVM0 h81 o81
      have S05 := S1.trans S5
      have s5 : w.heap.size ≤ w5.heap.size := S05.st.fr.size
      have ne8 : w5.heap.size ≠ b8 := by have := k8.lt; omega
      have HP : Hid (∀ ev : EvD, ev = r.1 → ExPost w A 0 r (.returned ev.val) ((set9 w5 b8 ev).alloc (.cells (evCells ev) 190)) ∧ Has ((set9 w5 b8 ev).alloc (.cells (evCells ev) 190)) b8 (evCells ev) 190) := by
        rintro ev rfl
        have fa : Fr (fun _ => False) (set9 w5 b8 r.1) ((set9 w5 b8 r.1).alloc (.cells (evCells r.1) 190)) := (Fr.refl _ _).alloc _
        exact ⟨⟨A5, m9, e9, rfl, (R5.set9 ko8 r.1).fresh fa, ho, hne, (S05.set9 s8 r.1).trans (VSt.fresh fa)⟩, (k8.set9 r.1).alloc _⟩
      obtain ⟨⟨ek, eth, ee, ⟨vt, vn, vs⟩, ⟨wt, wn, ws⟩⟩, r2⟩ := r
      have HQ : Hid (Has w5 b8 (evCells ev0) 190) := k8
      obtain ⟨x0, x1, x2, x3, x4, x5, x6, x7, x8⟩ := k8.ev
      dsimp only [ev0, nilV] at x0 x1 x2 x3 x4 x5 x6 x7 x8
      have hz := k8.frozen
      have hz0 := hz 0
      have hz1 := hz 1
      have hz2 := hz 2
      have hz3 := hz 3
      have hz4 := hz 4
      have hz5 := hz 5
      have hz6 := hz 6
      have hz7 := hz 7
      have hz8 := hz 8
      have l8 := k8.lt
      clear hz k8 ko8 S05 S5 R5 RUN S1 R1 hAt1 rm1 low1 hr1 h81 o81 hrel ho hne
      go_wp2_with fail
      exact bodyPost_ret (res_cell isEvent rfl rfl (HP.out ⟨ek, eth, ee, ⟨vt, vn, vs⟩, ⟨wt, wn, ws⟩⟩ rfl).2 rfl) rfl (HP.out ⟨ek, eth, ee, ⟨vt, vn, vs⟩, ⟨wt, wn, ws⟩⟩ rfl).1
    · obtain ⟨k8, ko8⟩ := S5.keep0 notVM0 h81 o81
      have S05 := S1.trans S5
      have s5 : w.heap.size ≤ w5.heap.size := S05.st.fr.size
      have ne8 : w5.heap.size ≠ b8 := by have := k8.lt; omega
      have NX : Hid (ExInv w A 0 i b8 f r k2 (w5.alloc (.cells #[.int .i64 0, .int .i64 0, .int .i64 0, .int .i64 0, .int .u64 0, sv [], .int .i64 0, .int .u64 0, sv []] 190))) := by
        have fa : Fr (fun _ => False) w5 (w5.alloc (.cells #[.int .i64 0, .int .i64 0, .int .i64 0, .int .i64 0, .int .u64 0, sv [], .int .i64 0, .int .u64 0, sv []] 190)) := (Fr.refl _ _).alloc _
        exact ⟨K2, A5, m2, f2, t2, fm2, R5.fresh fa, hAt2, rm2, low2, S05.trans (VSt.fresh fa), hr2, by omega, k8.alloc _, ko8⟩
      have HK : Hid (k2 < gk) := hk
      clear k8 ko8 S05 S5 R5 RUN S1 R1 hAt1 rm1 low1 hr1 h81 o81 hrel hAt2 rm2 low2 hr2 hk
      dsimp only [ev0, nilV]
      go_wp2_with fail
      go_roundg k2
      case measure => exact HK.out
      case rel => exact NX
theorem exec_yielded (R : VRep w A m f 0) (S : Slp K m) (low : Low m) (fu : f < 9223372036854775808) (hi : m.ths[i]? = some t) (hst : t.st = 2) {a b : Vl} (va : VOk K a) (vb : VOk K b) {n : Nat} {r : EvD × Nat × VMD} (hr : roundsP n f (startP m i a b) i = some r) :
    Calls Tryz.prog 84 #[.pointer (some ⟨A.b, 0, none⟩), .int .i64 i, a.val, b.val] w (ExPost w A 0 r) := by
  obtain ⟨t', fm', hAt, hRoom, hRest⟩ := start_ok S hi (by omega) va vb
  have hLow : Low (startP m i a b) := Low.next low hAt.vi hRest hAt.hi (by have := hAt.sl hRoom; omega)
  have hkc := S.vi.kc
  have hkt := S.vi.kt
  have hcn := S.vi.cn
  have VA : Hid (∀ W, Fr (fun _ => False) w W → Calls Tryz.prog 141 #[.pointer (some ⟨A.b, 0, none⟩), a.val] W fun e' w' => e' = .returned (.bool true) ∧ Fr (fun _ => False) W w') := fun W hW => valid_any (R.fresh hW) a (va.valid S.vi.kt S.vi.kc S.vi.kh) ⟨by have := S.vi.kc; have := S.vi.cn; omega, by have := S.vi.kt; have := S.vi.tn; omega⟩
  have VB : Hid (∀ W, Fr (fun _ => False) w W → Calls Tryz.prog 141 #[.pointer (some ⟨A.b, 0, none⟩), b.val] W fun e' w' => e' = .returned (.bool true) ∧ Fr (fun _ => False) W w') := fun W hW => valid_any (R.fresh hW) b (vb.valid S.vi.kt S.vi.kc S.vi.kh) ⟨by have := S.vi.kc; have := S.vi.cn; omega, by have := S.vi.kt; have := S.vi.tn; omega⟩
  have HA : Hid (At K (startP m i a b) i t' fm' ∧ Room K 0 t' ∧ Low (startP m i a b)) := ⟨hAt, hRoom, hLow⟩
  have HR : Hid (VRep w A m f 0) := R
  have HRS : Hid (roundsP n f (startP m i a b) i = some r) := hr
  have HSL : Hid (Slp K m) := S
  have HLO : Hid (Low m) := low
  have HI : Hid (m.ths[i]? = some t) := hi
  have il : i < m.ths.length := (List.getElem?_eq_some_iff.1 hi).1
  have tl5 : m.ths.length ≤ 5 := by have := R.len5; omega
  obtain ⟨T5, HT5⟩ : ∃ T5, Hid (m.ths.length = T5) := ⟨_, rfl⟩
  have c9 := R.core.here.has.cell 9
  have c12 := R.core.here.has.cell 12
  have cl := R.core.here.has.lt
  have hbT : A.bT < w.heap.size := R.ths.here.has.lt
  obtain ⟨l, hx⟩ := R.lays hi
  have HX : Hid (A.X[i]? = some l) := hx
  have d0 : w.cell? ⟨A.bT, i * 5, none⟩ = some (.int .i64 2) := by
    have := R.thCell hi hx (j := 0) (by omega)
    rw [Nat.add_zero] at this
    rw [this]
    simp [thCells, hst]
  have d1 : w.cell? ⟨A.bT, i * 5 + 1, none⟩ = some (.int .i64 t.fn) := by
    rw [R.thCell hi hx (j := 1) (by omega)]
    rfl
  simp only [vmCells, List.getElem?_toArray, List.getElem?_cons_zero, List.getElem?_cons_succ] at c9 c12
  rw [HT5.out] at c9 il tl5
  rw [show ((0 : Nat) : Int) = 0 from rfl] at c12
  have i9 : i < 9223372036854775808 := by omega
  have ge : ((T5 : Int) ≤ (i : Int)) = False := by simp; omega
  have cl1 : A.b < w.heap.size + 1 := by omega
  have cl2 : A.b < w.heap.size + 1 + 1 := by omega
  have HST : Hid (t.st = 2) := hst
  have VAO : Hid (VOk K a) := va
  have VBO : Hid (VOk K b) := vb
  clear hkc hkt hcn R S low hr hi hx hAt hRoom hRest hLow va vb hst
  obtain ⟨at', an, as'⟩ := a
  obtain ⟨bt', bn', bs'⟩ := b
  go_enter Tryz.func84, Tryz.ntmps84
  go_wp2_with fail
  obtain ⟨W0, HW0⟩ : ∃ W, Hid (((w.alloc (.cells #[.int .i64 at', .int .u64 an, sv as'] 68)).alloc (.cells #[.int .i64 bt', .int .u64 bn', sv bs'] 68)).alloc (.cells #[.int .i64 0, .int .i64 0, .int .i64 0, .int .i64 0, .int .u64 0, sv [], .int .i64 0, .int .u64 0, sv []] 190) = W) := ⟨_, rfl⟩
  rw [HW0.out]
  obtain ⟨b7, H7⟩ : ∃ b, Hid (w.heap.size + 1 = b) := ⟨_, rfl⟩
  obtain ⟨b8, H8⟩ : ∃ b, Hid (w.heap.size + 1 + 1 = b) := ⟨_, rfl⟩
  rw [H8.out, H7.out]
  have F0 : Fr (fun _ => False) w W0 := by rw [← HW0.out]; exact (((Fr.refl _ _).alloc _).alloc _).alloc _
  have q6 : Has W0 w.heap.size #[.int .i64 at', .int .u64 an, sv as'] 68 := by rw [← HW0.out]; exact ((Has.new _ _ _).alloc _).alloc _
  have q7 : Has W0 b7 #[.int .i64 bt', .int .u64 bn', sv bs'] 68 := by rw [← HW0.out, ← H7.out]; exact (Has.newC _ _ _ (by simp)).alloc _
  have q8 : Has W0 b8 (evCells ev0) 190 := by rw [← HW0.out, ← H8.out]; exact Has.newC _ _ _ (by simp)
  clear HW0
  refine (VA.out _ F0).mono ?_
  rintro e1 w1 ⟨rfl, f1⟩
  have F1 : Fr (fun _ => False) w w1 := F0.trans f1 (fun _ _ x => x)
  have q6 := q6.fr f1 (fun x => x)
  have q7 := q7.fr f1 (fun x => x)
  have q8 := q8.fr f1 (fun x => x)
  obtain ⟨y0, y1, y2⟩ := Has.cells3 (v := ⟨bt', bn', bs'⟩) q7
  have z7 := q7.lt
  dsimp only at y0 y1 y2
  clear VA F0 f1
  go_wp2_with fail
  clear y0 y1 y2 z7
  refine (VB.out _ F1).mono ?_
  rintro e1 w2 ⟨rfl, f2⟩
  have F2 : Fr (fun _ => False) w w2 := F1.trans f2 (fun _ _ x => x)
  have q6 := q6.fr f2 (fun x => x)
  have q7 := q7.fr f2 (fun x => x)
  have q8 := q8.fr f2 (fun x => x)
  have x9 := F2.cell c9
  have hb2 : A.b < w2.heap.size := Nat.lt_of_lt_of_le cl F2.size
  have hT2 : A.bT < w2.heap.size := Nat.lt_of_lt_of_le hbT F2.size
  have x0 := F2.cell d0
  have x1 := F2.cell d1
  obtain ⟨p0, p1, p2⟩ := Has.cells3 (v := ⟨at', an, as'⟩) q6
  obtain ⟨y0, y1, y2⟩ := Has.cells3 (v := ⟨bt', bn', bs'⟩) q7
  have z6 := q6.lt
  have z7 := q7.lt
  dsimp only at p0 p1 p2 y0 y1 y2
  have Q8 : Hid (Has w2 b8 (evCells ev0) 190) := q8
  have HF2 : Hid (Fr (fun _ => False) w w2) := F2
  have HR2 : Hid (VRep w2 A m f 0) := HR.out.fresh F2
  clear VB F1 f2 c9 c12 d0 d1 q6 q7 q8 F2 cl cl1 cl2 hbT
  go_wp2_with fail
  have HP : Hid (∀ W, Has W (w2.heap.size) _ _ → Fr (fun _ => False) w2 W → Calls _ _ _ _ _) := fun W hB hW => vpush_any (c := 2) (B := w2.heap.size) (HR2.out.fresh hW) HI.out [⟨at', an, as'⟩, ⟨bt', bn', bs'⟩] (by simp) (by have := HLO.out i t HI.out; simp; omega) hB
  refine (HP.out _ (Has.new _ _ _) ((Fr.refl _ _).alloc _)).mono ?_
  rintro e1 w3 ⟨rfl, A3, R3, S3⟩
  obtain ⟨l3, hx3⟩ := R3.lays (setTh_get HI.out)
  have R4 := R3.setSt (setTh_get HI.out) hx3 4
  rw [setTh_setTh] at R4
  have hS3 : VSt isVM w A w3 A3 := ((VSt.fresh HF2.out).trans (VSt.fresh ((Fr.refl _ _).alloc _))).trans (S3.weaken fun _ => isT_VM)
  have hsp : startP m i ⟨at', an, as'⟩ ⟨bt', bn', bs'⟩ = m.setTh i { t with stack := t.stack ++ [⟨at', an, as'⟩, ⟨bt', bn', bs'⟩], st := 4 } := by
    unfold startP
    dsimp only
    rw [th_get HI.out, if_neg (by rw [HST.out]; decide)]
  rw [← hsp] at R4
  have o8 : A.o b8 = 0 := HR.out.own _ (by rw [← H8.out]; omega)
  obtain ⟨q8, o83⟩ := (VSt.keep0 (VSt.trans (VSt.fresh (Q := isVM) ((Fr.refl _ w2).alloc (.cells #[.int .i64 at', .int .u64 an, sv as', .int .i64 bt', .int .u64 bn', sv bs'] 68))) (S3.weaken fun _ => isT_VM)) notVM0 Q8.out o8)
  have INV : Hid (ExInv w A 0 i b8 f r n (w3.setCell ⟨A.bT, i * 5, none⟩ (.int .i64 4))) := by
    have hb := S3.bT
    rw [hb] at R4
    refine ⟨K, A3, _, f, t', fm', R4.1, HA.out.1, HA.out.2.1, HA.out.2.2, hS3.trans (R4.2.weaken fun _ => isT_VM), HRS.out, Nat.le_refl _, ?_, o83⟩
    refine q8.other (p := ⟨A.bT, i * 5, none⟩) (fun e => ?_) _
    have := R3.ths.here.lb
    have e : b8 = A.bT := e
    rw [hb, ← e, o83] at this
    exact absurd this (by decide)
  have w30 : w3.cell? ⟨A.bT, i * 5, none⟩ = some (.int .i64 2) := by
    have := R3.thCell (setTh_get HI.out) hx3 (j := 0) (by omega)
    rw [Nat.add_zero, S3.bT] at this
    rw [this]
    simp [thCells, HST.out]
  have w3f : w3.frozen? ⟨A.bT, i * 5, none⟩ = false := by
    have := R3.ths.here.has.frozen (i * 5)
    rw [S3.bT] at this
    exact this
  have w3l : A.bT < w3.heap.size := by
    have := R3.ths.here.has.lt
    rw [S3.bT] at this
    exact this
  clear R4 R3 S3 hS3 hsp q8 o83 o8 x0 x1 x9 hb2 hT2 p0 p1 p2 y0 y1 y2 z6 z7 hx3
  go_wp2_with fail
  go_loopg [] n (fun k wr => Hid (ExInv w A 0 i b8 f r k wr))
  case atStart => exact INV.out
  case round =>
    clear INV w30 w3f w3l
    obtain ⟨K1, A1, m1, f1, t1, fm1, R1, hAt1, rm1, low1, S1, hr1, hf1, h81, o81⟩ := hrel.out
    have RUN := run_any R1 hAt1 rm1 low1 (by omega) hr1
    rw [S1.b, S1.bT] at RUN
    go_wp2_with fail
    refine RUN.mono ?_
    have s8 : w.heap.size ≤ b8 := by rw [← H8.out]; omega
    rintro e1 w5 (⟨A5, m9, e9, rfl, R5, ho, hne, S5⟩ | ⟨A5, m2, f2, k2, K2, t2, fm2, rfl, hk, hr2, R5, S5, hAt2, rm2, low2, hf2⟩)
    · obtain ⟨k8, ko8⟩ := S5.keep0 notVM0 h81 o81
      have S05 := S1.trans S5
      have s5 : w.heap.size ≤ w5.heap.size := S05.st.fr.size
      have ne8 : w5.heap.size ≠ b8 := by have := k8.lt; omega
      have HP : Hid (∀ ev : EvD, ev = r.1 → ExPost w A 0 r (.returned ev.val) ((set9 w5 b8 ev).alloc (.cells (evCells ev) 190)) ∧ Has ((set9 w5 b8 ev).alloc (.cells (evCells ev) 190)) b8 (evCells ev) 190) := by
        rintro ev rfl
        have fa : Fr (fun _ => False) (set9 w5 b8 r.1) ((set9 w5 b8 r.1).alloc (.cells (evCells r.1) 190)) := (Fr.refl _ _).alloc _
        exact ⟨⟨A5, m9, e9, rfl, (R5.set9 ko8 r.1).fresh fa, ho, hne, (S05.set9 s8 r.1).trans (VSt.fresh fa)⟩, (k8.set9 r.1).alloc _⟩
      obtain ⟨⟨ek, eth, ee, ⟨vt, vn, vs⟩, ⟨wt, wn, ws⟩⟩, r2⟩ := r
      have HQ : Hid (Has w5 b8 (evCells ev0) 190) := k8
      obtain ⟨x0, x1, x2, x3, x4, x5, x6, x7, x8⟩ := k8.ev
      dsimp only [ev0, nilV] at x0 x1 x2 x3 x4 x5 x6 x7 x8
      have hz := k8.frozen
      have hz0 := hz 0
      have hz1 := hz 1
      have hz2 := hz 2
      have hz3 := hz 3
      have hz4 := hz 4
      have hz5 := hz 5
      have hz6 := hz 6
      have hz7 := hz 7
      have hz8 := hz 8
      have l8 := k8.lt
      clear hz k8 ko8 S05 S5 R5 RUN S1 R1 hAt1 rm1 low1 hr1 h81 o81 hrel ho hne
      go_wp2_with fail
      exact bodyPost_ret (res_cell isEvent rfl rfl (HP.out ⟨ek, eth, ee, ⟨vt, vn, vs⟩, ⟨wt, wn, ws⟩⟩ rfl).2 rfl) rfl (HP.out ⟨ek, eth, ee, ⟨vt, vn, vs⟩, ⟨wt, wn, ws⟩⟩ rfl).1
    · obtain ⟨k8, ko8⟩ := S5.keep0 notVM0 h81 o81
      have S05 := S1.trans S5
      have s5 : w.heap.size ≤ w5.heap.size := S05.st.fr.size
      have ne8 : w5.heap.size ≠ b8 := by have := k8.lt; omega
      have NX : Hid (ExInv w A 0 i b8 f r k2 (w5.alloc (.cells #[.int .i64 0, .int .i64 0, .int .i64 0, .int .i64 0, .int .u64 0, sv [], .int .i64 0, .int .u64 0, sv []] 190))) := by
        have fa : Fr (fun _ => False) w5 (w5.alloc (.cells #[.int .i64 0, .int .i64 0, .int .i64 0, .int .i64 0, .int .u64 0, sv [], .int .i64 0, .int .u64 0, sv []] 190)) := (Fr.refl _ _).alloc _
        exact ⟨K2, A5, m2, f2, t2, fm2, R5.fresh fa, hAt2, rm2, low2, S05.trans (VSt.fresh fa), hr2, by omega, k8.alloc _, ko8⟩
      have HK : Hid (k2 < gk) := hk
      clear k8 ko8 S05 S5 R5 RUN S1 R1 hAt1 rm1 low1 hr1 h81 o81 hrel hAt2 rm2 low2 hr2 hk
      dsimp only [ev0, nilV]
      go_wp2_with fail
      go_roundg k2
      case measure => exact HK.out
      case rel => exact NX
theorem exec_normal (R : VRep w A m f 0) (S : Slp K m) (low : Low m) (fu : f < 9223372036854775808) (hi : m.ths[i]? = some t) (hst : t.st = 3) {a b : Vl} (va : VOk K a) (vb : VOk K b) {n : Nat} {r : EvD × Nat × VMD} (hr : roundsP n f (startP m i a b) i = some r) :
    Calls Tryz.prog 84 #[.pointer (some ⟨A.b, 0, none⟩), .int .i64 i, a.val, b.val] w (ExPost w A 0 r) := by
  obtain ⟨t', fm', hAt, hRoom, hRest⟩ := start_ok S hi (by omega) va vb
  have hLow : Low (startP m i a b) := Low.next low hAt.vi hRest hAt.hi (by have := hAt.sl hRoom; omega)
  have hkc := S.vi.kc
  have hkt := S.vi.kt
  have hcn := S.vi.cn
  have VA : Hid (∀ W, Fr (fun _ => False) w W → Calls Tryz.prog 141 #[.pointer (some ⟨A.b, 0, none⟩), a.val] W fun e' w' => e' = .returned (.bool true) ∧ Fr (fun _ => False) W w') := fun W hW => valid_any (R.fresh hW) a (va.valid S.vi.kt S.vi.kc S.vi.kh) ⟨by have := S.vi.kc; have := S.vi.cn; omega, by have := S.vi.kt; have := S.vi.tn; omega⟩
  have VB : Hid (∀ W, Fr (fun _ => False) w W → Calls Tryz.prog 141 #[.pointer (some ⟨A.b, 0, none⟩), b.val] W fun e' w' => e' = .returned (.bool true) ∧ Fr (fun _ => False) W w') := fun W hW => valid_any (R.fresh hW) b (vb.valid S.vi.kt S.vi.kc S.vi.kh) ⟨by have := S.vi.kc; have := S.vi.cn; omega, by have := S.vi.kt; have := S.vi.tn; omega⟩
  have HA : Hid (At K (startP m i a b) i t' fm' ∧ Room K 0 t' ∧ Low (startP m i a b)) := ⟨hAt, hRoom, hLow⟩
  have HR : Hid (VRep w A m f 0) := R
  have HRS : Hid (roundsP n f (startP m i a b) i = some r) := hr
  have HSL : Hid (Slp K m) := S
  have HLO : Hid (Low m) := low
  have HI : Hid (m.ths[i]? = some t) := hi
  have il : i < m.ths.length := (List.getElem?_eq_some_iff.1 hi).1
  have tl5 : m.ths.length ≤ 5 := by have := R.len5; omega
  obtain ⟨T5, HT5⟩ : ∃ T5, Hid (m.ths.length = T5) := ⟨_, rfl⟩
  have c9 := R.core.here.has.cell 9
  have c12 := R.core.here.has.cell 12
  have cl := R.core.here.has.lt
  have hbT : A.bT < w.heap.size := R.ths.here.has.lt
  obtain ⟨l, hx⟩ := R.lays hi
  have HX : Hid (A.X[i]? = some l) := hx
  have d0 : w.cell? ⟨A.bT, i * 5, none⟩ = some (.int .i64 3) := by
    have := R.thCell hi hx (j := 0) (by omega)
    rw [Nat.add_zero] at this
    rw [this]
    simp [thCells, hst]
  have d1 : w.cell? ⟨A.bT, i * 5 + 1, none⟩ = some (.int .i64 t.fn) := by
    rw [R.thCell hi hx (j := 1) (by omega)]
    rfl
  simp only [vmCells, List.getElem?_toArray, List.getElem?_cons_zero, List.getElem?_cons_succ] at c9 c12
  rw [HT5.out] at c9 il tl5
  rw [show ((0 : Nat) : Int) = 0 from rfl] at c12
  have i9 : i < 9223372036854775808 := by omega
  have ge : ((T5 : Int) ≤ (i : Int)) = False := by simp; omega
  have cl1 : A.b < w.heap.size + 1 := by omega
  have cl2 : A.b < w.heap.size + 1 + 1 := by omega
  have HST : Hid (t.st = 3) := hst
  have VAO : Hid (VOk K a) := va
  have VBO : Hid (VOk K b) := vb
  clear hkc hkt hcn R S low hr hi hx hAt hRoom hRest hLow va vb hst
  obtain ⟨at', an, as'⟩ := a
  obtain ⟨bt', bn', bs'⟩ := b
  go_enter Tryz.func84, Tryz.ntmps84
  go_wp2_with fail
  obtain ⟨W0, HW0⟩ : ∃ W, Hid (((w.alloc (.cells #[.int .i64 at', .int .u64 an, sv as'] 68)).alloc (.cells #[.int .i64 bt', .int .u64 bn', sv bs'] 68)).alloc (.cells #[.int .i64 0, .int .i64 0, .int .i64 0, .int .i64 0, .int .u64 0, sv [], .int .i64 0, .int .u64 0, sv []] 190) = W) := ⟨_, rfl⟩
  rw [HW0.out]
  obtain ⟨b7, H7⟩ : ∃ b, Hid (w.heap.size + 1 = b) := ⟨_, rfl⟩
  obtain ⟨b8, H8⟩ : ∃ b, Hid (w.heap.size + 1 + 1 = b) := ⟨_, rfl⟩
  rw [H8.out, H7.out]
  have F0 : Fr (fun _ => False) w W0 := by rw [← HW0.out]; exact (((Fr.refl _ _).alloc _).alloc _).alloc _
  have q6 : Has W0 w.heap.size #[.int .i64 at', .int .u64 an, sv as'] 68 := by rw [← HW0.out]; exact ((Has.new _ _ _).alloc _).alloc _
  have q7 : Has W0 b7 #[.int .i64 bt', .int .u64 bn', sv bs'] 68 := by rw [← HW0.out, ← H7.out]; exact (Has.newC _ _ _ (by simp)).alloc _
  have q8 : Has W0 b8 (evCells ev0) 190 := by rw [← HW0.out, ← H8.out]; exact Has.newC _ _ _ (by simp)
  clear HW0
  refine (VA.out _ F0).mono ?_
  rintro e1 w1 ⟨rfl, f1⟩
  have F1 : Fr (fun _ => False) w w1 := F0.trans f1 (fun _ _ x => x)
  have q6 := q6.fr f1 (fun x => x)
  have q7 := q7.fr f1 (fun x => x)
  have q8 := q8.fr f1 (fun x => x)
  obtain ⟨y0, y1, y2⟩ := Has.cells3 (v := ⟨bt', bn', bs'⟩) q7
  have z7 := q7.lt
  dsimp only at y0 y1 y2
  clear VA F0 f1
  go_wp2_with fail
  clear y0 y1 y2 z7
  refine (VB.out _ F1).mono ?_
  rintro e1 w2 ⟨rfl, f2⟩
  have F2 : Fr (fun _ => False) w w2 := F1.trans f2 (fun _ _ x => x)
  have q6 := q6.fr f2 (fun x => x)
  have q7 := q7.fr f2 (fun x => x)
  have q8 := q8.fr f2 (fun x => x)
  have x9 := F2.cell c9
  have hb2 : A.b < w2.heap.size := Nat.lt_of_lt_of_le cl F2.size
  have hT2 : A.bT < w2.heap.size := Nat.lt_of_lt_of_le hbT F2.size
  have x0 := F2.cell d0
  have x1 := F2.cell d1
  obtain ⟨p0, p1, p2⟩ := Has.cells3 (v := ⟨at', an, as'⟩) q6
  obtain ⟨y0, y1, y2⟩ := Has.cells3 (v := ⟨bt', bn', bs'⟩) q7
  have z6 := q6.lt
  have z7 := q7.lt
  dsimp only at p0 p1 p2 y0 y1 y2
  have Q8 : Hid (Has w2 b8 (evCells ev0) 190) := q8
  have HF2 : Hid (Fr (fun _ => False) w w2) := F2
  have HR2 : Hid (VRep w2 A m f 0) := HR.out.fresh F2
  clear VB F1 f2 c9 c12 d0 d1 q6 q7 q8 F2 cl cl1 cl2 hbT
  go_wp2_with fail
  have HP : Hid (∀ W, Has W (w2.heap.size) _ _ → Fr (fun _ => False) w2 W → Calls _ _ _ _ _) := fun W hB hW => vpush_any (c := 2) (B := w2.heap.size) (HR2.out.fresh hW) HI.out [⟨at', an, as'⟩, ⟨bt', bn', bs'⟩] (by simp) (by have := HLO.out i t HI.out; simp; omega) hB
  refine (HP.out _ (Has.new _ _ _) ((Fr.refl _ _).alloc _)).mono ?_
  rintro e1 w3 ⟨rfl, A3, R3, S3⟩
  obtain ⟨l3, hx3⟩ := R3.lays (setTh_get HI.out)
  have R4 := R3.setSt (setTh_get HI.out) hx3 4
  rw [setTh_setTh] at R4
  have hS3 : VSt isVM w A w3 A3 := ((VSt.fresh HF2.out).trans (VSt.fresh ((Fr.refl _ _).alloc _))).trans (S3.weaken fun _ => isT_VM)
  have hsp : startP m i ⟨at', an, as'⟩ ⟨bt', bn', bs'⟩ = m.setTh i { t with stack := t.stack ++ [⟨at', an, as'⟩, ⟨bt', bn', bs'⟩], st := 4 } := by
    unfold startP
    dsimp only
    rw [th_get HI.out, if_neg (by rw [HST.out]; decide)]
  rw [← hsp] at R4
  have o8 : A.o b8 = 0 := HR.out.own _ (by rw [← H8.out]; omega)
  obtain ⟨q8, o83⟩ := (VSt.keep0 (VSt.trans (VSt.fresh (Q := isVM) ((Fr.refl _ w2).alloc (.cells #[.int .i64 at', .int .u64 an, sv as', .int .i64 bt', .int .u64 bn', sv bs'] 68))) (S3.weaken fun _ => isT_VM)) notVM0 Q8.out o8)
  have INV : Hid (ExInv w A 0 i b8 f r n (w3.setCell ⟨A.bT, i * 5, none⟩ (.int .i64 4))) := by
    have hb := S3.bT
    rw [hb] at R4
    refine ⟨K, A3, _, f, t', fm', R4.1, HA.out.1, HA.out.2.1, HA.out.2.2, hS3.trans (R4.2.weaken fun _ => isT_VM), HRS.out, Nat.le_refl _, ?_, o83⟩
    refine q8.other (p := ⟨A.bT, i * 5, none⟩) (fun e => ?_) _
    have := R3.ths.here.lb
    have e : b8 = A.bT := e
    rw [hb, ← e, o83] at this
    exact absurd this (by decide)
  have w30 : w3.cell? ⟨A.bT, i * 5, none⟩ = some (.int .i64 3) := by
    have := R3.thCell (setTh_get HI.out) hx3 (j := 0) (by omega)
    rw [Nat.add_zero, S3.bT] at this
    rw [this]
    simp [thCells, HST.out]
  have w3f : w3.frozen? ⟨A.bT, i * 5, none⟩ = false := by
    have := R3.ths.here.has.frozen (i * 5)
    rw [S3.bT] at this
    exact this
  have w3l : A.bT < w3.heap.size := by
    have := R3.ths.here.has.lt
    rw [S3.bT] at this
    exact this
  clear R4 R3 S3 hS3 hsp q8 o83 o8 x0 x1 x9 hb2 hT2 p0 p1 p2 y0 y1 y2 z6 z7 hx3
  go_wp2_with fail
  go_loopg [] n (fun k wr => Hid (ExInv w A 0 i b8 f r k wr))
  case atStart => exact INV.out
  case round =>
    clear INV w30 w3f w3l
    obtain ⟨K1, A1, m1, f1, t1, fm1, R1, hAt1, rm1, low1, S1, hr1, hf1, h81, o81⟩ := hrel.out
    have RUN := run_any R1 hAt1 rm1 low1 (by omega) hr1
    rw [S1.b, S1.bT] at RUN
    go_wp2_with fail
    refine RUN.mono ?_
    have s8 : w.heap.size ≤ b8 := by rw [← H8.out]; omega
    rintro e1 w5 (⟨A5, m9, e9, rfl, R5, ho, hne, S5⟩ | ⟨A5, m2, f2, k2, K2, t2, fm2, rfl, hk, hr2, R5, S5, hAt2, rm2, low2, hf2⟩)
    · obtain ⟨k8, ko8⟩ := S5.keep0 notVM0 h81 o81
      have S05 := S1.trans S5
      have s5 : w.heap.size ≤ w5.heap.size := S05.st.fr.size
      have ne8 : w5.heap.size ≠ b8 := by have := k8.lt; omega
      have HP : Hid (∀ ev : EvD, ev = r.1 → ExPost w A 0 r (.returned ev.val) ((set9 w5 b8 ev).alloc (.cells (evCells ev) 190)) ∧ Has ((set9 w5 b8 ev).alloc (.cells (evCells ev) 190)) b8 (evCells ev) 190) := by
        rintro ev rfl
        have fa : Fr (fun _ => False) (set9 w5 b8 r.1) ((set9 w5 b8 r.1).alloc (.cells (evCells r.1) 190)) := (Fr.refl _ _).alloc _
        exact ⟨⟨A5, m9, e9, rfl, (R5.set9 ko8 r.1).fresh fa, ho, hne, (S05.set9 s8 r.1).trans (VSt.fresh fa)⟩, (k8.set9 r.1).alloc _⟩
      obtain ⟨⟨ek, eth, ee, ⟨vt, vn, vs⟩, ⟨wt, wn, ws⟩⟩, r2⟩ := r
      have HQ : Hid (Has w5 b8 (evCells ev0) 190) := k8
      obtain ⟨x0, x1, x2, x3, x4, x5, x6, x7, x8⟩ := k8.ev
      dsimp only [ev0, nilV] at x0 x1 x2 x3 x4 x5 x6 x7 x8
      have hz := k8.frozen
      have hz0 := hz 0
      have hz1 := hz 1
      have hz2 := hz 2
      have hz3 := hz 3
      have hz4 := hz 4
      have hz5 := hz 5
      have hz6 := hz 6
      have hz7 := hz 7
      have hz8 := hz 8
      have l8 := k8.lt
      clear hz k8 ko8 S05 S5 R5 RUN S1 R1 hAt1 rm1 low1 hr1 h81 o81 hrel ho hne
      go_wp2_with fail
      exact bodyPost_ret (res_cell isEvent rfl rfl (HP.out ⟨ek, eth, ee, ⟨vt, vn, vs⟩, ⟨wt, wn, ws⟩⟩ rfl).2 rfl) rfl (HP.out ⟨ek, eth, ee, ⟨vt, vn, vs⟩, ⟨wt, wn, ws⟩⟩ rfl).1
    · obtain ⟨k8, ko8⟩ := S5.keep0 notVM0 h81 o81
      have S05 := S1.trans S5
      have s5 : w.heap.size ≤ w5.heap.size := S05.st.fr.size
      have ne8 : w5.heap.size ≠ b8 := by have := k8.lt; omega
      have NX : Hid (ExInv w A 0 i b8 f r k2 (w5.alloc (.cells #[.int .i64 0, .int .i64 0, .int .i64 0, .int .i64 0, .int .u64 0, sv [], .int .i64 0, .int .u64 0, sv []] 190))) := by
        have fa : Fr (fun _ => False) w5 (w5.alloc (.cells #[.int .i64 0, .int .i64 0, .int .i64 0, .int .i64 0, .int .u64 0, sv [], .int .i64 0, .int .u64 0, sv []] 190)) := (Fr.refl _ _).alloc _
        exact ⟨K2, A5, m2, f2, t2, fm2, R5.fresh fa, hAt2, rm2, low2, S05.trans (VSt.fresh fa), hr2, by omega, k8.alloc _, ko8⟩
      have HK : Hid (k2 < gk) := hk
      clear k8 ko8 S05 S5 R5 RUN S1 R1 hAt1 rm1 low1 hr1 h81 o81 hrel hAt2 rm2 low2 hr2 hk
      dsimp only [ev0, nilV]
      go_wp2_with fail
      go_roundg k2
      case measure => exact HK.out
      case rel => exact NX
/-- Exec, whatever the thread's state -/
theorem exec_any (R : VRep w A m f 0) (S : Slp K m) (low : Low m) (fu : f < 9223372036854775808) (hi : m.ths[i]? = some t) (hst : t.st = 1 ∨ t.st = 2 ∨ t.st = 3) {a b : Vl} (va : VOk K a) (vb : VOk K b) {n : Nat} {r : EvD × Nat × VMD} (hr : roundsP n f (startP m i a b) i = some r) :
    Calls Tryz.prog 84 #[.pointer (some ⟨A.b, 0, none⟩), .int .i64 i, a.val, b.val] w (ExPost w A 0 r) := by
  rcases hst with h | h | h
  · exact exec_fresh R S low fu hi h va vb hr
  · exact exec_yielded R S low fu hi h va vb hr
  · exact exec_normal R S low fu hi h va vb hr
end
end Go.Proofs.Qxb6500574aGreatDoor
