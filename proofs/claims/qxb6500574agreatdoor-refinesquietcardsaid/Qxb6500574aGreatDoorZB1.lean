/-
  THE WALKS of tablem: where its tables lie; norm, isNaN, find.
-/
import Derived.Test.Qxb6500574aGreatDoorVApi
import Derived.Test.Qxb6500574aGreatDoorVEq
import Derived.Test.Qxb6500574aGreatDoorVInv0
import Derived.Test.Qxb6500574aGreatDoorZT2
import Derived.Test.Qxb6500574aGreatDoorZA3
import Derived.Test.Qxb6500574aGreatDoorRegC
import Derived.Test.Qxb6500574aGreatDoorRegApp
namespace Go.Proofs.Qxb6500574aGreatDoor
open Go Go.RowKit
set_option linter.unusedVariables false
set_option linter.unusedSimpArgs false
theorem hid {p : Prop} (h : p) : Hid p := h
/-- a table's row: where, and what -/
abbrev TmX := Sl × PrL
def trV (x : TmX) : List Value := [x.1.v x.2.length]
theorem trV_len (x : TmX) : (trV x).length = 1 := rfl
/-- the model's tables -/
structure TmRep (w : World) (o : Nat → Nat) (bt bn : Nat) (s : Sl) (xs : List TmX) : Prop where
  here : Blk w o 2 bt #[.pointer (some ⟨bn, 0, none⟩), s.v xs.length] 165
  row : Row w o 3 218 1 s xs.length (xs.flatMap trV)
  one : ∀ h x, xs[h]? = some x → Row w o (40 + h) 217 6 x.1 x.2.length (x.2.flatMap eCells)
  le : xs.length ≤ 12
  ld : ∀ x ∈ xs, x.2.length ≤ 32
def isTm (l : Nat) : Prop := l = 2 ∨ l = 3 ∨ (40 ≤ l ∧ l < 52)
theorem TmRep.st {Q : Nat → Prop} {w w1 : World} {o o1 : Nat → Nat} {bt bn : Nat} {s : Sl} {xs : List TmX} (h : TmRep w o bt bn s xs) (t : Stp Q w o w1 o1) (hq : ∀ l, isTm l → ¬ Q l) : TmRep w1 o1 bt bn s xs :=
  ⟨h.here.st t (hq _ (.inl rfl)), h.row.st t (hq _ (.inr (.inl rfl))), fun i x hx => (h.one i x hx).st t (hq _ (.inr (.inr (by
    have := (List.getElem?_eq_some_iff.1 hx).1
    have := h.le
    omega)))), h.le, h.ld⟩
theorem TmRep.fresh {w w1 : World} {o : Nat → Nat} {bt bn : Nat} {s : Sl} {xs : List TmX} (h : TmRep w o bt bn s xs) (t : Fr (fun _ => False) w w1) : TmRep w1 o bt bn s xs := h.st (Stp.fresh (fun _ => False) o t) (fun _ _ x => x)
section
variable {w : World} {o : Nat → Nat} {bt bn h : Nat} {s sl : Sl} {xs : List TmX} {l : PrL}
/-- table h: the cell that says where it lies -/
theorem TmRep.at (r : TmRep w o bt bn s xs) (hx : xs[h]? = some (sl, l)) : ∃ g, s.a = some ⟨g, 0, none⟩ ∧ xs.length ≤ s.c ∧ o g = 3 ∧ g < w.heap.size ∧ w.cell? ⟨g, h, none⟩ = some (.slice sl.a l.length sl.c) ∧ ∀ j, w.frozen? ⟨g, j, none⟩ = false := by
  have hlt := (List.getElem?_eq_some_iff.1 hx).1
  obtain ⟨g, h1, h2, h3, h4, h5, h6⟩ := r.row.cells (show 0 < xs.length by omega)
  refine ⟨g, h1, h2, h3, h4, ?_, h6⟩
  have a := flatMap_at trV 1 trV_len xs h 0 _ hx (by omega)
  rw [Nat.mul_one, Nat.add_zero] at a
  rw [h5 h (by omega), a]
  rfl
/-- pair j of table h: its cells -/
theorem TmRep.pair (r : TmRep w o bt bn s xs) (hx : xs[h]? = some (sl, l)) {j : Nat} {e : Vl × Vl} (hj : l[j]? = some e) :
    ∃ q, sl.a = some ⟨q, 0, none⟩ ∧ l.length ≤ sl.c ∧ o q = 40 + h ∧ q < w.heap.size ∧ (∀ k, w.frozen? ⟨q, k, none⟩ = false) ∧
      w.cell? ⟨q, j * 6, none⟩ = some (.int .i64 e.1.t) ∧ w.cell? ⟨q, j * 6 + 1, none⟩ = some (.int .u64 e.1.n) ∧ w.cell? ⟨q, j * 6 + 2, none⟩ = some (sv e.1.s) ∧
      w.cell? ⟨q, j * 6 + 3, none⟩ = some (.int .i64 e.2.t) ∧ w.cell? ⟨q, j * 6 + 4, none⟩ = some (.int .u64 e.2.n) ∧ w.cell? ⟨q, j * 6 + 5, none⟩ = some (sv e.2.s) := by
  have hlt := (List.getElem?_eq_some_iff.1 hj).1
  obtain ⟨q, h1, h2, h3, h4, h5, h6⟩ := (r.one h _ hx).cells (show 0 < l.length by omega)
  have k : ∀ d, d < 6 → w.cell? ⟨q, j * 6 + d, none⟩ = (eCells e)[d]? := fun d hd => (h5 _ (show _ < l.length * 6 by omega)).trans (flatMap_at _ 6 eCells_len l j d _ hj hd)
  exact ⟨q, h1, h2, h3, h4, h6, k 0 (by omega), k 1 (by omega), k 2 (by omega), k 3 (by omega), k 4 (by omega), k 5 (by omega)⟩
set_option maxRecDepth 100000
set_option maxHeartbeats 600000
theorem norm_m (k : Vl) : Calls Tryz.prog 111 #[k.val] w fun e w' => e = .returned (normM k).val ∧ Fr (fun _ => False) w w' := by
  obtain ⟨kt, kn, ks⟩ := k
  by_cases h2 : kt = 2
  · by_cases h3 : kn = 9223372036854775808
    · have e : normM ⟨kt, kn, ks⟩ = ⟨kt, 0, ks⟩ := if_pos ⟨h2, h3⟩
      rw [e]
      subst h2 h3
      go_enter Tryz.func111, Tryz.ntmps111
      go_wp2
      refine bodyPost_ret (res_cell isVal rfl rfl (Has.newC _ _ _ (by simp)) rfl) rfl ?_
      exact ⟨rfl, ((Fr.refl _ _).alloc _).alloc _⟩
    · have e : normM ⟨kt, kn, ks⟩ = ⟨kt, kn, ks⟩ := if_neg (fun z => h3 z.2)
      rw [e]
      have b : ((kn : Int) == 9223372036854775808) = false := by rw [beq_eq_false_iff_ne]; omega
      subst h2
      clear h3 e
      go_enter Tryz.func111, Tryz.ntmps111
      go_wp2
      refine bodyPost_ret (res_cell isVal rfl rfl (Has.newC _ _ _ (by simp)) rfl) rfl ?_
      exact ⟨rfl, ((Fr.refl _ _).alloc _).alloc _⟩
  · have e : normM ⟨kt, kn, ks⟩ = ⟨kt, kn, ks⟩ := if_neg (fun z => h2 z.1)
    rw [e]
    have b : (kt == 2) = false := by rw [beq_eq_false_iff_ne]; exact h2
    clear h2 e
    go_enter Tryz.func111, Tryz.ntmps111
    go_wp2
    refine bodyPost_ret (res_cell isVal rfl rfl (Has.newC _ _ _ (by simp)) rfl) rfl ?_
    exact ⟨rfl, ((Fr.refl _ _).alloc _).alloc _⟩
theorem tisNaN_m (r : TmRep w o bt bn s xs) (k : Vl) (hk : k.t = 2 → k.n < 18446744073709551616) : Calls Tryz.prog 109 #[.pointer (some ⟨bt, 0, none⟩), k.val] w fun e w' => e = .returned (.bool (decide (k.t = 2) && isNan k.n)) ∧ Fr (fun _ => False) w w' := by
  have b0 := r.here.has.cell 0
  simp only [List.getElem?_toArray, List.getElem?_cons_zero] at b0
  have hbt := r.here.has.lt
  obtain ⟨kt, kn, ks⟩ := k
  by_cases h2 : kt = 2
  · subst h2
    have hu : u64 kn := hk rfl
    have hC : ∀ W, Calls Tryz.prog 122 #[.pointer (some ⟨bn, 0, none⟩), .int .i64 2, .int .u64 kn, .int .u64 kn] W fun e w' => e = .returned (.bool (isNan kn)) ∧ w' = W := fun W => by
      have := cmp_m (w := W) (bn := bn) (op := 2) (by decide) (by decide) hu hu
      rw [show cmpM ((2 : Nat) : Int) kn kn = isNan kn by rw [← cmp_ok hu hu]; rfl] at this
      exact this
    have HC : Hid (∀ W, Calls Tryz.prog 122 #[.pointer (some ⟨bn, 0, none⟩), .int .i64 2, .int .u64 kn, .int .u64 kn] W fun e w' => e = .returned (.bool (isNan kn)) ∧ w' = W) := hC
    have e : (decide ((⟨2, kn, ks⟩ : Vl).t = 2) && isNan kn) = isNan kn := by simp
    rw [e]
    generalize isNan kn = z at *
    clear r hk hC e
    go_enter Tryz.func109, Tryz.ntmps109
    go_wp2
    refine wp_region_tail 8 (by kernel_rfl) (by kernel_rfl) (fun _ _ _ _ _ h => h) ?_
    simp only [List.take_succ_cons, List.take_zero, List.drop_succ_cons, List.drop_zero]
    repeat go_big_quiet_step (fail)
    refine wpQuiet_nil ?_
    go_wp2_with fail
    refine (HC.out _).mono ?_
    rintro e w' ⟨rfl, hw⟩
    rw [hw]
    go_wp2
    go_ret
    exact ⟨rfl, (Fr.box _).drew⟩
  · have b : (kt != 2) = true := by rw [bne_iff_ne]; exact h2
    have e : (decide ((⟨kt, kn, ks⟩ : Vl).t = 2) && isNan kn) = false := by simp [h2]
    rw [e]
    clear h2 e r hk
    go_enter Tryz.func109, Tryz.ntmps109
    go_wp2
    go_ret
    exact ⟨rfl, Fr.box _⟩
theorem tfind_m (r : TmRep w o bt bn s xs) (hx : xs[h]? = some (sl, l)) (k : Vl) : Calls Tryz.prog 110 #[.pointer (some ⟨bt, 0, none⟩), .int .i64 h, k.val] w fun e w' => e = .returned (.int .i64 (findI (findM l k))) ∧ Fr (fun _ => False) w w' := by
  have b1 := r.here.has.cell 1
  simp only [List.getElem?_toArray, List.getElem?_cons_zero, List.getElem?_cons_succ, Sl.v] at b1
  have hbt := r.here.has.lt
  obtain ⟨g, ga, gc, _, gl, gx, _⟩ := r.at hx
  rw [ga] at b1
  have hlt := (List.getElem?_eq_some_iff.1 hx).1
  have l12 := r.le
  have l32 : l.length ≤ 32 := r.ld _ (List.mem_of_getElem? hx)
  have HR : Hid (TmRep w o bt bn s xs) := r
  have HX : Hid (xs[h]? = some (sl, l)) := hx
  have HN : Hid (∀ W, Calls Tryz.prog 111 #[k.val] W fun e w' => e = .returned (normM k).val ∧ Fr (fun _ => False) W w') := fun W => norm_m k
  clear r hx ga
  obtain ⟨kt, kn, ks⟩ := k
  obtain ⟨R, HRR⟩ : ∃ R, Hid (findM l ⟨kt, kn, ks⟩ = R) := ⟨_, rfl⟩
  rw [HRR.out]
  unfold findM at HRR
  obtain ⟨⟨qt, qn, qs⟩, HQ⟩ : ∃ q, Hid (normM ⟨kt, kn, ks⟩ = q) := ⟨_, rfl⟩
  rw [HQ.out] at HN HRR
  obtain ⟨N, HNN⟩ : ∃ N : Nat, Hid (xs.length = N) := ⟨_, rfl⟩
  rw [HNN.out] at b1 gc hlt l12
  obtain ⟨M, HM⟩ : ∃ M : Nat, Hid (l.length = M) := ⟨_, rfl⟩
  rw [HM.out] at gx l32
  go_enter Tryz.func110, Tryz.ntmps110
  go_wp2_with fail
  refine (HN.out _).mono ?_
  rintro e w1 ⟨rfl, F1⟩
  have F2 : Fr (fun _ => False) w w1 := ((Fr.refl _ _).alloc _).trans F1 (fun _ _ x => x)
  have B1 : Has w1 w.heap.size #[.int .i64 kt, .int .u64 kn, sv ks] 68 := (Has.new _ _ _).fr F1 (fun x => x)
  have lt1 := B1.lt
  obtain ⟨z0, z1, z2⟩ := B1.frz3
  obtain ⟨y0, y1, y2⟩ := Has.cells3 (v := ⟨kt, kn, ks⟩) B1
  dsimp only at y0 y1 y2
  obtain ⟨W, HW⟩ : ∃ W, Hid (((w1.setCell ⟨w.heap.size, 0, none⟩ (.int .i64 qt)).setCell ⟨w.heap.size, 1, none⟩ (.int .u64 qn)).setCell ⟨w.heap.size, 2, none⟩ (sv qs) = W) := ⟨_, rfl⟩
  have FW : Fr (fun _ => False) w W := by rw [← HW.out]; exact ((F2.setCell (p := ⟨w.heap.size, 0, none⟩) (.inr (Nat.le_refl _)) _).setCell (p := ⟨w.heap.size, 1, none⟩) (.inr (Nat.le_refl _)) _).setCell (p := ⟨w.heap.size, 2, none⟩) (.inr (Nat.le_refl _)) _
  have BW : Has W w.heap.size #[.int .i64 qt, .int .u64 qn, sv qs] 68 := by rw [← HW.out]; exact B1.put3 _ _ _
  clear F1 F2
  go_wp2_with fail
  rw [HW.out]
  clear lt1 z0 z1 z2 y0 y1 y2 HW B1
  obtain ⟨y0, y1, y2⟩ := Has.cells3 (v := ⟨qt, qn, qs⟩) BW
  dsimp only at y0 y1 y2
  have lb := BW.lt
  have b1' := FW.cell b1
  have gx' := FW.cell gx
  have hbt' : bt < W.heap.size := Nat.lt_of_lt_of_le hbt FW.size
  have gl' : g < W.heap.size := Nat.lt_of_lt_of_le gl FW.size
  have HR2 : Hid (TmRep W o bt bn s xs) := HR.out.fresh FW
  have HF : Hid (Fr (fun _ => False) w W) := FW
  clear HR b1 gx hbt gl BW FW HN
  generalize w.heap.size = B at *
  go_loopw [7] (fun g7 wr => ∃ j : Nat, j ≤ M ∧ g7 = .int .i64 j ∧ Hid (R = ((l.drop j).findIdx? (fun e => e.1.same ⟨qt, qn, qs⟩)).map (fun i => i + j)) ∧ Hid (Fr (fun _ => False) W wr)) (fun g7 _ => M - (intOf g7).toNat)
  case atStart => exact ⟨0, by omega, rfl, (by show _ = _; rw [← HRR.out]; simp), Fr.refl _ _⟩
  case round =>
    obtain ⟨j, hj, rfl, HJ, HFW⟩ := hrel
    have b1r := HFW.out.cell b1'
    have gxr := HFW.out.cell gx'
    have y0r := HFW.out.cell y0
    have y1r := HFW.out.cell y1
    have y2r := HFW.out.cell y2
    have hbtr : bt < wr.heap.size := Nat.lt_of_lt_of_le hbt' HFW.out.size
    have glr : g < wr.heap.size := Nat.lt_of_lt_of_le gl' HFW.out.size
    have lbr : B < wr.heap.size := Nat.lt_of_lt_of_le lb HFW.out.size
    have HF2 : Hid (Fr (fun _ => False) w wr) := HF.out.trans HFW.out (fun _ _ x => x)
    have HR3 : Hid (TmRep wr o bt bn s xs) := HR2.out.fresh HFW.out
    clear b1' gx' y0 y1 y2 hbt' gl' lb HF HR2
    by_cases hjm : j < M
    · obtain ⟨⟨⟨at_, an, az⟩, ev⟩, hE⟩ : ∃ e, l[j]? = some e := ⟨l[j]'(by rw [HM.out]; exact hjm), by simp⟩
      obtain ⟨q, qa, qc, _, ql, _, p0, p1, p2, _⟩ := HR3.out.pair HX.out hE
      rw [qa] at gxr
      rw [HM.out] at qc
      dsimp only at p0 p1 p2
      have hd : l.drop j = (⟨at_, an, az⟩, ev) :: l.drop (j + 1) := by
        obtain ⟨h1, h2⟩ := List.getElem?_eq_some_iff.1 hE
        rw [List.drop_eq_getElem_cons h1, h2]
      rw [hd, List.findIdx?_cons] at HJ
      have veq : ∀ W, (binOp .eql 68 (.agg #[.int .i64 at_, .int .u64 an, sv az]) (.agg #[.int .i64 qt, .int .u64 qn, sv qs])).run Tryz.prog W = .ok (.bool (Vl.same ⟨at_, an, az⟩ ⟨qt, qn, qs⟩)) W := fun W => val_eql ⟨at_, an, az⟩ ⟨qt, qn, qs⟩ W
      cases hs : Vl.same ⟨at_, an, az⟩ ⟨qt, qn, qs⟩
      · rw [hs] at HJ
        simp only [hs] at veq
        have HJ2 : Hid (R = ((l.drop (j + 1)).findIdx? (fun e => e.1.same ⟨qt, qn, qs⟩)).map (fun i => i + (j + 1))) := by
          show _ = _
          rw [HJ.out]
          simp only [Bool.false_eq_true, if_false, Option.map_map]
          congr 1
          funext i
          simp only [Function.comp]
          omega
        have HFD : Hid (Fr (fun _ => False) W wr.drew) := HFW.out.drew
        clear HJ hd hE hs qa HFW
        go_wp2
        refine wp_region_tail 12 (by kernel_rfl) (by kernel_rfl) (fun _ _ _ _ _ h => h) ?_
        simp only [List.take_succ_cons, List.take_zero, List.drop_succ_cons, List.drop_zero]
        repeat go_big_quiet_step (fail)
        refine wpQuiet_nil ?_
        go_wp2_with fail
        refine ⟨⟨j + 1, by omega, rfl, HJ2, HFD⟩, by simp [intOf]; omega⟩
      · rw [hs] at HJ
        simp only [hs] at veq
        have HJ2 : Hid (R = some j) := by
          show _ = _
          rw [HJ.out]
          simp
        clear HJ hd hE hs qa
        go_wp2
        refine wp_region_tail 12 (by kernel_rfl) (by kernel_rfl) (fun _ _ _ _ _ h => h) ?_
        simp only [List.take_succ_cons, List.take_zero, List.drop_succ_cons, List.drop_zero]
        repeat go_big_quiet_step (fail)
        refine wpQuiet_nil ?_
        go_wp2
        go_ret
        exact ⟨by rw [HJ2.out]; rfl, HF2.out.drew⟩
    · have hjM : j = M := by omega
      subst hjM
      have HJ2 : Hid (R = none) := by
        show _ = _
        rw [HJ.out, List.drop_eq_nil_of_le (by rw [HM.out]; exact Nat.le_refl _)]
        rfl
      clear HJ
      go_wp2_with fail
      go_ret
      exact ⟨by rw [HJ2.out]; rfl, HF2.out⟩
end
end Go.Proofs.Qxb6500574aGreatDoor
