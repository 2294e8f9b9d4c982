/-
  THE WALKS of vm: check, Check, of a machine at rest.
-/
import Derived.Test.Qxb6500574aGreatDoorUCkC1
import Derived.Test.Qxb6500574aGreatDoorUCkC2
import Derived.Test.Qxb6500574aGreatDoorUCkC3
import Derived.Test.Qxb6500574aGreatDoorUCkC4
import Derived.Test.Qxb6500574aGreatDoorUCkC5
import Derived.Test.Qxb6500574aGreatDoorUCkV
import Derived.Test.Qxb6500574aGreatDoorUCkTb
namespace Go.Proofs.Qxb6500574aGreatDoor
open Go Go.RowKit
set_option linter.unusedVariables false
set_option linter.unusedSimpArgs false
section
variable {w : World} {A : VL} {m : VMD} {f e : Nat} {K : Cx}
set_option maxRecDepth 100000
set_option maxHeartbeats 1000000
/-- a machine that has ended -/
theorem check_dead (R : VRep w A m f e) (E : Emp m) (he : e ≠ 0) (hf : f < 9223372036854775808) (hol : m.out.length ≤ 200) :
    Calls Tryz.prog 89 #[.pointer (some ⟨A.b, 0, none⟩), .int .i64 (-1), .int .i64 0] w fun e' w' => e' = .returned (.bool true) ∧ Fr (fun _ => False) w w' := by
  have C := R.core.here.has.cell
  have c2 := C 2
  have c3 := C 3
  have c4 := C 4
  have c5 := C 5
  have c6 := C 6
  have c7 := C 7
  have c8 := C 8
  have c9 := C 9
  have c10 := C 10
  have c11 := C 11
  have c12 := C 12
  have bl := R.bl
  simp only [vmCells, List.getElem?_toArray, List.getElem?_cons_succ, List.getElem?_cons_zero, Sl.v, E.p, E.d, E.k, E.c, E.l, E.u, E.e, E.h, List.length_nil] at c2 c3 c4 c5 c6 c7 c8 c9 c10 c11 c12
  obtain ⟨NO, HNO⟩ : ∃ x, Hid (m.out.length = x) := ⟨_, rfl⟩
  rw [HNO.out] at c11 hol
  have g1 : decide ((f : Int) < 0) = false := by rw [decide_eq_false_iff_not]; omega
  have g2 : decide (200 < NO) = false := by rw [decide_eq_false_iff_not]; omega
  have g3 : ((e : Int) != 0) = true := by rw [bne_iff_ne]; omega
  have g4 : ((e : Int) == 0) = false := by rw [beq_eq_false_iff_ne]; omega
  clear R E C he
  go_enter Tryz.func89, Tryz.ntmps89
  go_wp2_with fail
  refine wp_region_tail 47 (by kernel_rfl) (by kernel_rfl) (fun _ _ _ _ _ h => h) ?_
  simp only [List.take_succ_cons, List.take_zero, List.drop_succ_cons, List.drop_zero]
  repeat go_big_quiet_step (fail)
  refine wpQuiet_nil ?_
  go_wp2_with fail
  go_ret
  exact ⟨rfl, (Fr.refl _ _).drew⟩
theorem check_live (R : VRep w A m f 0) (S : Slp K m) (T0 : Th0 m) (hf : f < 9223372036854775808) :
    Calls Tryz.prog 89 #[.pointer (some ⟨A.b, 0, none⟩), .int .i64 (-1), .int .i64 0] w fun e' w' => e' = .returned (.bool true) ∧ Fr (fun _ => False) w w' := by
  obtain ⟨Q, HQ⟩ : ∃ Q : Ending → World → Prop, Hid ((fun e' w' => e' = .returned (.bool true) ∧ Fr (fun _ => False) w w') = Q) := ⟨_, rfl⟩
  rw [HQ.out]
  have FIN : Hid (∀ W, Fr (fun _ => False) w W → Q (.returned (.bool true)) W) := fun W hF => by rw [← HQ.out]; exact ⟨rfl, hF⟩
  have HR : Hid (VRep w A m f 0) := R
  have HS : Hid (Slp K m) := S
  have HT0 : Hid (Th0 m) := T0
  have CF : Hid (∀ W, Fr (fun _ => False) w W → W.cell? ⟨A.b, 1, none⟩ = some (.pointer (some ⟨A.bt, 0, none⟩)) ∧ W.cell? ⟨A.b, 2, none⟩ = some (.slice A.C.protos.a m.protos.length A.C.protos.c) ∧ W.cell? ⟨A.b, 3, none⟩ = some (.slice A.C.descs.a m.descs.length A.C.descs.c) ∧ W.cell? ⟨A.b, 4, none⟩ = some (.slice A.C.consts.a m.consts.length A.C.consts.c) ∧ W.cell? ⟨A.b, 5, none⟩ = some (.slice A.C.code.a m.code.length A.C.code.c) ∧ W.cell? ⟨A.b, 6, none⟩ = some (.slice A.C.clos.a m.clos.length A.C.clos.c) ∧ W.cell? ⟨A.b, 7, none⟩ = some (.slice A.C.upix.a m.upix.length A.C.upix.c) ∧ W.cell? ⟨A.b, 8, none⟩ = some (.slice A.C.cells.a m.cells.length A.C.cells.c) ∧ W.cell? ⟨A.b, 9, none⟩ = some (.slice (some ⟨A.bT, 0, none⟩) m.ths.length 5) ∧ A.b < W.heap.size) := fun W hF =>
    ⟨hF.cell (HR.out.cell0 1), hF.cell (HR.out.cell0 2), hF.cell (HR.out.cell0 3), hF.cell (HR.out.cell0 4), hF.cell (HR.out.cell0 5), hF.cell (HR.out.cell0 6), hF.cell (HR.out.cell0 7), hF.cell (HR.out.cell0 8), hF.cell (HR.out.cell0 9), Nat.lt_of_lt_of_le HR.out.bl hF.size⟩
  obtain ⟨c1, c2, c3, c4, c5, c6, c7, c8, c9, bl⟩ := CF.out w (Fr.refl _ _)
  have c10 := R.cell0 10
  have c11 := R.cell0 11
  have c12 := R.cell0 12
  simp only [vmCells, List.getElem?_toArray, List.getElem?_cons_succ, List.getElem?_cons_zero, Sl.v] at c10 c11 c12
  have n1 := S.vi.txt.p1
  have n2 := S.vi.txt.pl
  have n3 : 1 ≤ m.clos.length := by have := S.vi.kc; have := S.vi.c1; omega
  have n4 : m.clos.length ≤ 24 := by have := S.vi.kc; have := S.vi.cn; omega
  have n5 : 1 ≤ m.ths.length := by have := S.vi.kh; have := S.vi.h1; omega
  have n6 := S.vi.cu
  have n7 : m.upix.length ≤ 6120 := by have := S.up.1; omega
  have n8 := S.vi.ol
  have n9 : 1 ≤ m.tabs.length := by have := S.vi.kt; have := S.vi.t1; omega
  have n10 : m.tabs.length ≤ 12 := by have := S.vi.kt; have := S.vi.tn; omega
  obtain ⟨k, hk, ht⟩ := R.tabs
  have HTB : Hid (TabsRep w A.o A.bt A.bn A.ts m.tabs.length ((m.tabs ++ List.replicate k tab0).zip A.tl)) := ht
  have g1 : decide ((f : Int) < 0) = false := by rw [decide_eq_false_iff_not]; omega
  have g2 : decide (200 < m.out.length) = false := by rw [decide_eq_false_iff_not]; omega
  have g3 : decide (m.protos.length < 1) = false := by rw [decide_eq_false_iff_not]; omega
  have g4 : decide (13 < m.protos.length) = false := by rw [decide_eq_false_iff_not]; omega
  have g5 : decide (m.clos.length < 1) = false := by rw [decide_eq_false_iff_not]; omega
  have g6 : decide (24 < m.clos.length) = false := by rw [decide_eq_false_iff_not]; omega
  have g7 : decide (m.ths.length < 1) = false := by rw [decide_eq_false_iff_not]; omega
  have g8 : decide (m.upix.length < m.cells.length) = false := by rw [decide_eq_false_iff_not]; omega
  have g9 : decide (6120 < m.upix.length) = false := by rw [decide_eq_false_iff_not]; omega
  have g10 : decide (m.tabs.length < 1) = false := by rw [decide_eq_false_iff_not]; omega
  clear R S T0 hk ht
  go_enter Tryz.func89, Tryz.ntmps89
  go_wp2_with fail
  refine wp_region_tail 18 (by kernel_rfl) (by kernel_rfl) (fun _ _ _ _ _ h => h) ?_
  simp only [List.take_succ_cons, List.take_zero, List.drop_succ_cons, List.drop_zero]
  repeat go_big_quiet_step (fail)
  refine wpQuiet_nil ?_
  have HFD : Hid (Fr (fun _ => False) w w.drew) := (Fr.refl _ _).drew
  go_wp2_with fail
  refine (count_any (HTB.out.st (Stp.fresh (fun _ => False) A.o HFD.out) (fun _ _ x => x))).mono ?_
  rintro e' w1 ⟨rfl, rfl⟩
  go_wp2_with fail
  refine ck_protos HR.out HS.out HT0.out HFD.out ?ha ?s0 ?s1 ?s2 ?s3 ?s4 ?s5 (fun _ _ _ _ _ h => h) ?_
  case ha => exact ⟨by kernel_rfl, rfl, by kernel_rfl, by kernel_rfl, by kernel_rfl⟩
  case s0 => kernel_rfl
  case s1 => kernel_rfl
  case s2 => kernel_rfl
  case s3 => kernel_rfl
  case s4 => kernel_rfl
  case s5 => kernel_rfl
  intro a1 W1 ha h9 h10 h11 hF1
  obtain ⟨c1, c2, c3, c4, c5, c6, c7, c8, c9, bl⟩ := CF.out W1 hF1
  obtain ⟨u, ea, hu⟩ := form401 ha.size ha.df
  rw [hu 0 _ ha.t0, hu 1 _ ha.t1, hu 2 _ ha.t2, hu 9 _ h9, hu 10 _ h10, hu 11 _ h11] at ea
  subst ea
  have HF1 : Hid (Fr (fun _ => False) w W1) := hF1
  clear ha h9 h10 h11 hu hF1
  go_wp2_with fail
  refine ck_clos HR.out HS.out HT0.out HF1.out ?ha ?s0 ?s1 ?s2 ?s3 (fun _ _ _ _ _ h => h) ?_
  case ha => exact ⟨by kernel_rfl, rfl, by kernel_rfl, by kernel_rfl, by kernel_rfl⟩
  case s0 => kernel_rfl
  case s1 => kernel_rfl
  case s2 => kernel_rfl
  case s3 => kernel_rfl
  intro a2 W2 ha h9 hF2
  obtain ⟨c1, c2, c3, c4, c5, c6, c7, c8, c9, bl⟩ := CF.out W2 hF2
  obtain ⟨u, ea, hu⟩ := form401 ha.size ha.df
  rw [hu 0 _ ha.t0, hu 1 _ ha.t1, hu 2 _ ha.t2, hu 9 _ h9] at ea
  subst ea
  have HF2 : Hid (Fr (fun _ => False) w W2) := hF2
  clear ha h9 hu hF2
  go_wp2_with fail
  refine ck_upix HR.out HS.out HT0.out HF2.out ?ha ?s0 ?s1 ?s2 (fun _ _ _ _ _ h => h) ?_
  case ha => exact ⟨by kernel_rfl, rfl, by kernel_rfl, by kernel_rfl, by kernel_rfl⟩
  case s0 => kernel_rfl
  case s1 => kernel_rfl
  case s2 => kernel_rfl
  intro a3 W3 ha hF3
  obtain ⟨c1, c2, c3, c4, c5, c6, c7, c8, c9, bl⟩ := CF.out W3 hF3
  obtain ⟨u, ea, hu⟩ := form401 ha.size ha.df
  rw [hu 0 _ ha.t0, hu 1 _ ha.t1, hu 2 _ ha.t2] at ea
  subst ea
  have HF3 : Hid (Fr (fun _ => False) w W3) := hF3
  clear ha hu hF3
  go_wp2_with fail
  refine ck_ths HR.out HS.out HT0.out HF3.out ?ha ?s0 ?s1 ?s2 ?s3 (fun _ _ _ _ _ h => h) ?_
  case ha => exact ⟨by kernel_rfl, rfl, by kernel_rfl, by kernel_rfl, by kernel_rfl⟩
  case s0 => kernel_rfl
  case s1 => kernel_rfl
  case s2 => kernel_rfl
  case s3 => kernel_rfl
  intro a4 W4 ha h18 hF4
  have hop := open_sum HS.out.vi
  rw [hop] at h18
  obtain ⟨c1, c2, c3, c4, c5, c6, c7, c8, c9, bl⟩ := CF.out W4 hF4
  obtain ⟨u, ea, hu⟩ := form401 ha.size ha.df
  rw [hu 0 _ ha.t0, hu 1 _ ha.t1, hu 2 _ ha.t2, hu 18 _ h18] at ea
  subst ea
  have HF4 : Hid (Fr (fun _ => False) w W4) := hF4
  clear ha hu hF4 h18 hop
  go_wp2_with fail
  refine ck_cells HR.out HS.out HF4.out ?ha ?s0 ?s1 ?s2 ?s3 ?_
  case ha => exact ⟨by kernel_rfl, rfl, by kernel_rfl, by kernel_rfl, by kernel_rfl⟩
  case s0 => kernel_rfl
  case s1 => kernel_rfl
  case s2 => kernel_rfl
  case s3 => kernel_rfl
  intro a5 W5 ha h18 hF5
  obtain ⟨u, ea, hu⟩ := form401 ha.size ha.df
  rw [hu 0 _ ha.t0, hu 1 _ ha.t1, hu 2 _ ha.t2, hu 18 _ h18] at ea
  subst ea
  have HF5 : Hid (Fr (fun _ => False) w W5) := hF5
  have HR5 : Hid (VRep W5 A m f 0) := HR.out.fresh hF5
  clear ha hu hF5 h18
  go_wp2_with fail
  refine (checkVals_any HR5.out HS.out).mono ?_
  rintro e' w6 ⟨rfl, F6⟩
  have FIN2 : Hid (Q (.returned (.bool true)) w6) := FIN.out _ (HF5.out.trans F6 (fun _ _ x => x))
  clear F6
  go_wp2_with fail
  exact FIN2.out
end
theorem zip_tck {k : Nat} {ts : List TabD} {tl : List TbL} (h : ∀ t ∈ ts, TCk t) : ∀ x ∈ (ts ++ List.replicate k tab0).zip tl, TCk x.1 := by
  intro x hx
  have h1 : x.1 ∈ ts ++ List.replicate k tab0 := (List.of_mem_zip (a := x.1) (b := x.2) hx).1
  rcases List.mem_append.1 h1 with h2 | h2
  · exact h _ h2
  · rw [List.eq_of_mem_replicate h2]; exact TCk.nil
section
variable {w : World} {A : VL} {σ : St}
set_option maxRecDepth 100000
set_option maxHeartbeats 1000000
theorem check_all (R : VRep w A σ.m σ.f σ.e) (D : DI σ) : Calls Tryz.prog 58 #[.pointer (some ⟨A.b, 0, none⟩)] w fun e' w' => e' = .returned (.bool true) ∧ Fr (fun _ => False) w w' := by
  have c0 := R.cell0 0
  have c1 := R.cell0 1
  have bl := R.bl
  simp only [vmCells, List.getElem?_toArray, List.getElem?_cons_succ, List.getElem?_cons_zero] at c0 c1
  have HR : Hid (VRep w A σ.m σ.f σ.e) := R
  have HK : Hid (∀ W, VRep W A σ.m σ.f σ.e → Calls Tryz.prog 89 #[.pointer (some ⟨A.b, 0, none⟩), .int .i64 (-1), .int .i64 0] W fun e' w' => e' = .returned (.bool true) ∧ Fr (fun _ => False) W w') := fun W hW => by
    by_cases he : σ.e = 0
    · obtain ⟨⟨K, S⟩, T0⟩ := D.live he
      rw [he] at hW
      exact check_live hW S T0 D.fu
    · exact check_dead hW (D.dead he).1 he D.fu D.ol
  obtain ⟨k, hk, ht⟩ := R.tabs
  have HTB : Hid (TabsRep w A.o A.bt A.bn A.ts σ.m.tabs.length ((σ.m.tabs ++ List.replicate k tab0).zip A.tl)) := ht
  have HCK : Hid (∀ x ∈ (σ.m.tabs ++ List.replicate k tab0).zip A.tl, TCk x.1) := zip_tck (fun t ht => (D.tb t ht).2)
  have HL : Hid (((σ.m.tabs ++ List.replicate k tab0).zip A.tl).length ≤ 12) := by rw [List.length_zip]; have := hk.2; show min _ _ ≤ 12; omega
  clear R D ht hk
  go_enter Tryz.func58, Tryz.ntmps58
  go_wp2_with fail
  refine (numCheck_any HR.out.num).mono ?_
  rintro e' w1 ⟨rfl, hw1⟩
  rw [hw1]
  clear hw1 w1
  go_wp2_with fail
  refine (tabCheck_any HTB.out HCK.out HL.out).mono ?_
  rintro e' w1 ⟨rfl, F1⟩
  have HF1 : Hid (Fr (fun _ => False) w w1) := F1
  clear F1
  go_wp2_with fail
  refine (HK.out _ (HR.out.fresh HF1.out)).mono ?_
  rintro e' w2 ⟨rfl, F2⟩
  have HF2 : Hid (Fr (fun _ => False) w w2) := HF1.out.trans F2 (fun _ _ x => x)
  clear F2
  go_wp2_with fail
  go_ret
  exact ⟨rfl, HF2.out⟩
end
end Go.Proofs.Qxb6500574aGreatDoor
