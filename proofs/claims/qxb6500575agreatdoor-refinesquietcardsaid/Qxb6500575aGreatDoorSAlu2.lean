/-
  THE WALK of run.alu, a kind of opcode at a time. Written by tools/gen_alu.py.
-/
import Derived.Test.Qxb6500575aGreatDoorSAlu
import Derived.Test.Qxb6500575aGreatDoorXGrow
namespace Go.Proofs.Qxb6500575aGreatDoor
open Go Go.RowKit
set_option linter.unusedVariables false
set_option linter.unusedSimpArgs false

section
variable {σ : Type} {R : RP σ} {x : InD} {r : Frm} {rs : List Frm} {wA : World} {LA : InL} {KA : KL} {nA : Int} {dA : KD} {sA : σ} {st0 : List V}
/-- what the unit leaves -/
def AluPost (R : RP σ) (x : InD) (LA : InL) (KA : KL) (nA : Int) (dA : KD) (sA : σ) (st0 : List V) (to : UInt8) (q : Int × Int) (e : Ending) (w' : World) : Prop :=
  (e = .returned (.tuple #[]) ∧ ∃ L', RunW R w' L' KA { x with st := word to q.1 :: st0 } nA dA sA ∧ L'.fa = LA.fa ∧ q.2 = 0) ∨ (e = .panicked (trapV 11) ∧ RunW R w' LA KA { x with st := st0 } nA dA sA ∧ q.2 = 11)
theorem rnum105 {v : V} {st1 : List V} (hr : RunW R wA LA KA { x with st := v :: st1 } nA dA sA) (hfr : x.fr = r :: rs) (hk : v.Fits) (hf : r.floor ≤ st1.length) (hl : st1.length ≤ 1000) (hrl : rs.length ≤ 1000) (ht : v.ty = 105) :
    Calls Tryz.prog 101 #[.pointer (some ⟨R.bx, 0, none⟩), .int .u8 105] wA fun e w' => e = .returned (.int .i64 v.num) ∧ RunW R w' LA KA { x with st := st1 } nA dA sA := by
  have e : (((105 : UInt8).toNat : Nat) : Int) = 105 := by decide
  rw [← e, ← ht]
  refine (rnum_any hr.inst hk rfl hfr hf hl hrl).mono ?_
  rintro e w' ⟨h1, h2, h3⟩
  exact ⟨h1, hr.step h2 h3⟩
theorem rnum108 {v : V} {st1 : List V} (hr : RunW R wA LA KA { x with st := v :: st1 } nA dA sA) (hfr : x.fr = r :: rs) (hk : v.Fits) (hf : r.floor ≤ st1.length) (hl : st1.length ≤ 1000) (hrl : rs.length ≤ 1000) (ht : v.ty = 108) :
    Calls Tryz.prog 101 #[.pointer (some ⟨R.bx, 0, none⟩), .int .u8 108] wA fun e w' => e = .returned (.int .i64 v.num) ∧ RunW R w' LA KA { x with st := st1 } nA dA sA := by
  have e : (((108 : UInt8).toNat : Nat) : Int) = 108 := by decide
  rw [← e, ← ht]
  refine (rnum_any hr.inst hk rfl hfr hf hl hrl).mono ?_
  rintro e w' ⟨h1, h2, h3⟩
  exact ⟨h1, hr.step h2 h3⟩
set_option maxRecDepth 100000
set_option maxHeartbeats 800000
theorem ralu_eqz32 (mc : MachX) (op : Int) (hop : op = 29) {a : V} (hr : RunW R wA LA KA { x with st := a :: st0 } nA dA sA) (hfr : x.fr = r :: rs) (hfa : a.Fits) (hta : a.ty = 105) (hf : r.floor ≤ st0.length) (hl : st0.length ≤ 900) (hrl : rs.length ≤ 900) :
    Calls Tryz.prog 105 #[.pointer (some ⟨R.bx, 0, none⟩), .int .i64 op] wA (AluPost R x LA KA nA dA sA st0 105 (aluP op a.num 0)) := by
  subst hop
  have HR : Hid (RunW _ _ _ _ _ _ _ _) := hr
  have HL : Hid (st0.length ≤ 900) := hl
  clear hr
  go_enter Tryz.func105, Tryz.ntmps105
  go_wp2_with fail
  refine (rnum105 HR.out hfr hfa (by omega) (by omega) (by omega) hta).mono ?_
  rintro e w2 ⟨rfl, hr2⟩
  have HR2 : Hid (RunW _ _ _ _ _ _ _ _) := hr2
  have c1 := hr2.inst.here.cell 1
  simp at c1
  clear hr2 HR
  go_wp2_with fail
  refine (mc.alu 29 a.num 0 (V.num_fits hfa) (by omega) (by omega)).mono ?_
  rintro e w3 ⟨rfl, rfl⟩
  have hF : Fr (fun _ => False) w3 w3 := Fr.refl _ _
  obtain ⟨nn, HNN⟩ : ∃ nn, Hid (nn = (aluP 29 a.num 0).1) := ⟨_, rfl⟩
  obtain ⟨er, HER⟩ : ∃ er, Hid (er = (aluP 29 a.num 0).2) := ⟨_, rfl⟩
  rw [← HNN.out, ← HER.out]
  have her : er = 0 ∨ er = 11 := by rw [HER.out]; exact (aluP_ok (V.num_fits hfa)).2
  have hn : I64 nn := by rw [HNN.out]; exact (aluP_ok (V.num_fits hfa)).1
  have hr3 := HR2.out.fresh hF
  have c2 := hr3.inst.here.cell 2
  simp only [List.getElem?_toArray, List.getElem?_cons_succ, List.getElem?_cons_zero] at c2
  have k1 := hr3.inst.here.lt
  have HR3 : Hid (RunW _ _ _ _ _ _ _ _) := hr3
  clear hr3 hF HR2
  rcases her with rfl | rfl
  · go_wp2_with fail
    refine (need_ok _ _).mono ?_
    rintro e w4 ⟨rfl, rfl⟩
    go_wp2_with fail
    refine (need_ok _ _).mono ?_
    rintro e w4 ⟨rfl, rfl⟩
    go_wp2
    refine wp_region_wapp rowVal 7 (by kernel_rfl) (by kernel_rfl) (fun _ _ _ _ _ h => h) _ _ _ _ rfl (.tmp 76) 79 80 81 rfl rfl rfl rfl rfl rfl rfl _ _ _ HR3.out.inst.st (word 105 nn).val (by rw [V.cells]; rfl) (by decide) (by simp [V.cells, V.oneCell]) (by have := HL.out; simp only; omega) ?_
    intro gg cap w5 q1 q2 q3 q4
    obtain ⟨r1, r2, r3, r4, r5⟩ := HR3.out.inst.pushed (word 105 nn) q1 q2 q3 q4
    have FIN : Hid (RunW _ _ _ _ _ _ _ _) := HR3.out.step r4 r5
    have d2 := (r1 2).trans c2
    have e2 := r2 2
    clear q1 q2 q3 q4 r4 r5 r1 r2 HR3
    simp only [List.take_succ_cons, List.take_zero]
    repeat go_big_quiet_step (fail)
    refine wpQuiet_nil ⟨?_, by simp, by simp, rfl, ?_⟩
    · intro K hK
      go_wp2_with fail
      refine (word105 nn _).mono ?_
      rintro e w' ⟨rfl, rfl⟩
      go_wp2
      exact hK
    · go_wp2
      go_end0
      have fin := FIN.out
      rw [HNN.out] at fin
      exact .inl ⟨rfl, _, fin, rfl, HER.out.symm⟩
  · go_wp2_with fail
    refine (need_ok _ _).mono ?_
    rintro e w4 ⟨rfl, rfl⟩
    go_wp2_with fail
    refine (need_no 11 _).mono ?_
    rintro e w4 ⟨rfl, rfl⟩
    go_wp2
    exact ⟨rfl, .inr ⟨rfl, HR3.out, HER.out.symm⟩⟩
theorem ralu_eqz64 (mc : MachX) (op : Int) (hop : op = 30) {a : V} (hr : RunW R wA LA KA { x with st := a :: st0 } nA dA sA) (hfr : x.fr = r :: rs) (hfa : a.Fits) (hta : a.ty = 108) (hf : r.floor ≤ st0.length) (hl : st0.length ≤ 900) (hrl : rs.length ≤ 900) :
    Calls Tryz.prog 105 #[.pointer (some ⟨R.bx, 0, none⟩), .int .i64 op] wA (AluPost R x LA KA nA dA sA st0 105 (aluP op a.num 0)) := by
  subst hop
  have HR : Hid (RunW _ _ _ _ _ _ _ _) := hr
  have HL : Hid (st0.length ≤ 900) := hl
  clear hr
  go_enter Tryz.func105, Tryz.ntmps105
  go_wp2_with fail
  refine (rnum108 HR.out hfr hfa (by omega) (by omega) (by omega) hta).mono ?_
  rintro e w2 ⟨rfl, hr2⟩
  have HR2 : Hid (RunW _ _ _ _ _ _ _ _) := hr2
  have c1 := hr2.inst.here.cell 1
  simp at c1
  clear hr2 HR
  go_wp2_with fail
  refine (mc.alu 30 a.num 0 (V.num_fits hfa) (by omega) (by omega)).mono ?_
  rintro e w3 ⟨rfl, rfl⟩
  have hF : Fr (fun _ => False) w3 w3 := Fr.refl _ _
  obtain ⟨nn, HNN⟩ : ∃ nn, Hid (nn = (aluP 30 a.num 0).1) := ⟨_, rfl⟩
  obtain ⟨er, HER⟩ : ∃ er, Hid (er = (aluP 30 a.num 0).2) := ⟨_, rfl⟩
  rw [← HNN.out, ← HER.out]
  have her : er = 0 ∨ er = 11 := by rw [HER.out]; exact (aluP_ok (V.num_fits hfa)).2
  have hn : I64 nn := by rw [HNN.out]; exact (aluP_ok (V.num_fits hfa)).1
  have hr3 := HR2.out.fresh hF
  have c2 := hr3.inst.here.cell 2
  simp only [List.getElem?_toArray, List.getElem?_cons_succ, List.getElem?_cons_zero] at c2
  have k1 := hr3.inst.here.lt
  have HR3 : Hid (RunW _ _ _ _ _ _ _ _) := hr3
  clear hr3 hF HR2
  rcases her with rfl | rfl
  · go_wp2_with fail
    refine (need_ok _ _).mono ?_
    rintro e w4 ⟨rfl, rfl⟩
    go_wp2_with fail
    refine (need_ok _ _).mono ?_
    rintro e w4 ⟨rfl, rfl⟩
    go_wp2
    refine wp_region_wapp rowVal 7 (by kernel_rfl) (by kernel_rfl) (fun _ _ _ _ _ h => h) _ _ _ _ rfl (.tmp 76) 79 80 81 rfl rfl rfl rfl rfl rfl rfl _ _ _ HR3.out.inst.st (word 105 nn).val (by rw [V.cells]; rfl) (by decide) (by simp [V.cells, V.oneCell]) (by have := HL.out; simp only; omega) ?_
    intro gg cap w5 q1 q2 q3 q4
    obtain ⟨r1, r2, r3, r4, r5⟩ := HR3.out.inst.pushed (word 105 nn) q1 q2 q3 q4
    have FIN : Hid (RunW _ _ _ _ _ _ _ _) := HR3.out.step r4 r5
    have d2 := (r1 2).trans c2
    have e2 := r2 2
    clear q1 q2 q3 q4 r4 r5 r1 r2 HR3
    simp only [List.take_succ_cons, List.take_zero]
    repeat go_big_quiet_step (fail)
    refine wpQuiet_nil ⟨?_, by simp, by simp, rfl, ?_⟩
    · intro K hK
      go_wp2_with fail
      refine (word105 nn _).mono ?_
      rintro e w' ⟨rfl, rfl⟩
      go_wp2
      exact hK
    · go_wp2
      go_end0
      have fin := FIN.out
      rw [HNN.out] at fin
      exact .inl ⟨rfl, _, fin, rfl, HER.out.symm⟩
  · go_wp2_with fail
    refine (need_ok _ _).mono ?_
    rintro e w4 ⟨rfl, rfl⟩
    go_wp2_with fail
    refine (need_no 11 _).mono ?_
    rintro e w4 ⟨rfl, rfl⟩
    go_wp2
    exact ⟨rfl, .inr ⟨rfl, HR3.out, HER.out.symm⟩⟩
theorem ralu_wrap (mc : MachX) (op : Int) (hop : op = 31) {a : V} (hr : RunW R wA LA KA { x with st := a :: st0 } nA dA sA) (hfr : x.fr = r :: rs) (hfa : a.Fits) (hta : a.ty = 108) (hf : r.floor ≤ st0.length) (hl : st0.length ≤ 900) (hrl : rs.length ≤ 900) :
    Calls Tryz.prog 105 #[.pointer (some ⟨R.bx, 0, none⟩), .int .i64 op] wA (AluPost R x LA KA nA dA sA st0 105 (aluP op a.num 0)) := by
  subst hop
  have HR : Hid (RunW _ _ _ _ _ _ _ _) := hr
  have HL : Hid (st0.length ≤ 900) := hl
  clear hr
  go_enter Tryz.func105, Tryz.ntmps105
  go_wp2_with fail
  refine (rnum108 HR.out hfr hfa (by omega) (by omega) (by omega) hta).mono ?_
  rintro e w2 ⟨rfl, hr2⟩
  have HR2 : Hid (RunW _ _ _ _ _ _ _ _) := hr2
  have c1 := hr2.inst.here.cell 1
  simp at c1
  clear hr2 HR
  go_wp2_with fail
  refine (mc.alu 31 a.num 0 (V.num_fits hfa) (by omega) (by omega)).mono ?_
  rintro e w3 ⟨rfl, rfl⟩
  have hF : Fr (fun _ => False) w3 w3 := Fr.refl _ _
  obtain ⟨nn, HNN⟩ : ∃ nn, Hid (nn = (aluP 31 a.num 0).1) := ⟨_, rfl⟩
  obtain ⟨er, HER⟩ : ∃ er, Hid (er = (aluP 31 a.num 0).2) := ⟨_, rfl⟩
  rw [← HNN.out, ← HER.out]
  have her : er = 0 ∨ er = 11 := by rw [HER.out]; exact (aluP_ok (V.num_fits hfa)).2
  have hn : I64 nn := by rw [HNN.out]; exact (aluP_ok (V.num_fits hfa)).1
  have hr3 := HR2.out.fresh hF
  have c2 := hr3.inst.here.cell 2
  simp only [List.getElem?_toArray, List.getElem?_cons_succ, List.getElem?_cons_zero] at c2
  have k1 := hr3.inst.here.lt
  have HR3 : Hid (RunW _ _ _ _ _ _ _ _) := hr3
  clear hr3 hF HR2
  rcases her with rfl | rfl
  · go_wp2_with fail
    refine (need_ok _ _).mono ?_
    rintro e w4 ⟨rfl, rfl⟩
    go_wp2_with fail
    refine (need_ok _ _).mono ?_
    rintro e w4 ⟨rfl, rfl⟩
    go_wp2
    refine wp_region_wapp rowVal 7 (by kernel_rfl) (by kernel_rfl) (fun _ _ _ _ _ h => h) _ _ _ _ rfl (.tmp 76) 79 80 81 rfl rfl rfl rfl rfl rfl rfl _ _ _ HR3.out.inst.st (word 105 nn).val (by rw [V.cells]; rfl) (by decide) (by simp [V.cells, V.oneCell]) (by have := HL.out; simp only; omega) ?_
    intro gg cap w5 q1 q2 q3 q4
    obtain ⟨r1, r2, r3, r4, r5⟩ := HR3.out.inst.pushed (word 105 nn) q1 q2 q3 q4
    have FIN : Hid (RunW _ _ _ _ _ _ _ _) := HR3.out.step r4 r5
    have d2 := (r1 2).trans c2
    have e2 := r2 2
    clear q1 q2 q3 q4 r4 r5 r1 r2 HR3
    simp only [List.take_succ_cons, List.take_zero]
    repeat go_big_quiet_step (fail)
    refine wpQuiet_nil ⟨?_, by simp, by simp, rfl, ?_⟩
    · intro K hK
      go_wp2_with fail
      refine (word105 nn _).mono ?_
      rintro e w' ⟨rfl, rfl⟩
      go_wp2
      exact hK
    · go_wp2
      go_end0
      have fin := FIN.out
      rw [HNN.out] at fin
      exact .inl ⟨rfl, _, fin, rfl, HER.out.symm⟩
  · go_wp2_with fail
    refine (need_ok _ _).mono ?_
    rintro e w4 ⟨rfl, rfl⟩
    go_wp2_with fail
    refine (need_no 11 _).mono ?_
    rintro e w4 ⟨rfl, rfl⟩
    go_wp2
    exact ⟨rfl, .inr ⟨rfl, HR3.out, HER.out.symm⟩⟩
theorem ralu_extS (mc : MachX) (op : Int) (hop : op = 32) {a : V} (hr : RunW R wA LA KA { x with st := a :: st0 } nA dA sA) (hfr : x.fr = r :: rs) (hfa : a.Fits) (hta : a.ty = 105) (hf : r.floor ≤ st0.length) (hl : st0.length ≤ 900) (hrl : rs.length ≤ 900) :
    Calls Tryz.prog 105 #[.pointer (some ⟨R.bx, 0, none⟩), .int .i64 op] wA (AluPost R x LA KA nA dA sA st0 108 (aluP op a.num 0)) := by
  subst hop
  have HR : Hid (RunW _ _ _ _ _ _ _ _) := hr
  have HL : Hid (st0.length ≤ 900) := hl
  clear hr
  go_enter Tryz.func105, Tryz.ntmps105
  go_wp2_with fail
  refine (rnum105 HR.out hfr hfa (by omega) (by omega) (by omega) hta).mono ?_
  rintro e w2 ⟨rfl, hr2⟩
  have HR2 : Hid (RunW _ _ _ _ _ _ _ _) := hr2
  have c1 := hr2.inst.here.cell 1
  simp at c1
  clear hr2 HR
  go_wp2_with fail
  refine (mc.alu 32 a.num 0 (V.num_fits hfa) (by omega) (by omega)).mono ?_
  rintro e w3 ⟨rfl, rfl⟩
  have hF : Fr (fun _ => False) w3 w3 := Fr.refl _ _
  obtain ⟨nn, HNN⟩ : ∃ nn, Hid (nn = (aluP 32 a.num 0).1) := ⟨_, rfl⟩
  obtain ⟨er, HER⟩ : ∃ er, Hid (er = (aluP 32 a.num 0).2) := ⟨_, rfl⟩
  rw [← HNN.out, ← HER.out]
  have her : er = 0 ∨ er = 11 := by rw [HER.out]; exact (aluP_ok (V.num_fits hfa)).2
  have hn : I64 nn := by rw [HNN.out]; exact (aluP_ok (V.num_fits hfa)).1
  have hr3 := HR2.out.fresh hF
  have c2 := hr3.inst.here.cell 2
  simp only [List.getElem?_toArray, List.getElem?_cons_succ, List.getElem?_cons_zero] at c2
  have k1 := hr3.inst.here.lt
  have HR3 : Hid (RunW _ _ _ _ _ _ _ _) := hr3
  clear hr3 hF HR2
  rcases her with rfl | rfl
  · go_wp2_with fail
    refine (need_ok _ _).mono ?_
    rintro e w4 ⟨rfl, rfl⟩
    go_wp2_with fail
    refine (need_ok _ _).mono ?_
    rintro e w4 ⟨rfl, rfl⟩
    go_wp2
    refine wp_region_wapp rowVal 7 (by kernel_rfl) (by kernel_rfl) (fun _ _ _ _ _ h => h) _ _ _ _ rfl (.tmp 76) 79 80 81 rfl rfl rfl rfl rfl rfl rfl _ _ _ HR3.out.inst.st (word 108 nn).val (by rw [V.cells]; rfl) (by decide) (by simp [V.cells, V.oneCell]) (by have := HL.out; simp only; omega) ?_
    intro gg cap w5 q1 q2 q3 q4
    obtain ⟨r1, r2, r3, r4, r5⟩ := HR3.out.inst.pushed (word 108 nn) q1 q2 q3 q4
    have FIN : Hid (RunW _ _ _ _ _ _ _ _) := HR3.out.step r4 r5
    have d2 := (r1 2).trans c2
    have e2 := r2 2
    clear q1 q2 q3 q4 r4 r5 r1 r2 HR3
    simp only [List.take_succ_cons, List.take_zero]
    repeat go_big_quiet_step (fail)
    refine wpQuiet_nil ⟨?_, by simp, by simp, rfl, ?_⟩
    · intro K hK
      go_wp2_with fail
      refine (word108 nn _).mono ?_
      rintro e w' ⟨rfl, rfl⟩
      go_wp2
      exact hK
    · go_wp2
      go_end0
      have fin := FIN.out
      rw [HNN.out] at fin
      exact .inl ⟨rfl, _, fin, rfl, HER.out.symm⟩
  · go_wp2_with fail
    refine (need_ok _ _).mono ?_
    rintro e w4 ⟨rfl, rfl⟩
    go_wp2_with fail
    refine (need_no 11 _).mono ?_
    rintro e w4 ⟨rfl, rfl⟩
    go_wp2
    exact ⟨rfl, .inr ⟨rfl, HR3.out, HER.out.symm⟩⟩
theorem ralu_extU (mc : MachX) (op : Int) (hop : op = 33) {a : V} (hr : RunW R wA LA KA { x with st := a :: st0 } nA dA sA) (hfr : x.fr = r :: rs) (hfa : a.Fits) (hta : a.ty = 105) (hf : r.floor ≤ st0.length) (hl : st0.length ≤ 900) (hrl : rs.length ≤ 900) :
    Calls Tryz.prog 105 #[.pointer (some ⟨R.bx, 0, none⟩), .int .i64 op] wA (AluPost R x LA KA nA dA sA st0 108 (aluP op a.num 0)) := by
  subst hop
  have HR : Hid (RunW _ _ _ _ _ _ _ _) := hr
  have HL : Hid (st0.length ≤ 900) := hl
  clear hr
  go_enter Tryz.func105, Tryz.ntmps105
  go_wp2_with fail
  refine (rnum105 HR.out hfr hfa (by omega) (by omega) (by omega) hta).mono ?_
  rintro e w2 ⟨rfl, hr2⟩
  have HR2 : Hid (RunW _ _ _ _ _ _ _ _) := hr2
  have c1 := hr2.inst.here.cell 1
  simp at c1
  clear hr2 HR
  go_wp2_with fail
  refine (mc.alu 33 a.num 0 (V.num_fits hfa) (by omega) (by omega)).mono ?_
  rintro e w3 ⟨rfl, rfl⟩
  have hF : Fr (fun _ => False) w3 w3 := Fr.refl _ _
  obtain ⟨nn, HNN⟩ : ∃ nn, Hid (nn = (aluP 33 a.num 0).1) := ⟨_, rfl⟩
  obtain ⟨er, HER⟩ : ∃ er, Hid (er = (aluP 33 a.num 0).2) := ⟨_, rfl⟩
  rw [← HNN.out, ← HER.out]
  have her : er = 0 ∨ er = 11 := by rw [HER.out]; exact (aluP_ok (V.num_fits hfa)).2
  have hn : I64 nn := by rw [HNN.out]; exact (aluP_ok (V.num_fits hfa)).1
  have hr3 := HR2.out.fresh hF
  have c2 := hr3.inst.here.cell 2
  simp only [List.getElem?_toArray, List.getElem?_cons_succ, List.getElem?_cons_zero] at c2
  have k1 := hr3.inst.here.lt
  have HR3 : Hid (RunW _ _ _ _ _ _ _ _) := hr3
  clear hr3 hF HR2
  rcases her with rfl | rfl
  · go_wp2_with fail
    refine (need_ok _ _).mono ?_
    rintro e w4 ⟨rfl, rfl⟩
    go_wp2_with fail
    refine (need_ok _ _).mono ?_
    rintro e w4 ⟨rfl, rfl⟩
    go_wp2
    refine wp_region_wapp rowVal 7 (by kernel_rfl) (by kernel_rfl) (fun _ _ _ _ _ h => h) _ _ _ _ rfl (.tmp 76) 79 80 81 rfl rfl rfl rfl rfl rfl rfl _ _ _ HR3.out.inst.st (word 108 nn).val (by rw [V.cells]; rfl) (by decide) (by simp [V.cells, V.oneCell]) (by have := HL.out; simp only; omega) ?_
    intro gg cap w5 q1 q2 q3 q4
    obtain ⟨r1, r2, r3, r4, r5⟩ := HR3.out.inst.pushed (word 108 nn) q1 q2 q3 q4
    have FIN : Hid (RunW _ _ _ _ _ _ _ _) := HR3.out.step r4 r5
    have d2 := (r1 2).trans c2
    have e2 := r2 2
    clear q1 q2 q3 q4 r4 r5 r1 r2 HR3
    simp only [List.take_succ_cons, List.take_zero]
    repeat go_big_quiet_step (fail)
    refine wpQuiet_nil ⟨?_, by simp, by simp, rfl, ?_⟩
    · intro K hK
      go_wp2_with fail
      refine (word108 nn _).mono ?_
      rintro e w' ⟨rfl, rfl⟩
      go_wp2
      exact hK
    · go_wp2
      go_end0
      have fin := FIN.out
      rw [HNN.out] at fin
      exact .inl ⟨rfl, _, fin, rfl, HER.out.symm⟩
  · go_wp2_with fail
    refine (need_ok _ _).mono ?_
    rintro e w4 ⟨rfl, rfl⟩
    go_wp2_with fail
    refine (need_no 11 _).mono ?_
    rintro e w4 ⟨rfl, rfl⟩
    go_wp2
    exact ⟨rfl, .inr ⟨rfl, HR3.out, HER.out.symm⟩⟩
theorem ralu_bin32 (mc : MachX) (op : Int) (hop : 40 ≤ op ∧ op < 56) {a b : V} (hr : RunW R wA LA KA { x with st := b :: a :: st0 } nA dA sA) (hfr : x.fr = r :: rs) (hfa : a.Fits) (hta : a.ty = 105) (hfb : b.Fits) (htb : b.ty = 105) (hf : r.floor ≤ st0.length) (hl : st0.length ≤ 900) (hrl : rs.length ≤ 900) :
    Calls Tryz.prog 105 #[.pointer (some ⟨R.bx, 0, none⟩), .int .i64 op] wA (AluPost R x LA KA nA dA sA st0 105 (aluP op a.num b.num)) := by
  obtain ⟨ho1, ho2⟩ := hop
  have g30 : (op == 30) = false := beq_eq_false_iff_ne.2 (by omega)
  have g31 : (op == 31) = false := beq_eq_false_iff_ne.2 (by omega)
  have g32 : (op == 32) = false := beq_eq_false_iff_ne.2 (by omega)
  have g33 : (op == 33) = false := beq_eq_false_iff_ne.2 (by omega)
  have HR : Hid (RunW _ _ _ _ _ _ _ _) := hr
  have HL : Hid (st0.length ≤ 900) := hl
  clear hr
  go_enter Tryz.func105, Tryz.ntmps105
  go_wp2_with fail
  refine (rnum105 HR.out hfr hfb (by simp; omega) (by simp; omega) (by omega) htb).mono ?_
  rintro e w1 ⟨rfl, hr1⟩
  have HR1 : Hid (RunW _ _ _ _ _ _ _ _) := hr1
  clear hr1 HR
  go_wp2_with fail
  refine (rnum105 HR1.out hfr hfa (by omega) (by omega) (by omega) hta).mono ?_
  rintro e w2 ⟨rfl, hr2⟩
  have HR2 : Hid (RunW _ _ _ _ _ _ _ _) := hr2
  have c1 := hr2.inst.here.cell 1
  simp at c1
  clear hr2 HR1
  go_wp2_with fail
  refine (mc.alu op a.num b.num (V.num_fits hfa) (V.num_fits hfb) (by omega)).mono ?_
  rintro e w3 ⟨rfl, rfl⟩
  have hF : Fr (fun _ => False) w3 w3 := Fr.refl _ _
  obtain ⟨nn, HNN⟩ : ∃ nn, Hid (nn = (aluP op a.num b.num).1) := ⟨_, rfl⟩
  obtain ⟨er, HER⟩ : ∃ er, Hid (er = (aluP op a.num b.num).2) := ⟨_, rfl⟩
  rw [← HNN.out, ← HER.out]
  have her : er = 0 ∨ er = 11 := by rw [HER.out]; exact (aluP_ok (V.num_fits hfa)).2
  have hn : I64 nn := by rw [HNN.out]; exact (aluP_ok (V.num_fits hfa)).1
  have hr3 := HR2.out.fresh hF
  have c2 := hr3.inst.here.cell 2
  simp only [List.getElem?_toArray, List.getElem?_cons_succ, List.getElem?_cons_zero] at c2
  have k1 := hr3.inst.here.lt
  have HR3 : Hid (RunW _ _ _ _ _ _ _ _) := hr3
  clear hr3 hF HR2
  rcases her with rfl | rfl
  · go_wp2_with fail
    refine (need_ok _ _).mono ?_
    rintro e w4 ⟨rfl, rfl⟩
    go_wp2_with fail
    refine (need_ok _ _).mono ?_
    rintro e w4 ⟨rfl, rfl⟩
    go_wp2
    refine wp_region_wapp rowVal 7 (by kernel_rfl) (by kernel_rfl) (fun _ _ _ _ _ h => h) _ _ _ _ rfl (.tmp 76) 79 80 81 rfl rfl rfl rfl rfl rfl rfl _ _ _ HR3.out.inst.st (word 105 nn).val (by rw [V.cells]; rfl) (by decide) (by simp [V.cells, V.oneCell]) (by have := HL.out; simp only; omega) ?_
    intro gg cap w5 q1 q2 q3 q4
    obtain ⟨r1, r2, r3, r4, r5⟩ := HR3.out.inst.pushed (word 105 nn) q1 q2 q3 q4
    have FIN : Hid (RunW _ _ _ _ _ _ _ _) := HR3.out.step r4 r5
    have d2 := (r1 2).trans c2
    have e2 := r2 2
    clear q1 q2 q3 q4 r4 r5 r1 r2 HR3
    simp only [List.take_succ_cons, List.take_zero]
    repeat go_big_quiet_step (fail)
    refine wpQuiet_nil ⟨?_, by simp, by simp, rfl, ?_⟩
    · intro K hK
      go_wp2_with fail
      refine (word105 nn _).mono ?_
      rintro e w' ⟨rfl, rfl⟩
      go_wp2
      exact hK
    · go_wp2
      go_end0
      have fin := FIN.out
      rw [HNN.out] at fin
      exact .inl ⟨rfl, _, fin, rfl, HER.out.symm⟩
  · go_wp2_with fail
    refine (need_ok _ _).mono ?_
    rintro e w4 ⟨rfl, rfl⟩
    go_wp2_with fail
    refine (need_no 11 _).mono ?_
    rintro e w4 ⟨rfl, rfl⟩
    go_wp2
    exact ⟨rfl, .inr ⟨rfl, HR3.out, HER.out.symm⟩⟩
theorem ralu_bin64 (mc : MachX) (op : Int) (hop : 60 ≤ op ∧ op < 73) {a b : V} (hr : RunW R wA LA KA { x with st := b :: a :: st0 } nA dA sA) (hfr : x.fr = r :: rs) (hfa : a.Fits) (hta : a.ty = 108) (hfb : b.Fits) (htb : b.ty = 108) (hf : r.floor ≤ st0.length) (hl : st0.length ≤ 900) (hrl : rs.length ≤ 900) :
    Calls Tryz.prog 105 #[.pointer (some ⟨R.bx, 0, none⟩), .int .i64 op] wA (AluPost R x LA KA nA dA sA st0 108 (aluP op a.num b.num)) := by
  obtain ⟨ho1, ho2⟩ := hop
  have g30 : (op == 30) = false := beq_eq_false_iff_ne.2 (by omega)
  have g31 : (op == 31) = false := beq_eq_false_iff_ne.2 (by omega)
  have g32 : (op == 32) = false := beq_eq_false_iff_ne.2 (by omega)
  have g33 : (op == 33) = false := beq_eq_false_iff_ne.2 (by omega)
  have HR : Hid (RunW _ _ _ _ _ _ _ _) := hr
  have HL : Hid (st0.length ≤ 900) := hl
  clear hr
  go_enter Tryz.func105, Tryz.ntmps105
  go_wp2_with fail
  refine (rnum108 HR.out hfr hfb (by simp; omega) (by simp; omega) (by omega) htb).mono ?_
  rintro e w1 ⟨rfl, hr1⟩
  have HR1 : Hid (RunW _ _ _ _ _ _ _ _) := hr1
  clear hr1 HR
  go_wp2_with fail
  refine (rnum108 HR1.out hfr hfa (by omega) (by omega) (by omega) hta).mono ?_
  rintro e w2 ⟨rfl, hr2⟩
  have HR2 : Hid (RunW _ _ _ _ _ _ _ _) := hr2
  have c1 := hr2.inst.here.cell 1
  simp at c1
  clear hr2 HR1
  go_wp2_with fail
  refine (mc.alu op a.num b.num (V.num_fits hfa) (V.num_fits hfb) (by omega)).mono ?_
  rintro e w3 ⟨rfl, rfl⟩
  have hF : Fr (fun _ => False) w3 w3 := Fr.refl _ _
  obtain ⟨nn, HNN⟩ : ∃ nn, Hid (nn = (aluP op a.num b.num).1) := ⟨_, rfl⟩
  obtain ⟨er, HER⟩ : ∃ er, Hid (er = (aluP op a.num b.num).2) := ⟨_, rfl⟩
  rw [← HNN.out, ← HER.out]
  have her : er = 0 ∨ er = 11 := by rw [HER.out]; exact (aluP_ok (V.num_fits hfa)).2
  have hn : I64 nn := by rw [HNN.out]; exact (aluP_ok (V.num_fits hfa)).1
  have hr3 := HR2.out.fresh hF
  have c2 := hr3.inst.here.cell 2
  simp only [List.getElem?_toArray, List.getElem?_cons_succ, List.getElem?_cons_zero] at c2
  have k1 := hr3.inst.here.lt
  have HR3 : Hid (RunW _ _ _ _ _ _ _ _) := hr3
  clear hr3 hF HR2
  rcases her with rfl | rfl
  · go_wp2_with fail
    refine (need_ok _ _).mono ?_
    rintro e w4 ⟨rfl, rfl⟩
    go_wp2_with fail
    refine (need_ok _ _).mono ?_
    rintro e w4 ⟨rfl, rfl⟩
    go_wp2
    refine wp_region_wapp rowVal 7 (by kernel_rfl) (by kernel_rfl) (fun _ _ _ _ _ h => h) _ _ _ _ rfl (.tmp 76) 79 80 81 rfl rfl rfl rfl rfl rfl rfl _ _ _ HR3.out.inst.st (word 108 nn).val (by rw [V.cells]; rfl) (by decide) (by simp [V.cells, V.oneCell]) (by have := HL.out; simp only; omega) ?_
    intro gg cap w5 q1 q2 q3 q4
    obtain ⟨r1, r2, r3, r4, r5⟩ := HR3.out.inst.pushed (word 108 nn) q1 q2 q3 q4
    have FIN : Hid (RunW _ _ _ _ _ _ _ _) := HR3.out.step r4 r5
    have d2 := (r1 2).trans c2
    have e2 := r2 2
    clear q1 q2 q3 q4 r4 r5 r1 r2 HR3
    simp only [List.take_succ_cons, List.take_zero]
    repeat go_big_quiet_step (fail)
    refine wpQuiet_nil ⟨?_, by simp, by simp, rfl, ?_⟩
    · intro K hK
      go_wp2_with fail
      refine (word108 nn _).mono ?_
      rintro e w' ⟨rfl, rfl⟩
      go_wp2
      exact hK
    · go_wp2
      go_end0
      have fin := FIN.out
      rw [HNN.out] at fin
      exact .inl ⟨rfl, _, fin, rfl, HER.out.symm⟩
  · go_wp2_with fail
    refine (need_ok _ _).mono ?_
    rintro e w4 ⟨rfl, rfl⟩
    go_wp2_with fail
    refine (need_no 11 _).mono ?_
    rintro e w4 ⟨rfl, rfl⟩
    go_wp2
    exact ⟨rfl, .inr ⟨rfl, HR3.out, HER.out.symm⟩⟩
theorem ralu_cmp64 (mc : MachX) (op : Int) (hop : 73 ≤ op ∧ op < 76) {a b : V} (hr : RunW R wA LA KA { x with st := b :: a :: st0 } nA dA sA) (hfr : x.fr = r :: rs) (hfa : a.Fits) (hta : a.ty = 108) (hfb : b.Fits) (htb : b.ty = 108) (hf : r.floor ≤ st0.length) (hl : st0.length ≤ 900) (hrl : rs.length ≤ 900) :
    Calls Tryz.prog 105 #[.pointer (some ⟨R.bx, 0, none⟩), .int .i64 op] wA (AluPost R x LA KA nA dA sA st0 105 (aluP op a.num b.num)) := by
  obtain ⟨ho1, ho2⟩ := hop
  have g30 : (op == 30) = false := beq_eq_false_iff_ne.2 (by omega)
  have g31 : (op == 31) = false := beq_eq_false_iff_ne.2 (by omega)
  have g32 : (op == 32) = false := beq_eq_false_iff_ne.2 (by omega)
  have g33 : (op == 33) = false := beq_eq_false_iff_ne.2 (by omega)
  have HR : Hid (RunW _ _ _ _ _ _ _ _) := hr
  have HL : Hid (st0.length ≤ 900) := hl
  clear hr
  go_enter Tryz.func105, Tryz.ntmps105
  go_wp2_with fail
  refine (rnum108 HR.out hfr hfb (by simp; omega) (by simp; omega) (by omega) htb).mono ?_
  rintro e w1 ⟨rfl, hr1⟩
  have HR1 : Hid (RunW _ _ _ _ _ _ _ _) := hr1
  clear hr1 HR
  go_wp2_with fail
  refine (rnum108 HR1.out hfr hfa (by omega) (by omega) (by omega) hta).mono ?_
  rintro e w2 ⟨rfl, hr2⟩
  have HR2 : Hid (RunW _ _ _ _ _ _ _ _) := hr2
  have c1 := hr2.inst.here.cell 1
  simp at c1
  clear hr2 HR1
  go_wp2_with fail
  refine (mc.alu op a.num b.num (V.num_fits hfa) (V.num_fits hfb) (by omega)).mono ?_
  rintro e w3 ⟨rfl, rfl⟩
  have hF : Fr (fun _ => False) w3 w3 := Fr.refl _ _
  obtain ⟨nn, HNN⟩ : ∃ nn, Hid (nn = (aluP op a.num b.num).1) := ⟨_, rfl⟩
  obtain ⟨er, HER⟩ : ∃ er, Hid (er = (aluP op a.num b.num).2) := ⟨_, rfl⟩
  rw [← HNN.out, ← HER.out]
  have her : er = 0 ∨ er = 11 := by rw [HER.out]; exact (aluP_ok (V.num_fits hfa)).2
  have hn : I64 nn := by rw [HNN.out]; exact (aluP_ok (V.num_fits hfa)).1
  have hr3 := HR2.out.fresh hF
  have c2 := hr3.inst.here.cell 2
  simp only [List.getElem?_toArray, List.getElem?_cons_succ, List.getElem?_cons_zero] at c2
  have k1 := hr3.inst.here.lt
  have HR3 : Hid (RunW _ _ _ _ _ _ _ _) := hr3
  clear hr3 hF HR2
  rcases her with rfl | rfl
  · go_wp2_with fail
    refine (need_ok _ _).mono ?_
    rintro e w4 ⟨rfl, rfl⟩
    go_wp2_with fail
    refine (need_ok _ _).mono ?_
    rintro e w4 ⟨rfl, rfl⟩
    go_wp2
    refine wp_region_wapp rowVal 7 (by kernel_rfl) (by kernel_rfl) (fun _ _ _ _ _ h => h) _ _ _ _ rfl (.tmp 76) 79 80 81 rfl rfl rfl rfl rfl rfl rfl _ _ _ HR3.out.inst.st (word 105 nn).val (by rw [V.cells]; rfl) (by decide) (by simp [V.cells, V.oneCell]) (by have := HL.out; simp only; omega) ?_
    intro gg cap w5 q1 q2 q3 q4
    obtain ⟨r1, r2, r3, r4, r5⟩ := HR3.out.inst.pushed (word 105 nn) q1 q2 q3 q4
    have FIN : Hid (RunW _ _ _ _ _ _ _ _) := HR3.out.step r4 r5
    have d2 := (r1 2).trans c2
    have e2 := r2 2
    clear q1 q2 q3 q4 r4 r5 r1 r2 HR3
    simp only [List.take_succ_cons, List.take_zero]
    repeat go_big_quiet_step (fail)
    refine wpQuiet_nil ⟨?_, by simp, by simp, rfl, ?_⟩
    · intro K hK
      go_wp2_with fail
      refine (word105 nn _).mono ?_
      rintro e w' ⟨rfl, rfl⟩
      go_wp2
      exact hK
    · go_wp2
      go_end0
      have fin := FIN.out
      rw [HNN.out] at fin
      exact .inl ⟨rfl, _, fin, rfl, HER.out.symm⟩
  · go_wp2_with fail
    refine (need_ok _ _).mono ?_
    rintro e w4 ⟨rfl, rfl⟩
    go_wp2_with fail
    refine (need_no 11 _).mono ?_
    rintro e w4 ⟨rfl, rfl⟩
    go_wp2
    exact ⟨rfl, .inr ⟨rfl, HR3.out, HER.out.symm⟩⟩
end
end Go.Proofs.Qxb6500575aGreatDoor
