/-
  THE WALK of vmlaw: Probe: registers that fit.
-/
import Derived.Test.Qxb6500579aGreatULawQ
namespace Go.Proofs.Qxb6500579aGreat
open Go Go.RowKit
set_option linter.unusedVariables false
set_option linter.unusedSimpArgs false
section
variable {w : World} {A : VL} {σ : St} {r : RegD} {cm0 cm1 : VMD} {cm2 cm3 : Vl → Vl → VMD} {cm4 : Vl → Vl → Nat → VMD}
set_option maxRecDepth 100000
set_option maxHeartbeats 6000000
theorem probe_yesff (R : VRep w A σ.m σ.f σ.e) (hG : RegIn r) (C : Cat1 cm0 cm1 cm2 cm3 cm4) (ha : fitD r.a = true) (hb : fitD r.b = true) (hta : truthy r.a = false) (htb : truthy r.b = false) : Calls Tryz.prog 21 #[.pointer (some ⟨A.b, 0, none⟩), r.val] w fun e' w' => e' = .returned (.bool true) ∧ ∃ σ' A', VRep w' A' (St.m σ') (St.f σ') (St.e σ') ∧ VSt isVM w A w' A' := by
  obtain ⟨Q, HQ⟩ : ∃ Q : Ending → World → Prop, Hid ((fun e' w' => e' = .returned (.bool true) ∧ ∃ σ' A', VRep w' A' (St.m σ') (St.f σ') (St.e σ') ∧ VSt isVM w A w' A') = Q) := ⟨_, rfl⟩
  rw [HQ.out]
  have FIN : Hid (∀ W σ' A', VRep W A' (St.m σ') (St.f σ') (St.e σ') → VSt isVM w A W A' → Q (.returned (.bool true)) W) := fun W σ' A' h1 h2 => by rw [← HQ.out]; exact ⟨rfl, σ', A', h1, h2⟩
  have HR : Hid (VRep w A σ.m σ.f σ.e) := R
  obtain ⟨⟨ct, cn, cs⟩, ⟨dt, dn, ds⟩⟩ := r
  obtain ⟨g1, g2⟩ := hG
  dsimp only at g1 g2 ha hb hta htb
  have HF0 : Hid (Fr (fun _ => False) w (w.alloc (.cells (regCells ⟨⟨ct, cn, cs⟩, ⟨dt, dn, ds⟩⟩) 35))) := (Fr.refl _ _).alloc _
  have HB3 : Hid (Has (w.alloc (.cells (regCells ⟨⟨ct, cn, cs⟩, ⟨dt, dn, ds⟩⟩) 35)) w.heap.size (regCells ⟨⟨ct, cn, cs⟩, ⟨dt, dn, ds⟩⟩) 35) := Has.new _ _ _
  have hq1 : ∀ W, (binOp .neq 85 (.agg #[.int .i64 4, .int .i64 1, .int .i64 0, .int .i64 0, .int .u64 0, .string ⟨#[]⟩, .int .i64 0, .int .u64 0, .string ⟨#[]⟩]) (.agg #[.int .i64 4, .int .i64 1, .int .i64 0, .int .i64 0, .int .u64 0, .string ⟨#[]⟩, .int .i64 0, .int .u64 0, .string ⟨#[]⟩])).run Tryz.prog W = .ok (.bool false) W := fun W => ev_neq ⟨4, 1, 0, nilV, nilV⟩ W
  have HFA : Hid (∀ W, Calls Tryz.prog 38 #[.agg #[.int .i64 ct, .int .u64 cn, sv cs]] W fun e' w' => e' = .returned (.bool true) ∧ Fr (fun _ => False) W w') := fun W => by have h := fit_any (w := W) ⟨ct, cn, cs⟩ g1; rw [ha] at h; exact h
  have HFB : Hid (∀ W, Calls Tryz.prog 38 #[.agg #[.int .i64 dt, .int .u64 dn, sv ds]] W fun e' w' => e' = .returned (.bool true) ∧ Fr (fun _ => False) W w') := fun W => by have h := fit_any (w := W) ⟨dt, dn, ds⟩ g2; rw [hb] at h; exact h
  have HTA : Hid (∀ W, Calls Tryz.prog 39 #[.agg #[.int .i64 ct, .int .u64 cn, sv cs]] W fun e' w' => e' = .returned (.bool false) ∧ Fr (fun _ => False) W w') := fun W => by have h := truthy_any (w := W) ⟨ct, cn, cs⟩; rw [hta] at h; exact h
  have HTB : Hid (∀ W, Calls Tryz.prog 39 #[.agg #[.int .i64 dt, .int .u64 dn, sv ds]] W fun e' w' => e' = .returned (.bool false) ∧ Fr (fun _ => False) W w') := fun W => by have h := truthy_any (w := W) ⟨dt, dn, ds⟩; rw [htb] at h; exact h
  have HBO : Hid (∀ W, Calls Tryz.prog 40 #[.bool true] W fun e' w' => e' = .returned (.agg #[.int .i64 1, .int .u64 1, .string ⟨#[]⟩]) ∧ Fr (fun _ => False) W w') := fun W => bool_any (w := W) true
  have HAB : Hid (fitD ⟨ct, cn, cs⟩ = true ∧ fitD ⟨dt, dn, ds⟩ = true) := ⟨ha, hb⟩
  have HFU : Hid (fu3 ⟨dt, dn, ds⟩ = 5) := by unfold fu3; rw [htb]; exact rfl
  have HTT : Hid (truthy ⟨ct, cn, cs⟩ = false ∧ truthy ⟨dt, dn, ds⟩ = false) := ⟨hta, htb⟩
  have hq2 : ∀ W, (binOp .neq 85 (.agg #[.int .i64 3, .int .i64 0, .int .i64 0, .int .i64 ct, .int .u64 cn, sv cs, .int .i64 0, .int .u64 0, .string ⟨#[]⟩]) (.agg #[.int .i64 3, .int .i64 0, .int .i64 0, .int .i64 ct, .int .u64 cn, sv cs, .int .i64 0, .int .u64 0, .string ⟨#[]⟩])).run Tryz.prog W = .ok (.bool false) W := fun W => ev_neq ⟨3, 0, 0, ⟨ct, cn, cs⟩, nilV⟩ W
  have hq3 : ∀ W, (binOp .neq 85 (.agg #[.int .i64 1, .int .i64 0, .int .i64 0, .int .i64 1, .int .u64 1, .string ⟨#[]⟩, .int .i64 dt, .int .u64 dn, sv ds]) (.agg #[.int .i64 1, .int .i64 0, .int .i64 0, .int .i64 1, .int .u64 1, .string ⟨#[]⟩, .int .i64 dt, .int .u64 dn, sv ds])).run Tryz.prog W = .ok (.bool false) W := fun W => ev_neq ⟨1, 0, 0, ⟨1, 1, []⟩, ⟨dt, dn, ds⟩⟩ W
  have hq4 : ∀ W, (binOp .neq 85 (.agg #[.int .i64 1, .int .i64 0, .int .i64 0, .int .i64 ct, .int .u64 cn, sv cs, .int .i64 1, .int .u64 1, .string ⟨#[]⟩]) (.agg #[.int .i64 1, .int .i64 0, .int .i64 0, .int .i64 ct, .int .u64 cn, sv cs, .int .i64 1, .int .u64 1, .string ⟨#[]⟩])).run Tryz.prog W = .ok (.bool false) W := fun W => ev_neq ⟨1, 0, 0, ⟨ct, cn, cs⟩, ⟨1, 1, []⟩⟩ W
  clear ha hb hta htb
  clear R
  go_enter Tryz.func21, Tryz.ntmps21
  go_wp2_with fail
  refine (pr_load C (by kernel_rfl) rfl (HR.out.fresh HF0.out)).mono ?_
  rintro e' w1 ⟨rfl, A1, R1, S1⟩
  have HR1 : Hid (VRep w1 A1 cm0 9 0) := R1
  have HS1 : Hid (VSt isVM (w.alloc (.cells (regCells ⟨⟨ct, cn, cs⟩, ⟨dt, dn, ds⟩⟩) 35)) A w1 A1) := S1
  clear R1 S1
  go_wp2_with fail
  refine (pr_1 C HS1.out.b HR1.out).mono ?_
  rintro e' w2 ⟨he, A2, ⟨R2, D2⟩, S2⟩
  have he : e' = .returned (.agg #[.int .i64 4, .int .i64 1, .int .i64 0, .int .i64 0, .int .u64 0, .string ⟨#[]⟩, .int .i64 0, .int .u64 0, .string ⟨#[]⟩]) := he
  subst he
  have HD2 : Hid (DI ⟨cm1, 7, 0⟩) := D2
  have HP : Hid (PrS w A w.heap.size w2.heap.size ⟨⟨ct, cn, cs⟩, ⟨dt, dn, ds⟩⟩ ⟨4, 1, 0, nilV, nilV⟩ ⟨cm1, 7, 0⟩ (w2.alloc (.cells #[.int .i64 4, .int .i64 1, .int .i64 0, .int .i64 0, .int .u64 0, .string ⟨#[]⟩, .int .i64 0, .int .u64 0, .string ⟨#[]⟩] 85)) A2) := by
    have k1 := HS1.out.keep (HR.out.own _ (Nat.le_refl _)) HB3.out
    have k2 := S2.keep k1.1 k1.2
    have hsz : w.heap.size < w2.heap.size := k2.2.lt
    exact ⟨R2.fresh ((Fr.refl _ _).alloc _), (((VSt.fresh HF0.out).trans HS1.out).trans S2).trans (VSt.fresh ((Fr.refl _ _).alloc _)), k2.2.alloc _, k2.1, Has.newC _ _ _ rfl, R2.own _ (Nat.le_refl _), by omega, by omega⟩
  have k0 : Has w2 w.heap.size (regCells ⟨⟨ct, cn, cs⟩, ⟨dt, dn, ds⟩⟩) 35 := by
    have k1 := HS1.out.keep (HR.out.own _ (Nat.le_refl _)) HB3.out
    exact (S2.keep k1.1 k1.2).2
  have r0 : w2.cell? ⟨w.heap.size, 0, none⟩ = some (.int .i64 ct) := k0.cell 0
  have r1 : w2.cell? ⟨w.heap.size, 1, none⟩ = some (.int .u64 cn) := k0.cell 1
  have r2 : w2.cell? ⟨w.heap.size, 2, none⟩ = some (sv cs) := k0.cell 2
  have r3 : w2.cell? ⟨w.heap.size, 3, none⟩ = some (.int .i64 dt) := k0.cell 3
  have r4 : w2.cell? ⟨w.heap.size, 4, none⟩ = some (.int .u64 dn) := k0.cell 4
  have r5 : w2.cell? ⟨w.heap.size, 5, none⟩ = some (sv ds) := k0.cell 5
  have rl := k0.lt
  clear k0 R2 D2 S2
  go_wp2_with fail
  refine (pr_2 C (a := ⟨ct, cn, cs⟩) (c := ⟨dt, dn, ds⟩) HP.out.b HD2.out HP.out.rep g1 g2 HAB.out.1 HAB.out.2).mono ?_
  rintro e' w3 ⟨he, A3, ⟨R3, D3⟩, S3⟩
  have he : e' = .returned (.agg #[.int .i64 3, .int .i64 0, .int .i64 0, .int .i64 ct, .int .u64 cn, sv cs, .int .i64 0, .int .u64 0, .string ⟨#[]⟩]) := he
  subst he
  have HD3 : Hid (DI ⟨cm2 ⟨ct, cn, cs⟩ ⟨dt, dn, ds⟩, 6, 0⟩) := D3
  have HQ3 : Hid (PrS w A w.heap.size w2.heap.size ⟨⟨ct, cn, cs⟩, ⟨dt, dn, ds⟩⟩ ⟨4, 1, 0, nilV, nilV⟩ ⟨cm2 ⟨ct, cn, cs⟩ ⟨dt, dn, ds⟩, 6, 0⟩ w3 A3) := HP.out.step (σ2 := ⟨cm2 ⟨ct, cn, cs⟩ ⟨dt, dn, ds⟩, 6, 0⟩) S3 R3
  clear R3 S3 D3
  obtain ⟨b6, HB6⟩ : ∃ b, Hid (w2.heap.size = b) := ⟨_, rfl⟩
  obtain ⟨b3, HB3'⟩ : ∃ b, Hid (w.heap.size = b) := ⟨_, rfl⟩
  rw [HB6.out] at HQ3 ⊢
  rw [HB3'.out] at HQ3 ⊢
  clear r0 r1 r2 r3 r4 r5 rl HP
  obtain ⟨r0, r1, r2, r3, r4, r5, rl, e0, e1, e2, e3, e4, e5, e6, e7, e8, el, z0, z1, z2, z3, z4, z5, z6, z7, z8⟩ := HQ3.out.c
  have hne1 : ¬ b3 = b6 := HQ3.out.ne
  have hne2 : ¬ b6 = b3 := fun e => hne1 e.symm
  dsimp only at r0 r1 r2 r3 r4 r5 e0 e1 e2 e3 e4 e5 e6 e7 e8
  have HQ4 : Hid (PrS w A b3 b6 ⟨⟨ct, cn, cs⟩, ⟨dt, dn, ds⟩⟩ ⟨3, 0, 0, ⟨ct, cn, cs⟩, nilV⟩ ⟨cm2 ⟨ct, cn, cs⟩ ⟨dt, dn, ds⟩, 6, 0⟩ (set9 w3 b6 ⟨3, 0, 0, ⟨ct, cn, cs⟩, nilV⟩) A3) := HQ3.out.set ⟨3, 0, 0, ⟨ct, cn, cs⟩, nilV⟩
  go_wp2_with fail
  refine (HFA.out _).mono ?_
  rintro e' w4 ⟨rfl, F4⟩
  have HQ5 : Hid (PrS w A b3 b6 ⟨⟨ct, cn, cs⟩, ⟨dt, dn, ds⟩⟩ ⟨3, 0, 0, ⟨ct, cn, cs⟩, nilV⟩ ⟨cm2 ⟨ct, cn, cs⟩ ⟨dt, dn, ds⟩, 6, 0⟩ w4 A3) := PrS.fresh (W := set9 w3 b6 ⟨3, 0, 0, ⟨ct, cn, cs⟩, nilV⟩) HQ4.out F4
  clear F4 HQ4 HQ3 r0 r1 r2 r3 r4 r5 rl e0 e1 e2 e3 e4 e5 e6 e7 e8 el z0 z1 z2 z3 z4 z5 z6 z7 z8
  obtain ⟨r0, r1, r2, r3, r4, r5, rl, e0, e1, e2, e3, e4, e5, e6, e7, e8, el, z0, z1, z2, z3, z4, z5, z6, z7, z8⟩ := HQ5.out.c
  dsimp only [nilV] at r0 r1 r2 r3 r4 r5 e0 e1 e2 e3 e4 e5 e6 e7 e8
  go_wp2_with fail
  refine (HFB.out _).mono ?_
  rintro e' w5 ⟨rfl, F5⟩
  have HQ6 : Hid (PrS w A b3 b6 ⟨⟨ct, cn, cs⟩, ⟨dt, dn, ds⟩⟩ ⟨3, 0, 0, ⟨ct, cn, cs⟩, nilV⟩ ⟨cm2 ⟨ct, cn, cs⟩ ⟨dt, dn, ds⟩, 6, 0⟩ w5 A3) := HQ5.out.fresh F5
  clear F5 HQ5 r0 r1 r2 r3 r4 r5 rl e0 e1 e2 e3 e4 e5 e6 e7 e8 el z0 z1 z2 z3 z4 z5 z6 z7 z8
  obtain ⟨r0, r1, r2, r3, r4, r5, rl, e0, e1, e2, e3, e4, e5, e6, e7, e8, el, z0, z1, z2, z3, z4, z5, z6, z7, z8⟩ := HQ6.out.c
  dsimp only [nilV] at r0 r1 r2 r3 r4 r5 e0 e1 e2 e3 e4 e5 e6 e7 e8
  go_wp2_with fail
  refine (pr_3 C (a := ⟨ct, cn, cs⟩) (c := ⟨dt, dn, ds⟩) HQ6.out.b HD3.out HQ6.out.rep g1 g2 HAB.out.1 HAB.out.2).mono ?_
  rintro e' w6 ⟨he, A6, ⟨R6, D6⟩, S6⟩
  rw [HTT.out.2] at he
  rw [HFU.out] at R6 D6
  have he : e' = .returned (.agg #[.int .i64 1, .int .i64 0, .int .i64 0, .int .i64 1, .int .u64 1, .string ⟨#[]⟩, .int .i64 dt, .int .u64 dn, sv ds]) := he
  subst he
  have HD6 : Hid (DI ⟨cm3 ⟨ct, cn, cs⟩ ⟨dt, dn, ds⟩, 5, 0⟩) := D6
  have HQ7 : Hid (PrS w A b3 b6 ⟨⟨ct, cn, cs⟩, ⟨dt, dn, ds⟩⟩ ⟨3, 0, 0, ⟨ct, cn, cs⟩, nilV⟩ ⟨cm3 ⟨ct, cn, cs⟩ ⟨dt, dn, ds⟩, 5, 0⟩ w6 A6) := HQ6.out.step (σ2 := ⟨cm3 ⟨ct, cn, cs⟩ ⟨dt, dn, ds⟩, 5, 0⟩) S6 R6
  clear R6 S6 D6 HQ6 r0 r1 r2 r3 r4 r5 rl e0 e1 e2 e3 e4 e5 e6 e7 e8 el z0 z1 z2 z3 z4 z5 z6 z7 z8
  obtain ⟨r0, r1, r2, r3, r4, r5, rl, e0, e1, e2, e3, e4, e5, e6, e7, e8, el, z0, z1, z2, z3, z4, z5, z6, z7, z8⟩ := HQ7.out.c
  dsimp only at r0 r1 r2 r3 r4 r5 e0 e1 e2 e3 e4 e5 e6 e7 e8
  have HQ8 : Hid (PrS w A b3 b6 ⟨⟨ct, cn, cs⟩, ⟨dt, dn, ds⟩⟩ ⟨1, 0, 0, ⟨1, 1, []⟩, ⟨dt, dn, ds⟩⟩ ⟨cm3 ⟨ct, cn, cs⟩ ⟨dt, dn, ds⟩, 5, 0⟩ (set9 w6 b6 ⟨1, 0, 0, ⟨1, 1, []⟩, ⟨dt, dn, ds⟩⟩) A6) := HQ7.out.set ⟨1, 0, 0, ⟨1, 1, []⟩, ⟨dt, dn, ds⟩⟩
  go_wp2_with fail
  refine (HTB.out _).mono ?_
  rintro e' w7 ⟨rfl, F7⟩
  have HQ9 : Hid (PrS w A b3 b6 ⟨⟨ct, cn, cs⟩, ⟨dt, dn, ds⟩⟩ ⟨1, 0, 0, ⟨1, 1, []⟩, ⟨dt, dn, ds⟩⟩ ⟨cm3 ⟨ct, cn, cs⟩ ⟨dt, dn, ds⟩, 5, 0⟩ w7 A6) := PrS.fresh (W := set9 w6 b6 ⟨1, 0, 0, ⟨1, 1, []⟩, ⟨dt, dn, ds⟩⟩) HQ8.out F7
  clear F7 HQ8 HQ7 r0 r1 r2 r3 r4 r5 rl e0 e1 e2 e3 e4 e5 e6 e7 e8 el z0 z1 z2 z3 z4 z5 z6 z7 z8
  obtain ⟨r0, r1, r2, r3, r4, r5, rl, e0, e1, e2, e3, e4, e5, e6, e7, e8, el, z0, z1, z2, z3, z4, z5, z6, z7, z8⟩ := HQ9.out.c
  dsimp only [nilV] at r0 r1 r2 r3 r4 r5 e0 e1 e2 e3 e4 e5 e6 e7 e8
  go_wp2_with fail
  refine (HBO.out _).mono ?_
  rintro e' w8 ⟨rfl, F8⟩
  have HQA : Hid (PrS w A b3 b6 ⟨⟨ct, cn, cs⟩, ⟨dt, dn, ds⟩⟩ ⟨1, 0, 0, ⟨1, 1, []⟩, ⟨dt, dn, ds⟩⟩ ⟨cm3 ⟨ct, cn, cs⟩ ⟨dt, dn, ds⟩, 5, 0⟩ w8 A6) := HQ9.out.fresh F8
  have HQB : Hid (PrS w A b3 b6 ⟨⟨ct, cn, cs⟩, ⟨dt, dn, ds⟩⟩ ⟨1, 0, 0, ⟨1, 1, []⟩, ⟨dt, dn, ds⟩⟩ ⟨cm3 ⟨ct, cn, cs⟩ ⟨dt, dn, ds⟩, 5, 0⟩ (w8.alloc (.cells #[.int .i64 1, .int .u64 1, .string ⟨#[]⟩] 33)) A6) := HQA.out.fresh ((Fr.refl _ _).alloc _)
  clear F8 HQ9 r0 r1 r2 r3 r4 r5 rl e0 e1 e2 e3 e4 e5 e6 e7 e8 el z0 z1 z2 z3 z4 z5 z6 z7 z8
  obtain ⟨r0, r1, r2, r3, r4, r5, rl, e0, e1, e2, e3, e4, e5, e6, e7, e8, el, z0, z1, z2, z3, z4, z5, z6, z7, z8⟩ := HQA.out.c
  dsimp only [nilV] at r0 r1 r2 r3 r4 r5 e0 e1 e2 e3 e4 e5 e6 e7 e8
  go_wp2_with fail
  refine (pr_4 C (a := ⟨ct, cn, cs⟩) (c := ⟨dt, dn, ds⟩) HQB.out.b (by rw [HFU.out]; exact HD6.out) (by rw [HFU.out]; exact HQB.out.rep) g1 g2 HAB.out.1 HAB.out.2).mono ?_
  rintro e' w9 ⟨he, A9, ⟨R9, D9⟩, S9⟩
  rw [HTT.out.1] at he
  rw [HFU.out] at R9 D9
  have he : e' = .returned (.agg #[.int .i64 1, .int .i64 0, .int .i64 0, .int .i64 ct, .int .u64 cn, sv cs, .int .i64 1, .int .u64 1, .string ⟨#[]⟩]) := he
  subst he
  have HQC : Hid (PrS w A b3 b6 ⟨⟨ct, cn, cs⟩, ⟨dt, dn, ds⟩⟩ ⟨1, 0, 0, ⟨1, 1, []⟩, ⟨dt, dn, ds⟩⟩ ⟨cm4 ⟨ct, cn, cs⟩ ⟨dt, dn, ds⟩ 5, 5, 0⟩ w9 A9) := HQB.out.step (σ2 := ⟨cm4 ⟨ct, cn, cs⟩ ⟨dt, dn, ds⟩ 5, 5, 0⟩) S9 R9
  have hbA : Has w9 w8.heap.size #[.int .i64 1, .int .u64 1, .string ⟨#[]⟩] 33 ∧ A9.o w8.heap.size = 0 := by
    have k := S9.keep (HQA.out.rep.own _ (Nat.le_refl _)) (Has.newC w8 #[.int .i64 1, .int .u64 1, .string ⟨#[]⟩] 33 rfl)
    exact ⟨k.2, k.1⟩
  have hszA : b3 < w8.heap.size ∧ b6 < w8.heap.size := ⟨rl, el⟩
  obtain ⟨bA, HBA⟩ : ∃ b, Hid (w8.heap.size = b) := ⟨_, rfl⟩
  rw [HBA.out] at hbA hszA ⊢
  have HHA : Hid (Has w9 bA #[.int .i64 1, .int .u64 1, .string ⟨#[]⟩] 33 ∧ A9.o bA = 0) := hbA
  have n1 : (Has w9 bA #[.int .i64 1, .int .u64 1, .string ⟨#[]⟩] 33) := hbA.1
  have c0 : w9.cell? ⟨bA, 0, none⟩ = some (.int .i64 1) := n1.cell 0
  have c1 : w9.cell? ⟨bA, 1, none⟩ = some (.int .u64 1) := n1.cell 1
  have c2 : w9.cell? ⟨bA, 2, none⟩ = some (.string ⟨#[]⟩) := n1.cell 2
  have cl := n1.lt
  have m1 : ¬ bA = b6 := by omega
  have m2 : ¬ b6 = bA := by omega
  clear R9 S9 D9 HQA HQB n1 hbA r0 r1 r2 r3 r4 r5 rl e0 e1 e2 e3 e4 e5 e6 e7 e8 el z0 z1 z2 z3 z4 z5 z6 z7 z8
  obtain ⟨r0, r1, r2, r3, r4, r5, rl, e0, e1, e2, e3, e4, e5, e6, e7, e8, el, z0, z1, z2, z3, z4, z5, z6, z7, z8⟩ := HQC.out.c
  dsimp only at r0 r1 r2 r3 r4 r5 e0 e1 e2 e3 e4 e5 e6 e7 e8
  have HQD : Hid (PrS w A b3 b6 ⟨⟨ct, cn, cs⟩, ⟨dt, dn, ds⟩⟩ ⟨1, 0, 0, ⟨ct, cn, cs⟩, ⟨1, 1, []⟩⟩ ⟨cm4 ⟨ct, cn, cs⟩ ⟨dt, dn, ds⟩ 5, 5, 0⟩ ((set9 w9 b6 ⟨1, 0, 0, ⟨ct, cn, cs⟩, ⟨1, 1, []⟩⟩).alloc (.cells #[.int .i64 ct, .int .u64 cn, sv cs] 33)) A9) := (HQC.out.set ⟨1, 0, 0, ⟨ct, cn, cs⟩, ⟨1, 1, []⟩⟩).fresh ((Fr.refl _ _).alloc _)
  have HHB : Hid (Has ((set9 w9 b6 ⟨1, 0, 0, ⟨ct, cn, cs⟩, ⟨1, 1, []⟩⟩).alloc (.cells #[.int .i64 ct, .int .u64 cn, sv cs] 33)) bA #[.int .i64 1, .int .u64 1, .string ⟨#[]⟩] 33) := (has_set9_ne HHA.out.1 m1 ⟨1, 0, 0, ⟨ct, cn, cs⟩, ⟨1, 1, []⟩⟩).alloc _
  have hs9 : (set9 w9 b6 ⟨1, 0, 0, ⟨ct, cn, cs⟩, ⟨1, 1, []⟩⟩).heap.size = w9.heap.size := set9_size _ _ _
  have HHC : Hid (Has ((set9 w9 b6 ⟨1, 0, 0, ⟨ct, cn, cs⟩, ⟨1, 1, []⟩⟩).alloc (.cells #[.int .i64 ct, .int .u64 cn, sv cs] 33)) w9.heap.size #[.int .i64 ct, .int .u64 cn, sv cs] 33) := Has.newC _ _ _ hs9.symm
  go_wp2_with fail
  refine (HTA.out _).mono ?_
  rintro e' wA ⟨rfl, FA⟩
  have HQE : Hid (PrS w A b3 b6 ⟨⟨ct, cn, cs⟩, ⟨dt, dn, ds⟩⟩ ⟨1, 0, 0, ⟨ct, cn, cs⟩, ⟨1, 1, []⟩⟩ ⟨cm4 ⟨ct, cn, cs⟩ ⟨dt, dn, ds⟩ 5, 5, 0⟩ wA A9) := PrS.fresh (W := (set9 w9 b6 ⟨1, 0, 0, ⟨ct, cn, cs⟩, ⟨1, 1, []⟩⟩).alloc (.cells #[.int .i64 ct, .int .u64 cn, sv cs] 33)) HQD.out FA
  have n1 : Has wA bA #[.int .i64 1, .int .u64 1, .string ⟨#[]⟩] 33 := Has.fr (w := (set9 w9 b6 ⟨1, 0, 0, ⟨ct, cn, cs⟩, ⟨1, 1, []⟩⟩).alloc (.cells #[.int .i64 ct, .int .u64 cn, sv cs] 33)) HHB.out FA (fun x => x)
  have n2 : Has wA w9.heap.size #[.int .i64 ct, .int .u64 cn, sv cs] 33 := Has.fr (w := (set9 w9 b6 ⟨1, 0, 0, ⟨ct, cn, cs⟩, ⟨1, 1, []⟩⟩).alloc (.cells #[.int .i64 ct, .int .u64 cn, sv cs] 33)) HHC.out FA (fun x => x)
  have c1 : wA.cell? ⟨bA, 1, none⟩ = some (.int .u64 1) := n1.cell 1
  have cl := n1.lt
  have v0 : wA.cell? ⟨w9.heap.size, 0, none⟩ = some (.int .i64 ct) := n2.cell 0
  have v1 : wA.cell? ⟨w9.heap.size, 1, none⟩ = some (.int .u64 cn) := n2.cell 1
  have v2 : wA.cell? ⟨w9.heap.size, 2, none⟩ = some (sv cs) := n2.cell 2
  have y0 := n2.frozen 0
  have y1 := n2.frozen 1
  have y2 := n2.frozen 2
  have vl := n2.lt
  have m3 : ¬ w9.heap.size = b6 := fun e => by have := HQC.out.h6.lt; omega
  have m4 : ¬ b6 = w9.heap.size := fun e => m3 e.symm
  have m5 : ¬ w9.heap.size = bA := fun e => by have := HHA.out.1.lt; omega
  have m6 : ¬ bA = w9.heap.size := fun e => m5 e.symm
  have oV : A9.o w9.heap.size = 0 := HQC.out.rep.own _ (Nat.le_refl _)
  have hgV : w.heap.size ≤ w9.heap.size := by have := HQC.out.st.st.fr.size; exact this
  clear FA HQD HHB HHC HQC c0 c2 r0 r1 r2 r3 r4 r5 rl e0 e1 e2 e3 e4 e5 e6 e7 e8 el z0 z1 z2 z3 z4 z5 z6 z7 z8
  obtain ⟨r0, r1, r2, r3, r4, r5, rl, e0, e1, e2, e3, e4, e5, e6, e7, e8, el, z0, z1, z2, z3, z4, z5, z6, z7, z8⟩ := HQE.out.c
  dsimp only [nilV] at r0 r1 r2 r3 r4 r5 e0 e1 e2 e3 e4 e5 e6 e7 e8
  have HN3 : Hid (Has wA bA #[.int .i64 1, .int .u64 1, .string ⟨#[]⟩] 33) := n1
  have HQF : Hid (VRep wA A9 (cm4 ⟨ct, cn, cs⟩ ⟨dt, dn, ds⟩ 5) 5 0 ∧ VSt isVM w A wA A9) := ⟨HQE.out.rep, HQE.out.st⟩
  have hbb : A9.b = A.b := HQE.out.b
  clear n1 n2
  go_wp2_with fail
  refine (show Calls Tryz.prog 23 #[.pointer (some ⟨A.b, 0, none⟩)] _ _ from by rw [← hbb]; exact fuel_any HQF.out.1).mono ?_
  rintro e' wB ⟨rfl, hwB⟩
  have FIN2 : Hid (Q (.returned (.bool true)) wB) := by rw [hwB]; exact FIN.out _ ⟨cm4 ⟨ct, cn, cs⟩ ⟨dt, dn, ds⟩ 5, 5, 0⟩ A9 HQF.out.1 HQF.out.2
  have HCB : Hid (wB.cell? ⟨bA, 1, none⟩ = some (.int .u64 1) ∧ bA < wB.heap.size) := by
    rw [hwB]
    exact ⟨HN3.out.cell 1, HN3.out.lt⟩
  have c1 := HCB.out.1
  have cl := HCB.out.2
  clear hwB
  go_wp2_with fail
  exact FIN2.out
end
end Go.Proofs.Qxb6500579aGreat
