/-
  THE WALK of vmlaw: Probe: the walk.
-/
import Derived.Test.Qxb6500579aGreatULawP
namespace Go.Proofs.Qxb6500579aGreat
open Go Go.RowKit
set_option linter.unusedVariables false
set_option linter.unusedSimpArgs false
section
variable {w : World} {A : VL} {σ : St} {r : RegD} {cm0 cm1 : VMD} {cm2 cm3 : Vl → Vl → VMD} {cm4 : Vl → Vl → Nat → VMD}
set_option maxRecDepth 100000
set_option maxHeartbeats 1000000
theorem probe_noff (R : VRep w A σ.m σ.f σ.e) (hG : RegIn r) (C : Cat1 cm0 cm1 cm2 cm3 cm4) (ha : fitD r.a = false) (hb : fitD r.b = false) : Calls Tryz.prog 21 #[.pointer (some ⟨A.b, 0, none⟩), r.val] w fun e' w' => e' = .returned (.bool true) ∧ ∃ σ' A', VRep w' A' (St.m σ') (St.f σ') (St.e σ') ∧ VSt isVM w A w' A' := by
  obtain ⟨Q, HQ⟩ : ∃ Q : Ending → World → Prop, Hid ((fun e' w' => e' = .returned (.bool true) ∧ ∃ σ' A', VRep w' A' (St.m σ') (St.f σ') (St.e σ') ∧ VSt isVM w A w' A') = Q) := ⟨_, rfl⟩
  rw [HQ.out]
  have FIN : Hid (∀ W σ' A', VRep W A' (St.m σ') (St.f σ') (St.e σ') → VSt isVM w A W A' → Q (.returned (.bool true)) W) := fun W σ' A' h1 h2 => by rw [← HQ.out]; exact ⟨rfl, σ', A', h1, h2⟩
  have HR : Hid (VRep w A σ.m σ.f σ.e) := R
  obtain ⟨⟨ct, cn, cs⟩, ⟨dt, dn, ds⟩⟩ := r
  obtain ⟨g1, g2⟩ := hG
  dsimp only at g1 g2 ha hb
  have HF0 : Hid (Fr (fun _ => False) w (w.alloc (.cells (regCells ⟨⟨ct, cn, cs⟩, ⟨dt, dn, ds⟩⟩) 35))) := (Fr.refl _ _).alloc _
  have HB3 : Hid (Has (w.alloc (.cells (regCells ⟨⟨ct, cn, cs⟩, ⟨dt, dn, ds⟩⟩) 35)) w.heap.size (regCells ⟨⟨ct, cn, cs⟩, ⟨dt, dn, ds⟩⟩) 35) := Has.new _ _ _
  have hq1 : ∀ W, (binOp .neq 85 (.agg #[.int .i64 4, .int .i64 1, .int .i64 0, .int .i64 0, .int .u64 0, .string ⟨#[]⟩, .int .i64 0, .int .u64 0, .string ⟨#[]⟩]) (.agg #[.int .i64 4, .int .i64 1, .int .i64 0, .int .i64 0, .int .u64 0, .string ⟨#[]⟩, .int .i64 0, .int .u64 0, .string ⟨#[]⟩])).run Tryz.prog W = .ok (.bool false) W := fun W => ev_neq ⟨4, 1, 0, nilV, nilV⟩ W
  have HFA : Hid (∀ W, Calls Tryz.prog 38 #[.agg #[.int .i64 ct, .int .u64 cn, sv cs]] W fun e' w' => e' = .returned (.bool false) ∧ Fr (fun _ => False) W w') := fun W => by have h := fit_any (w := W) ⟨ct, cn, cs⟩ g1; rw [ha] at h; exact h
  have HFB : Hid (∀ W, Calls Tryz.prog 38 #[.agg #[.int .i64 dt, .int .u64 dn, sv ds]] W fun e' w' => e' = .returned (.bool false) ∧ Fr (fun _ => False) W w') := fun W => by have h := fit_any (w := W) ⟨dt, dn, ds⟩ g2; rw [hb] at h; exact h
  have HHN : Hid (fitD ⟨ct, cn, cs⟩ = false ∨ fitD ⟨dt, dn, ds⟩ = false) := .inl ha
  clear ha hb
  clear R
  go_enter Tryz.func21, Tryz.ntmps21
  go_wp2_with fail
  refine (pr_load C (by kernel_rfl) rfl (HR.out.fresh HF0.out)).mono ?_
  rintro e' w1 ⟨rfl, A1, R1, S1⟩
  have HR1 : Hid (VRep w1 A1 cm0 9 0) := R1
  have HS1 : Hid (VSt isVM (w.alloc (.cells (regCells ⟨⟨ct, cn, cs⟩, ⟨dt, dn, ds⟩⟩) 35)) A w1 A1) := S1
  clear R1 S1
  go_wp2_with fail
  refine (pr_1 C HS1.out.b HR1.out).mono ?_
  rintro e' w2 ⟨he, A2, ⟨R2, D2⟩, S2⟩
  have he : e' = .returned (.agg #[.int .i64 4, .int .i64 1, .int .i64 0, .int .i64 0, .int .u64 0, .string ⟨#[]⟩, .int .i64 0, .int .u64 0, .string ⟨#[]⟩]) := he
  subst he
  have HD2 : Hid (DI ⟨cm1, 7, 0⟩) := D2
  have HP : Hid (PrS w A w.heap.size w2.heap.size ⟨⟨ct, cn, cs⟩, ⟨dt, dn, ds⟩⟩ ⟨4, 1, 0, nilV, nilV⟩ ⟨cm1, 7, 0⟩ (w2.alloc (.cells #[.int .i64 4, .int .i64 1, .int .i64 0, .int .i64 0, .int .u64 0, .string ⟨#[]⟩, .int .i64 0, .int .u64 0, .string ⟨#[]⟩] 85)) A2) := by
    have k1 := HS1.out.keep (HR.out.own _ (Nat.le_refl _)) HB3.out
    have k2 := S2.keep k1.1 k1.2
    have hsz : w.heap.size < w2.heap.size := k2.2.lt
    exact ⟨R2.fresh ((Fr.refl _ _).alloc _), (((VSt.fresh HF0.out).trans HS1.out).trans S2).trans (VSt.fresh ((Fr.refl _ _).alloc _)), k2.2.alloc _, k2.1, Has.newC _ _ _ rfl, R2.own _ (Nat.le_refl _), by omega, by omega⟩
  have k0 : Has w2 w.heap.size (regCells ⟨⟨ct, cn, cs⟩, ⟨dt, dn, ds⟩⟩) 35 := by
    have k1 := HS1.out.keep (HR.out.own _ (Nat.le_refl _)) HB3.out
    exact (S2.keep k1.1 k1.2).2
  have r0 : w2.cell? ⟨w.heap.size, 0, none⟩ = some (.int .i64 ct) := k0.cell 0
  have r1 : w2.cell? ⟨w.heap.size, 1, none⟩ = some (.int .u64 cn) := k0.cell 1
  have r2 : w2.cell? ⟨w.heap.size, 2, none⟩ = some (sv cs) := k0.cell 2
  have r3 : w2.cell? ⟨w.heap.size, 3, none⟩ = some (.int .i64 dt) := k0.cell 3
  have r4 : w2.cell? ⟨w.heap.size, 4, none⟩ = some (.int .u64 dn) := k0.cell 4
  have r5 : w2.cell? ⟨w.heap.size, 5, none⟩ = some (sv ds) := k0.cell 5
  have rl := k0.lt
  clear k0 R2 D2 S2
  go_wp2_with fail
  refine (pr_2n C (a := ⟨ct, cn, cs⟩) (c := ⟨dt, dn, ds⟩) HP.out.b HD2.out HP.out.rep g1 g2 HHN.out).mono ?_
  rintro e' w3 ⟨he, A3, R3, S3⟩
  have he : e' = .returned (.agg #[.int .i64 6, .int .i64 0, .int .i64 0, .int .i64 0, .int .u64 0, .string ⟨#[]⟩, .int .i64 0, .int .u64 0, .string ⟨#[]⟩]) := he
  subst he
  have HQ3 : Hid (PrS w A w.heap.size w2.heap.size ⟨⟨ct, cn, cs⟩, ⟨dt, dn, ds⟩⟩ ⟨4, 1, 0, nilV, nilV⟩ ⟨cm1, 7, 0⟩ w3 A3) := HP.out.step (σ2 := ⟨cm1, 7, 0⟩) S3 R3
  clear R3 S3
  obtain ⟨b6, HB6⟩ : ∃ b, Hid (w2.heap.size = b) := ⟨_, rfl⟩
  obtain ⟨b3, HB3'⟩ : ∃ b, Hid (w.heap.size = b) := ⟨_, rfl⟩
  rw [HB6.out] at HQ3 ⊢
  rw [HB3'.out] at HQ3 ⊢
  clear r0 r1 r2 r3 r4 r5 rl HP
  obtain ⟨r0, r1, r2, r3, r4, r5, rl, e0, e1, e2, e3, e4, e5, e6, e7, e8, el, z0, z1, z2, z3, z4, z5, z6, z7, z8⟩ := HQ3.out.c
  have hne1 : ¬ b3 = b6 := HQ3.out.ne
  have hne2 : ¬ b6 = b3 := fun e => hne1 e.symm
  dsimp only at r0 r1 r2 r3 r4 r5 e0 e1 e2 e3 e4 e5 e6 e7 e8
  have HQ4 : Hid (PrS w A b3 b6 ⟨⟨ct, cn, cs⟩, ⟨dt, dn, ds⟩⟩ evBad ⟨cm1, 7, 0⟩ (set9 w3 b6 evBad) A3) := HQ3.out.set evBad
  go_wp2_with fail
  refine (HFA.out _).mono ?_
  rintro e' w4 ⟨rfl, F4⟩
  have HQ5 : Hid (PrS w A b3 b6 ⟨⟨ct, cn, cs⟩, ⟨dt, dn, ds⟩⟩ evBad ⟨cm1, 7, 0⟩ w4 A3) := PrS.fresh (W := set9 w3 b6 evBad) HQ4.out F4
  clear F4 HQ4 HQ3 r0 r1 r2 r3 r4 r5 rl e0 e1 e2 e3 e4 e5 e6 e7 e8 el z0 z1 z2 z3 z4 z5 z6 z7 z8
  obtain ⟨r0, r1, r2, r3, r4, r5, rl, e0, e1, e2, e3, e4, e5, e6, e7, e8, el, z0, z1, z2, z3, z4, z5, z6, z7, z8⟩ := HQ5.out.c
  dsimp only [evBad, nilV] at r0 r1 r2 r3 r4 r5 e0 e1 e2 e3 e4 e5 e6 e7 e8
  go_wp2_with fail
  refine (HFB.out _).mono ?_
  rintro e' w5 ⟨rfl, F5⟩
  have HQ6 : Hid (PrS w A b3 b6 ⟨⟨ct, cn, cs⟩, ⟨dt, dn, ds⟩⟩ evBad ⟨cm1, 7, 0⟩ w5 A3) := HQ5.out.fresh F5
  clear F5 HQ5 r0 r1 r2 r3 r4 r5 rl e0 e1 e2 e3 e4 e5 e6 e7 e8 el z0 z1 z2 z3 z4 z5 z6 z7 z8
  obtain ⟨r0, r1, r2, r3, r4, r5, rl, e0, e1, e2, e3, e4, e5, e6, e7, e8, el, z0, z1, z2, z3, z4, z5, z6, z7, z8⟩ := HQ6.out.c
  dsimp only [evBad, nilV] at r0 r1 r2 r3 r4 r5 e0 e1 e2 e3 e4 e5 e6 e7 e8
  have FIN2 : Hid (Q (.returned (.bool true)) w5) := FIN.out w5 _ A3 HQ6.out.rep HQ6.out.st
  go_wp2_with fail
  exact FIN2.out
theorem probe_noft (R : VRep w A σ.m σ.f σ.e) (hG : RegIn r) (C : Cat1 cm0 cm1 cm2 cm3 cm4) (ha : fitD r.a = false) (hb : fitD r.b = true) : Calls Tryz.prog 21 #[.pointer (some ⟨A.b, 0, none⟩), r.val] w fun e' w' => e' = .returned (.bool true) ∧ ∃ σ' A', VRep w' A' (St.m σ') (St.f σ') (St.e σ') ∧ VSt isVM w A w' A' := by
  obtain ⟨Q, HQ⟩ : ∃ Q : Ending → World → Prop, Hid ((fun e' w' => e' = .returned (.bool true) ∧ ∃ σ' A', VRep w' A' (St.m σ') (St.f σ') (St.e σ') ∧ VSt isVM w A w' A') = Q) := ⟨_, rfl⟩
  rw [HQ.out]
  have FIN : Hid (∀ W σ' A', VRep W A' (St.m σ') (St.f σ') (St.e σ') → VSt isVM w A W A' → Q (.returned (.bool true)) W) := fun W σ' A' h1 h2 => by rw [← HQ.out]; exact ⟨rfl, σ', A', h1, h2⟩
  have HR : Hid (VRep w A σ.m σ.f σ.e) := R
  obtain ⟨⟨ct, cn, cs⟩, ⟨dt, dn, ds⟩⟩ := r
  obtain ⟨g1, g2⟩ := hG
  dsimp only at g1 g2 ha hb
  have HF0 : Hid (Fr (fun _ => False) w (w.alloc (.cells (regCells ⟨⟨ct, cn, cs⟩, ⟨dt, dn, ds⟩⟩) 35))) := (Fr.refl _ _).alloc _
  have HB3 : Hid (Has (w.alloc (.cells (regCells ⟨⟨ct, cn, cs⟩, ⟨dt, dn, ds⟩⟩) 35)) w.heap.size (regCells ⟨⟨ct, cn, cs⟩, ⟨dt, dn, ds⟩⟩) 35) := Has.new _ _ _
  have hq1 : ∀ W, (binOp .neq 85 (.agg #[.int .i64 4, .int .i64 1, .int .i64 0, .int .i64 0, .int .u64 0, .string ⟨#[]⟩, .int .i64 0, .int .u64 0, .string ⟨#[]⟩]) (.agg #[.int .i64 4, .int .i64 1, .int .i64 0, .int .i64 0, .int .u64 0, .string ⟨#[]⟩, .int .i64 0, .int .u64 0, .string ⟨#[]⟩])).run Tryz.prog W = .ok (.bool false) W := fun W => ev_neq ⟨4, 1, 0, nilV, nilV⟩ W
  have HFA : Hid (∀ W, Calls Tryz.prog 38 #[.agg #[.int .i64 ct, .int .u64 cn, sv cs]] W fun e' w' => e' = .returned (.bool false) ∧ Fr (fun _ => False) W w') := fun W => by have h := fit_any (w := W) ⟨ct, cn, cs⟩ g1; rw [ha] at h; exact h
  have HFB : Hid (∀ W, Calls Tryz.prog 38 #[.agg #[.int .i64 dt, .int .u64 dn, sv ds]] W fun e' w' => e' = .returned (.bool true) ∧ Fr (fun _ => False) W w') := fun W => by have h := fit_any (w := W) ⟨dt, dn, ds⟩ g2; rw [hb] at h; exact h
  have HHN : Hid (fitD ⟨ct, cn, cs⟩ = false ∨ fitD ⟨dt, dn, ds⟩ = false) := .inl ha
  clear ha hb
  clear R
  go_enter Tryz.func21, Tryz.ntmps21
  go_wp2_with fail
  refine (pr_load C (by kernel_rfl) rfl (HR.out.fresh HF0.out)).mono ?_
  rintro e' w1 ⟨rfl, A1, R1, S1⟩
  have HR1 : Hid (VRep w1 A1 cm0 9 0) := R1
  have HS1 : Hid (VSt isVM (w.alloc (.cells (regCells ⟨⟨ct, cn, cs⟩, ⟨dt, dn, ds⟩⟩) 35)) A w1 A1) := S1
  clear R1 S1
  go_wp2_with fail
  refine (pr_1 C HS1.out.b HR1.out).mono ?_
  rintro e' w2 ⟨he, A2, ⟨R2, D2⟩, S2⟩
  have he : e' = .returned (.agg #[.int .i64 4, .int .i64 1, .int .i64 0, .int .i64 0, .int .u64 0, .string ⟨#[]⟩, .int .i64 0, .int .u64 0, .string ⟨#[]⟩]) := he
  subst he
  have HD2 : Hid (DI ⟨cm1, 7, 0⟩) := D2
  have HP : Hid (PrS w A w.heap.size w2.heap.size ⟨⟨ct, cn, cs⟩, ⟨dt, dn, ds⟩⟩ ⟨4, 1, 0, nilV, nilV⟩ ⟨cm1, 7, 0⟩ (w2.alloc (.cells #[.int .i64 4, .int .i64 1, .int .i64 0, .int .i64 0, .int .u64 0, .string ⟨#[]⟩, .int .i64 0, .int .u64 0, .string ⟨#[]⟩] 85)) A2) := by
    have k1 := HS1.out.keep (HR.out.own _ (Nat.le_refl _)) HB3.out
    have k2 := S2.keep k1.1 k1.2
    have hsz : w.heap.size < w2.heap.size := k2.2.lt
    exact ⟨R2.fresh ((Fr.refl _ _).alloc _), (((VSt.fresh HF0.out).trans HS1.out).trans S2).trans (VSt.fresh ((Fr.refl _ _).alloc _)), k2.2.alloc _, k2.1, Has.newC _ _ _ rfl, R2.own _ (Nat.le_refl _), by omega, by omega⟩
  have k0 : Has w2 w.heap.size (regCells ⟨⟨ct, cn, cs⟩, ⟨dt, dn, ds⟩⟩) 35 := by
    have k1 := HS1.out.keep (HR.out.own _ (Nat.le_refl _)) HB3.out
    exact (S2.keep k1.1 k1.2).2
  have r0 : w2.cell? ⟨w.heap.size, 0, none⟩ = some (.int .i64 ct) := k0.cell 0
  have r1 : w2.cell? ⟨w.heap.size, 1, none⟩ = some (.int .u64 cn) := k0.cell 1
  have r2 : w2.cell? ⟨w.heap.size, 2, none⟩ = some (sv cs) := k0.cell 2
  have r3 : w2.cell? ⟨w.heap.size, 3, none⟩ = some (.int .i64 dt) := k0.cell 3
  have r4 : w2.cell? ⟨w.heap.size, 4, none⟩ = some (.int .u64 dn) := k0.cell 4
  have r5 : w2.cell? ⟨w.heap.size, 5, none⟩ = some (sv ds) := k0.cell 5
  have rl := k0.lt
  clear k0 R2 D2 S2
  go_wp2_with fail
  refine (pr_2n C (a := ⟨ct, cn, cs⟩) (c := ⟨dt, dn, ds⟩) HP.out.b HD2.out HP.out.rep g1 g2 HHN.out).mono ?_
  rintro e' w3 ⟨he, A3, R3, S3⟩
  have he : e' = .returned (.agg #[.int .i64 6, .int .i64 0, .int .i64 0, .int .i64 0, .int .u64 0, .string ⟨#[]⟩, .int .i64 0, .int .u64 0, .string ⟨#[]⟩]) := he
  subst he
  have HQ3 : Hid (PrS w A w.heap.size w2.heap.size ⟨⟨ct, cn, cs⟩, ⟨dt, dn, ds⟩⟩ ⟨4, 1, 0, nilV, nilV⟩ ⟨cm1, 7, 0⟩ w3 A3) := HP.out.step (σ2 := ⟨cm1, 7, 0⟩) S3 R3
  clear R3 S3
  obtain ⟨b6, HB6⟩ : ∃ b, Hid (w2.heap.size = b) := ⟨_, rfl⟩
  obtain ⟨b3, HB3'⟩ : ∃ b, Hid (w.heap.size = b) := ⟨_, rfl⟩
  rw [HB6.out] at HQ3 ⊢
  rw [HB3'.out] at HQ3 ⊢
  clear r0 r1 r2 r3 r4 r5 rl HP
  obtain ⟨r0, r1, r2, r3, r4, r5, rl, e0, e1, e2, e3, e4, e5, e6, e7, e8, el, z0, z1, z2, z3, z4, z5, z6, z7, z8⟩ := HQ3.out.c
  have hne1 : ¬ b3 = b6 := HQ3.out.ne
  have hne2 : ¬ b6 = b3 := fun e => hne1 e.symm
  dsimp only at r0 r1 r2 r3 r4 r5 e0 e1 e2 e3 e4 e5 e6 e7 e8
  have HQ4 : Hid (PrS w A b3 b6 ⟨⟨ct, cn, cs⟩, ⟨dt, dn, ds⟩⟩ evBad ⟨cm1, 7, 0⟩ (set9 w3 b6 evBad) A3) := HQ3.out.set evBad
  go_wp2_with fail
  refine (HFA.out _).mono ?_
  rintro e' w4 ⟨rfl, F4⟩
  have HQ5 : Hid (PrS w A b3 b6 ⟨⟨ct, cn, cs⟩, ⟨dt, dn, ds⟩⟩ evBad ⟨cm1, 7, 0⟩ w4 A3) := PrS.fresh (W := set9 w3 b6 evBad) HQ4.out F4
  clear F4 HQ4 HQ3 r0 r1 r2 r3 r4 r5 rl e0 e1 e2 e3 e4 e5 e6 e7 e8 el z0 z1 z2 z3 z4 z5 z6 z7 z8
  obtain ⟨r0, r1, r2, r3, r4, r5, rl, e0, e1, e2, e3, e4, e5, e6, e7, e8, el, z0, z1, z2, z3, z4, z5, z6, z7, z8⟩ := HQ5.out.c
  dsimp only [evBad, nilV] at r0 r1 r2 r3 r4 r5 e0 e1 e2 e3 e4 e5 e6 e7 e8
  go_wp2_with fail
  refine (HFB.out _).mono ?_
  rintro e' w5 ⟨rfl, F5⟩
  have HQ6 : Hid (PrS w A b3 b6 ⟨⟨ct, cn, cs⟩, ⟨dt, dn, ds⟩⟩ evBad ⟨cm1, 7, 0⟩ w5 A3) := HQ5.out.fresh F5
  clear F5 HQ5 r0 r1 r2 r3 r4 r5 rl e0 e1 e2 e3 e4 e5 e6 e7 e8 el z0 z1 z2 z3 z4 z5 z6 z7 z8
  obtain ⟨r0, r1, r2, r3, r4, r5, rl, e0, e1, e2, e3, e4, e5, e6, e7, e8, el, z0, z1, z2, z3, z4, z5, z6, z7, z8⟩ := HQ6.out.c
  dsimp only [evBad, nilV] at r0 r1 r2 r3 r4 r5 e0 e1 e2 e3 e4 e5 e6 e7 e8
  have FIN2 : Hid (Q (.returned (.bool true)) w5) := FIN.out w5 _ A3 HQ6.out.rep HQ6.out.st
  go_wp2_with fail
  exact FIN2.out
theorem probe_notf (R : VRep w A σ.m σ.f σ.e) (hG : RegIn r) (C : Cat1 cm0 cm1 cm2 cm3 cm4) (ha : fitD r.a = true) (hb : fitD r.b = false) : Calls Tryz.prog 21 #[.pointer (some ⟨A.b, 0, none⟩), r.val] w fun e' w' => e' = .returned (.bool true) ∧ ∃ σ' A', VRep w' A' (St.m σ') (St.f σ') (St.e σ') ∧ VSt isVM w A w' A' := by
  obtain ⟨Q, HQ⟩ : ∃ Q : Ending → World → Prop, Hid ((fun e' w' => e' = .returned (.bool true) ∧ ∃ σ' A', VRep w' A' (St.m σ') (St.f σ') (St.e σ') ∧ VSt isVM w A w' A') = Q) := ⟨_, rfl⟩
  rw [HQ.out]
  have FIN : Hid (∀ W σ' A', VRep W A' (St.m σ') (St.f σ') (St.e σ') → VSt isVM w A W A' → Q (.returned (.bool true)) W) := fun W σ' A' h1 h2 => by rw [← HQ.out]; exact ⟨rfl, σ', A', h1, h2⟩
  have HR : Hid (VRep w A σ.m σ.f σ.e) := R
  obtain ⟨⟨ct, cn, cs⟩, ⟨dt, dn, ds⟩⟩ := r
  obtain ⟨g1, g2⟩ := hG
  dsimp only at g1 g2 ha hb
  have HF0 : Hid (Fr (fun _ => False) w (w.alloc (.cells (regCells ⟨⟨ct, cn, cs⟩, ⟨dt, dn, ds⟩⟩) 35))) := (Fr.refl _ _).alloc _
  have HB3 : Hid (Has (w.alloc (.cells (regCells ⟨⟨ct, cn, cs⟩, ⟨dt, dn, ds⟩⟩) 35)) w.heap.size (regCells ⟨⟨ct, cn, cs⟩, ⟨dt, dn, ds⟩⟩) 35) := Has.new _ _ _
  have hq1 : ∀ W, (binOp .neq 85 (.agg #[.int .i64 4, .int .i64 1, .int .i64 0, .int .i64 0, .int .u64 0, .string ⟨#[]⟩, .int .i64 0, .int .u64 0, .string ⟨#[]⟩]) (.agg #[.int .i64 4, .int .i64 1, .int .i64 0, .int .i64 0, .int .u64 0, .string ⟨#[]⟩, .int .i64 0, .int .u64 0, .string ⟨#[]⟩])).run Tryz.prog W = .ok (.bool false) W := fun W => ev_neq ⟨4, 1, 0, nilV, nilV⟩ W
  have HFA : Hid (∀ W, Calls Tryz.prog 38 #[.agg #[.int .i64 ct, .int .u64 cn, sv cs]] W fun e' w' => e' = .returned (.bool true) ∧ Fr (fun _ => False) W w') := fun W => by have h := fit_any (w := W) ⟨ct, cn, cs⟩ g1; rw [ha] at h; exact h
  have HFB : Hid (∀ W, Calls Tryz.prog 38 #[.agg #[.int .i64 dt, .int .u64 dn, sv ds]] W fun e' w' => e' = .returned (.bool false) ∧ Fr (fun _ => False) W w') := fun W => by have h := fit_any (w := W) ⟨dt, dn, ds⟩ g2; rw [hb] at h; exact h
  have HHN : Hid (fitD ⟨ct, cn, cs⟩ = false ∨ fitD ⟨dt, dn, ds⟩ = false) := .inr hb
  clear ha hb
  clear R
  go_enter Tryz.func21, Tryz.ntmps21
  go_wp2_with fail
  refine (pr_load C (by kernel_rfl) rfl (HR.out.fresh HF0.out)).mono ?_
  rintro e' w1 ⟨rfl, A1, R1, S1⟩
  have HR1 : Hid (VRep w1 A1 cm0 9 0) := R1
  have HS1 : Hid (VSt isVM (w.alloc (.cells (regCells ⟨⟨ct, cn, cs⟩, ⟨dt, dn, ds⟩⟩) 35)) A w1 A1) := S1
  clear R1 S1
  go_wp2_with fail
  refine (pr_1 C HS1.out.b HR1.out).mono ?_
  rintro e' w2 ⟨he, A2, ⟨R2, D2⟩, S2⟩
  have he : e' = .returned (.agg #[.int .i64 4, .int .i64 1, .int .i64 0, .int .i64 0, .int .u64 0, .string ⟨#[]⟩, .int .i64 0, .int .u64 0, .string ⟨#[]⟩]) := he
  subst he
  have HD2 : Hid (DI ⟨cm1, 7, 0⟩) := D2
  have HP : Hid (PrS w A w.heap.size w2.heap.size ⟨⟨ct, cn, cs⟩, ⟨dt, dn, ds⟩⟩ ⟨4, 1, 0, nilV, nilV⟩ ⟨cm1, 7, 0⟩ (w2.alloc (.cells #[.int .i64 4, .int .i64 1, .int .i64 0, .int .i64 0, .int .u64 0, .string ⟨#[]⟩, .int .i64 0, .int .u64 0, .string ⟨#[]⟩] 85)) A2) := by
    have k1 := HS1.out.keep (HR.out.own _ (Nat.le_refl _)) HB3.out
    have k2 := S2.keep k1.1 k1.2
    have hsz : w.heap.size < w2.heap.size := k2.2.lt
    exact ⟨R2.fresh ((Fr.refl _ _).alloc _), (((VSt.fresh HF0.out).trans HS1.out).trans S2).trans (VSt.fresh ((Fr.refl _ _).alloc _)), k2.2.alloc _, k2.1, Has.newC _ _ _ rfl, R2.own _ (Nat.le_refl _), by omega, by omega⟩
  have k0 : Has w2 w.heap.size (regCells ⟨⟨ct, cn, cs⟩, ⟨dt, dn, ds⟩⟩) 35 := by
    have k1 := HS1.out.keep (HR.out.own _ (Nat.le_refl _)) HB3.out
    exact (S2.keep k1.1 k1.2).2
  have r0 : w2.cell? ⟨w.heap.size, 0, none⟩ = some (.int .i64 ct) := k0.cell 0
  have r1 : w2.cell? ⟨w.heap.size, 1, none⟩ = some (.int .u64 cn) := k0.cell 1
  have r2 : w2.cell? ⟨w.heap.size, 2, none⟩ = some (sv cs) := k0.cell 2
  have r3 : w2.cell? ⟨w.heap.size, 3, none⟩ = some (.int .i64 dt) := k0.cell 3
  have r4 : w2.cell? ⟨w.heap.size, 4, none⟩ = some (.int .u64 dn) := k0.cell 4
  have r5 : w2.cell? ⟨w.heap.size, 5, none⟩ = some (sv ds) := k0.cell 5
  have rl := k0.lt
  clear k0 R2 D2 S2
  go_wp2_with fail
  refine (pr_2n C (a := ⟨ct, cn, cs⟩) (c := ⟨dt, dn, ds⟩) HP.out.b HD2.out HP.out.rep g1 g2 HHN.out).mono ?_
  rintro e' w3 ⟨he, A3, R3, S3⟩
  have he : e' = .returned (.agg #[.int .i64 6, .int .i64 0, .int .i64 0, .int .i64 0, .int .u64 0, .string ⟨#[]⟩, .int .i64 0, .int .u64 0, .string ⟨#[]⟩]) := he
  subst he
  have HQ3 : Hid (PrS w A w.heap.size w2.heap.size ⟨⟨ct, cn, cs⟩, ⟨dt, dn, ds⟩⟩ ⟨4, 1, 0, nilV, nilV⟩ ⟨cm1, 7, 0⟩ w3 A3) := HP.out.step (σ2 := ⟨cm1, 7, 0⟩) S3 R3
  clear R3 S3
  obtain ⟨b6, HB6⟩ : ∃ b, Hid (w2.heap.size = b) := ⟨_, rfl⟩
  obtain ⟨b3, HB3'⟩ : ∃ b, Hid (w.heap.size = b) := ⟨_, rfl⟩
  rw [HB6.out] at HQ3 ⊢
  rw [HB3'.out] at HQ3 ⊢
  clear r0 r1 r2 r3 r4 r5 rl HP
  obtain ⟨r0, r1, r2, r3, r4, r5, rl, e0, e1, e2, e3, e4, e5, e6, e7, e8, el, z0, z1, z2, z3, z4, z5, z6, z7, z8⟩ := HQ3.out.c
  have hne1 : ¬ b3 = b6 := HQ3.out.ne
  have hne2 : ¬ b6 = b3 := fun e => hne1 e.symm
  dsimp only at r0 r1 r2 r3 r4 r5 e0 e1 e2 e3 e4 e5 e6 e7 e8
  have HQ4 : Hid (PrS w A b3 b6 ⟨⟨ct, cn, cs⟩, ⟨dt, dn, ds⟩⟩ evBad ⟨cm1, 7, 0⟩ (set9 w3 b6 evBad) A3) := HQ3.out.set evBad
  go_wp2_with fail
  refine (HFA.out _).mono ?_
  rintro e' w4 ⟨rfl, F4⟩
  have HQ5 : Hid (PrS w A b3 b6 ⟨⟨ct, cn, cs⟩, ⟨dt, dn, ds⟩⟩ evBad ⟨cm1, 7, 0⟩ w4 A3) := PrS.fresh (W := set9 w3 b6 evBad) HQ4.out F4
  clear F4 HQ4 HQ3 r0 r1 r2 r3 r4 r5 rl e0 e1 e2 e3 e4 e5 e6 e7 e8 el z0 z1 z2 z3 z4 z5 z6 z7 z8
  obtain ⟨r0, r1, r2, r3, r4, r5, rl, e0, e1, e2, e3, e4, e5, e6, e7, e8, el, z0, z1, z2, z3, z4, z5, z6, z7, z8⟩ := HQ5.out.c
  dsimp only [evBad, nilV] at r0 r1 r2 r3 r4 r5 e0 e1 e2 e3 e4 e5 e6 e7 e8
  go_wp2_with fail
  refine (HFB.out _).mono ?_
  rintro e' w5 ⟨rfl, F5⟩
  have HQ6 : Hid (PrS w A b3 b6 ⟨⟨ct, cn, cs⟩, ⟨dt, dn, ds⟩⟩ evBad ⟨cm1, 7, 0⟩ w5 A3) := HQ5.out.fresh F5
  clear F5 HQ5 r0 r1 r2 r3 r4 r5 rl e0 e1 e2 e3 e4 e5 e6 e7 e8 el z0 z1 z2 z3 z4 z5 z6 z7 z8
  obtain ⟨r0, r1, r2, r3, r4, r5, rl, e0, e1, e2, e3, e4, e5, e6, e7, e8, el, z0, z1, z2, z3, z4, z5, z6, z7, z8⟩ := HQ6.out.c
  dsimp only [evBad, nilV] at r0 r1 r2 r3 r4 r5 e0 e1 e2 e3 e4 e5 e6 e7 e8
  have FIN2 : Hid (Q (.returned (.bool true)) w5) := FIN.out w5 _ A3 HQ6.out.rep HQ6.out.st
  go_wp2_with fail
  exact FIN2.out
end
end Go.Proofs.Qxb6500579aGreat
