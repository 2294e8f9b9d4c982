/-
  THE WALK of vmlaw: Probe2.
-/
import Derived.Test.Qxb6500579aGreatULawQ5
namespace Go.Proofs.Qxb6500579aGreat
open Go Go.RowKit
set_option linter.unusedVariables false
set_option linter.unusedSimpArgs false
/-- within Probe2: the side's block, the event's block -/
structure P2S (w : World) (A : VL) (b3 b6 : Nat) (ev : EvD) (σ1 : St) (W : World) (A1 : VL) : Prop where
  rep : VRep W A1 σ1.m σ1.f σ1.e
  st : VSt isVM w A W A1
  h3 : Has W b3 #[.pointer (some ⟨A.b, 0, none⟩), .pointer (some ⟨A.bn, 0, none⟩), .pointer (some ⟨A.bt, 0, none⟩)] 29
  o3 : A1.o b3 = 0
  h6 : Has W b6 (evCells ev) 85
  o6 : A1.o b6 = 0
  ne : b3 ≠ b6
  g6 : w.heap.size ≤ b6
section
variable {w W W1 : World} {A A1 A2 : VL} {b3 b6 : Nat} {ev : EvD} {σ1 σ2 : St}
theorem P2S.fresh (h : P2S w A b3 b6 ev σ1 W A1) (f : Fr (fun _ => False) W W1) : P2S w A b3 b6 ev σ1 W1 A1 :=
  ⟨h.rep.fresh f, h.st.trans (VSt.fresh f), h.h3.fr f (fun x => x), h.o3, h.h6.fr f (fun x => x), h.o6, h.ne, h.g6⟩
theorem P2S.step (h : P2S w A b3 b6 ev σ1 W A1) (S : VSt isVM W A1 W1 A2) (R : VRep W1 A2 σ2.m σ2.f σ2.e) : P2S w A b3 b6 ev σ2 W1 A2 :=
  ⟨R, h.st.trans S, (S.keep h.o3 h.h3).2, (S.keep h.o3 h.h3).1, (S.keep h.o6 h.h6).2, (S.keep h.o6 h.h6).1, h.ne, h.g6⟩
theorem P2S.set (h : P2S w A b3 b6 ev σ1 W A1) (y : EvD) : P2S w A b3 b6 y σ1 (set9 W b6 y) A1 :=
  ⟨h.rep.set9 h.o6 y, h.st.set9 h.g6 y, has_set9_ne h.h3 h.ne y, h.o3, Has.set9 y h.h6, h.o6, h.ne, h.g6⟩
theorem P2S.b (h : P2S w A b3 b6 ev σ1 W A1) : A1.b = A.b := h.st.b
/-- what is read -/
structure P2C (W : World) (A : VL) (b3 b6 : Nat) (ev : EvD) : Prop where
  r0 : W.cell? ⟨b3, 0, none⟩ = some (.pointer (some ⟨A.b, 0, none⟩))
  r1 : W.cell? ⟨b3, 1, none⟩ = some (.pointer (some ⟨A.bn, 0, none⟩))
  r2 : W.cell? ⟨b3, 2, none⟩ = some (.pointer (some ⟨A.bt, 0, none⟩))
  rl : b3 < W.heap.size
  e0 : W.cell? ⟨b6, 0, none⟩ = some (.int .i64 ev.k)
  e1 : W.cell? ⟨b6, 1, none⟩ = some (.int .i64 ev.th)
  e2 : W.cell? ⟨b6, 2, none⟩ = some (.int .i64 ev.e)
  e3 : W.cell? ⟨b6, 3, none⟩ = some (.int .i64 ev.v.t)
  e4 : W.cell? ⟨b6, 4, none⟩ = some (.int .u64 ev.v.n)
  e5 : W.cell? ⟨b6, 5, none⟩ = some (sv ev.v.s)
  e6 : W.cell? ⟨b6, 6, none⟩ = some (.int .i64 ev.w.t)
  e7 : W.cell? ⟨b6, 7, none⟩ = some (.int .u64 ev.w.n)
  e8 : W.cell? ⟨b6, 8, none⟩ = some (sv ev.w.s)
  el : b6 < W.heap.size
  z0 : W.frozen? ⟨b6, 0, none⟩ = false
  z1 : W.frozen? ⟨b6, 1, none⟩ = false
  z2 : W.frozen? ⟨b6, 2, none⟩ = false
  z3 : W.frozen? ⟨b6, 3, none⟩ = false
  z4 : W.frozen? ⟨b6, 4, none⟩ = false
  z5 : W.frozen? ⟨b6, 5, none⟩ = false
  z6 : W.frozen? ⟨b6, 6, none⟩ = false
  z7 : W.frozen? ⟨b6, 7, none⟩ = false
  z8 : W.frozen? ⟨b6, 8, none⟩ = false
theorem P2S.c (h : P2S w A b3 b6 ev σ1 W A1) : P2C W A b3 b6 ev :=
  ⟨h.h3.cell 0, h.h3.cell 1, h.h3.cell 2, h.h3.lt, h.h6.cell 0, h.h6.cell 1, h.h6.cell 2, h.h6.cell 3, h.h6.cell 4, h.h6.cell 5, h.h6.cell 6, h.h6.cell 7, h.h6.cell 8, h.h6.lt, h.h6.frozen 0, h.h6.frozen 1, h.h6.frozen 2, h.h6.frozen 3, h.h6.frozen 4, h.h6.frozen 5, h.h6.frozen 6, h.h6.frozen 7, h.h6.frozen 8⟩
end
section
variable {W : World} {A1 : VL} {b : Nat} {d0 d1 d2 s0 s1 : VMD}
theorem p2_load9 (E : Cat2 d0 d1 d2 s0 s1) {σ : St} {s : Bs} (hs : s = cat2) (hb : A1.b = b) (R : VRep W A1 σ.m σ.f σ.e) : Calls Tryz.prog 36 #[.pointer (some ⟨b, 0, none⟩), sv s, .int .i64 9] W fun e' w' => e' = .returned (.int .i64 0) ∧ ∃ A2, VRep w' A2 d0 9 0 ∧ VSt isVM W A1 w' A2 := by
  subst hs
  have h := load_all R cat2 (fuel := 9) (by omega)
  rw [loadS_ok E.load2, hb] at h
  exact h
theorem p2_load9_di (E : Cat2 d0 d1 d2 s0 s1) : DI ⟨d0, 9, 0⟩ := by
  have h := loadS_di cat2 (fuel := 9) (by omega)
  rw [loadS_ok E.load2] at h
  exact h
theorem p2_load6 (E : Cat2 d0 d1 d2 s0 s1) {σ : St} {s : Bs} (hs : s = cat2) (hb : A1.b = b) (R : VRep W A1 σ.m σ.f σ.e) : Calls Tryz.prog 36 #[.pointer (some ⟨b, 0, none⟩), sv s, .int .i64 6] W fun e' w' => e' = .returned (.int .i64 0) ∧ ∃ A2, VRep w' A2 d0 6 0 ∧ VSt isVM W A1 w' A2 := by
  subst hs
  have h := load_all R cat2 (fuel := 6) (by omega)
  rw [loadS_ok E.load2, hb] at h
  exact h
theorem p2_load6_di (E : Cat2 d0 d1 d2 s0 s1) : DI ⟨d0, 6, 0⟩ := by
  have h := loadS_di cat2 (fuel := 6) (by omega)
  rw [loadS_ok E.load2] at h
  exact h
theorem p2_loadS (E : Cat2 d0 d1 d2 s0 s1) {σ : St} {s : Bs} (hs : s = catS) (hb : A1.b = b) (R : VRep W A1 σ.m σ.f σ.e) : Calls Tryz.prog 36 #[.pointer (some ⟨b, 0, none⟩), sv s, .int .i64 3] W fun e' w' => e' = .returned (.int .i64 0) ∧ ∃ A2, VRep w' A2 s0 3 0 ∧ VSt isVM W A1 w' A2 := by
  subst hs
  have h := load_all R catS (fuel := 3) (by omega)
  rw [loadS_ok E.load3, hb] at h
  exact h
theorem p2_loadS_di (E : Cat2 d0 d1 d2 s0 s1) : DI ⟨s0, 3, 0⟩ := by
  have h := loadS_di catS (fuel := 3) (by omega)
  rw [loadS_ok E.load3] at h
  exact h
theorem p2_x1 (E : Cat2 d0 d1 d2 s0 s1) (hb : A1.b = b) (R : VRep W A1 d0 9 0) : Calls Tryz.prog 37 #[.pointer (some ⟨b, 0, none⟩), .int .i64 0, .agg #[.int .i64 0, .int .u64 0, .string ⟨#[]⟩], .agg #[.int .i64 0, .int .u64 0, .string ⟨#[]⟩]] W fun e' w' => e' = .returned (.agg #[.int .i64 1, .int .i64 0, .int .i64 0, .int .i64 3, .int .u64 0, .string ⟨#[49, 52, 44, 49, 49, 44, 49]⟩, .int .i64 3, .int .u64 0, .string ⟨#[112, 113, 114]⟩]) ∧ ∃ A2, (VRep w' A2 (d1) 2 0 ∧ DI ⟨d1, 2, 0⟩) ∧ VSt isVM W A1 w' A2 := by
  have h := exec_all (σ := ⟨d0, 9, 0⟩) R (p2_load9_di E) (i := 0) (by omega) nil_lt nil_lt
  rw [hb] at h
  refine h.mono ?_
  rintro e' w' ⟨ev, σ', A', rfl, hx, R', S'⟩
  have hd := hx.di (p2_load9_di E) nil_lt nil_lt
  obtain ⟨rfl, rfl⟩ := pr_exD1 E hx
  exact ⟨rfl, A', ⟨R', hd⟩, S'⟩
theorem p2_x2 (E : Cat2 d0 d1 d2 s0 s1) (hb : A1.b = b) (R : VRep W A1 d0 6 0) : Calls Tryz.prog 37 #[.pointer (some ⟨b, 0, none⟩), .int .i64 0, .agg #[.int .i64 0, .int .u64 0, .string ⟨#[]⟩], .agg #[.int .i64 0, .int .u64 0, .string ⟨#[]⟩]] W fun e' w' => e' = .returned (.agg #[.int .i64 5, .int .i64 0, .int .i64 9, .int .i64 0, .int .u64 0, .string ⟨#[]⟩, .int .i64 0, .int .u64 0, .string ⟨#[]⟩]) ∧ ∃ A2, (VRep w' A2 (wipeD d2) 0 9 ∧ DI ⟨wipeD d2, 0, 9⟩) ∧ VSt isVM W A1 w' A2 := by
  have h := exec_all (σ := ⟨d0, 6, 0⟩) R (p2_load6_di E) (i := 0) (by omega) nil_lt nil_lt
  rw [hb] at h
  refine h.mono ?_
  rintro e' w' ⟨ev, σ', A', rfl, hx, R', S'⟩
  have hd := hx.di (p2_load6_di E) nil_lt nil_lt
  obtain ⟨rfl, rfl⟩ := pr_exD2 E hx
  exact ⟨rfl, A', ⟨R', hd⟩, S'⟩
theorem p2_x3 (E : Cat2 d0 d1 d2 s0 s1) (hb : A1.b = b) (R : VRep W A1 s0 3 0) : Calls Tryz.prog 37 #[.pointer (some ⟨b, 0, none⟩), .int .i64 0, .agg #[.int .i64 0, .int .u64 0, .string ⟨#[]⟩], .agg #[.int .i64 0, .int .u64 0, .string ⟨#[]⟩]] W fun e' w' => e' = .returned (.agg #[.int .i64 5, .int .i64 0, .int .i64 9, .int .i64 0, .int .u64 0, .string ⟨#[]⟩, .int .i64 0, .int .u64 0, .string ⟨#[]⟩]) ∧ ∃ A2, (VRep w' A2 (wipeD s1) 0 9 ∧ DI ⟨wipeD s1, 0, 9⟩) ∧ VSt isVM W A1 w' A2 := by
  have h := exec_all (σ := ⟨s0, 3, 0⟩) R (p2_loadS_di E) (i := 0) (by omega) nil_lt nil_lt
  rw [hb] at h
  refine h.mono ?_
  rintro e' w' ⟨ev, σ', A', rfl, hx, R', S'⟩
  have hd := hx.di (p2_loadS_di E) nil_lt nil_lt
  obtain ⟨rfl, rfl⟩ := pr_exS E hx
  exact ⟨rfl, A', ⟨R', hd⟩, S'⟩
end
section
variable {w : World} {A : VL} {σ : St}
set_option maxRecDepth 100000
set_option maxHeartbeats 2000000
theorem probe2_any (R : VRep w A σ.m σ.f σ.e) : Calls Tryz.prog 22 #[sideV A] w fun e' w' => e' = .returned (.bool true) ∧ ∃ A', VRep w' A' stS.m stS.f stS.e ∧ VSt isVM w A w' A' := by
  obtain ⟨d0, d1, d2, s0, s1, E⟩ := cat2_ex
  obtain ⟨Q, HQ⟩ : ∃ Q : Ending → World → Prop, Hid ((fun e' w' => e' = .returned (.bool true) ∧ ∃ A', VRep w' A' stS.m stS.f stS.e ∧ VSt isVM w A w' A') = Q) := ⟨_, rfl⟩
  rw [HQ.out]
  have FIN : Hid (∀ W A', VRep W A' (wipeD s1) 0 9 → VSt isVM w A W A' → Q (.returned (.bool true)) W) := fun W A' h1 h2 => by rw [← HQ.out, ← E.fin]; exact ⟨rfl, A', h1, h2⟩
  have HR : Hid (VRep w A σ.m σ.f σ.e) := R
  have HF0 : Hid (Fr (fun _ => False) w (w.alloc (.cells #[.pointer (some ⟨A.b, 0, none⟩), .pointer (some ⟨A.bn, 0, none⟩), .pointer (some ⟨A.bt, 0, none⟩)] 29))) := (Fr.refl _ _).alloc _
  have HB3 : Hid (Has (w.alloc (.cells #[.pointer (some ⟨A.b, 0, none⟩), .pointer (some ⟨A.bn, 0, none⟩), .pointer (some ⟨A.bt, 0, none⟩)] 29)) w.heap.size #[.pointer (some ⟨A.b, 0, none⟩), .pointer (some ⟨A.bn, 0, none⟩), .pointer (some ⟨A.bt, 0, none⟩)] 29) := Has.new _ _ _
  have hq1 : ∀ W, (binOp .neq 85 (.agg #[.int .i64 1, .int .i64 0, .int .i64 0, .int .i64 3, .int .u64 0, .string ⟨#[49, 52, 44, 49, 49, 44, 49]⟩, .int .i64 3, .int .u64 0, .string ⟨#[112, 113, 114]⟩]) (.agg #[.int .i64 1, .int .i64 0, .int .i64 0, .int .i64 3, .int .u64 0, .string ⟨#[49, 52, 44, 49, 49, 44, 49]⟩, .int .i64 3, .int .u64 0, .string ⟨#[112, 113, 114]⟩])).run Tryz.prog W = .ok (.bool false) W := fun W => ev_neq ⟨1, 0, 0, strV [49, 52, 44, 49, 49, 44, 49], strV [112, 113, 114]⟩ W
  have hq2 : ∀ W, (binOp .neq 85 (.agg #[.int .i64 5, .int .i64 0, .int .i64 9, .int .i64 0, .int .u64 0, .string ⟨#[]⟩, .int .i64 0, .int .u64 0, .string ⟨#[]⟩]) (.agg #[.int .i64 5, .int .i64 0, .int .i64 9, .int .i64 0, .int .u64 0, .string ⟨#[]⟩, .int .i64 0, .int .u64 0, .string ⟨#[]⟩])).run Tryz.prog W = .ok (.bool false) W := fun W => ev_neq ⟨5, 0, 9, nilV, nilV⟩ W
  have hq3 : ∀ W, (binOp .eql 85 (.agg #[.int .i64 5, .int .i64 0, .int .i64 9, .int .i64 0, .int .u64 0, .string ⟨#[]⟩, .int .i64 0, .int .u64 0, .string ⟨#[]⟩]) (.agg #[.int .i64 5, .int .i64 0, .int .i64 9, .int .i64 0, .int .u64 0, .string ⟨#[]⟩, .int .i64 0, .int .u64 0, .string ⟨#[]⟩])).run Tryz.prog W = .ok (.bool true) W := fun W => ev_eql ⟨5, 0, 9, nilV, nilV⟩ W
  clear R
  unfold sideV
  go_enter Tryz.func22, Tryz.ntmps22
  go_wp2_with fail
  refine (p2_load9 E (by kernel_rfl) rfl (HR.out.fresh HF0.out)).mono ?_
  rintro e' w1 ⟨rfl, A1, R1, S1⟩
  have HR1 : Hid (VRep w1 A1 d0 9 0) := R1
  have HS1 : Hid (VSt isVM (w.alloc (.cells #[.pointer (some ⟨A.b, 0, none⟩), .pointer (some ⟨A.bn, 0, none⟩), .pointer (some ⟨A.bt, 0, none⟩)] 29)) A w1 A1) := S1
  have k1 := S1.keep (HR.out.own _ (Nat.le_refl _)) HB3.out
  have HK1 : Hid (A1.o w.heap.size = 0 ∧ Has w1 w.heap.size #[.pointer (some ⟨A.b, 0, none⟩), .pointer (some ⟨A.bn, 0, none⟩), .pointer (some ⟨A.bt, 0, none⟩)] 29) := k1
  have r0 : w1.cell? ⟨w.heap.size, 0, none⟩ = some (.pointer (some ⟨A.b, 0, none⟩)) := k1.2.cell 0
  have rl := k1.2.lt
  clear R1 S1 k1
  go_wp2_with fail
  refine (p2_x1 E HS1.out.b HR1.out).mono ?_
  rintro e' w2 ⟨rfl, A2, ⟨R2, D2⟩, S2⟩
  have HP : Hid (P2S w A w.heap.size w2.heap.size ⟨1, 0, 0, strV [49, 52, 44, 49, 49, 44, 49], strV [112, 113, 114]⟩ ⟨d1, 2, 0⟩ (w2.alloc (.cells #[.int .i64 1, .int .i64 0, .int .i64 0, .int .i64 3, .int .u64 0, .string ⟨#[49, 52, 44, 49, 49, 44, 49]⟩, .int .i64 3, .int .u64 0, .string ⟨#[112, 113, 114]⟩] 85)) A2) := by
    have k2 := S2.keep HK1.out.1 HK1.out.2
    have hsz : w.heap.size < w2.heap.size := k2.2.lt
    exact ⟨R2.fresh ((Fr.refl _ _).alloc _), (((VSt.fresh HF0.out).trans HS1.out).trans S2).trans (VSt.fresh ((Fr.refl _ _).alloc _)), k2.2.alloc _, k2.1, Has.newC _ _ _ rfl, R2.own _ (Nat.le_refl _), by omega, by omega⟩
  have k2 := S2.keep HK1.out.1 HK1.out.2
  have r0 : w2.cell? ⟨w.heap.size, 0, none⟩ = some (.pointer (some ⟨A.b, 0, none⟩)) := k2.2.cell 0
  have r1 : w2.cell? ⟨w.heap.size, 1, none⟩ = some (.pointer (some ⟨A.bn, 0, none⟩)) := k2.2.cell 1
  have r2 : w2.cell? ⟨w.heap.size, 2, none⟩ = some (.pointer (some ⟨A.bt, 0, none⟩)) := k2.2.cell 2
  have rl := k2.2.lt
  have hab : A2.b = A.b := HP.out.b
  have HO : Hid (∀ W, VRep W A2 d1 2 0 → Calls Tryz.prog 24 #[.pointer (some ⟨A.b, 0, none⟩)] W fun e' w' => e' = .returned (.string ⟨#[102, 97, 108, 115, 101, 10, 118, 10]⟩) ∧ w' = W) := fun W hW => by
    have h := out_any hW
    rw [E.d1_out, hab] at h
    exact h
  have HFu : Hid (∀ W, VRep W A2 d1 2 0 → Calls Tryz.prog 23 #[.pointer (some ⟨A.b, 0, none⟩)] W fun e' w' => e' = .returned (.int .i64 2) ∧ w' = W) := fun W hW => by
    have h := fuel_any hW
    rw [hab] at h
    exact h
  clear R2 D2 S2 k2 hab
  go_wp2_with fail
  refine (HO.out _ HP.out.rep).mono ?_
  rintro e' w3 ⟨rfl, rfl⟩
  go_wp2_with fail
  refine (HFu.out _ HP.out.rep).mono ?_
  rintro e' w3 ⟨rfl, rfl⟩
  go_wp2_with fail
  refine (p2_load6 E (by kernel_rfl) HP.out.b HP.out.rep).mono ?_
  rintro e' w3 ⟨rfl, A3, R3, S3⟩
  have HQ3 : Hid (P2S w A w.heap.size w2.heap.size ⟨1, 0, 0, strV [49, 52, 44, 49, 49, 44, 49], strV [112, 113, 114]⟩ ⟨d0, 6, 0⟩ w3 A3) := HP.out.step (σ2 := ⟨d0, 6, 0⟩) S3 R3
  obtain ⟨b6, HB6⟩ : ∃ b, Hid (w2.heap.size = b) := ⟨_, rfl⟩
  obtain ⟨b3, HB3'⟩ : ∃ b, Hid (w.heap.size = b) := ⟨_, rfl⟩
  rw [HB6.out] at HQ3 ⊢
  rw [HB3'.out] at HQ3 ⊢
  clear R3 S3 r0 r1 r2 rl HP HO HFu
  obtain ⟨r0, r1, r2, rl, e0, e1, e2, e3, e4, e5, e6, e7, e8, el, z0, z1, z2, z3, z4, z5, z6, z7, z8⟩ := HQ3.out.c
  dsimp only [nilV, strV] at r0 r1 r2 e0 e1 e2 e3 e4 e5 e6 e7 e8
  have hne1 : ¬ b3 = b6 := HQ3.out.ne
  have hne2 : ¬ b6 = b3 := fun e => hne1 e.symm
  obtain ⟨TX, HTX⟩ : ∃ x, Hid (showT d0.tabs = x) := ⟨_, rfl⟩
  have HTb : Hid (Calls Tryz.prog 8 #[.agg #[.pointer (some ⟨A.bn, 0, none⟩), .pointer (some ⟨A.bt, 0, none⟩)]] w3 fun e' w' => e' = .returned (sv TX) ∧ Fr (fun _ => False) w3 w') := by
    have h := tabs_all (σ := ⟨d0, 6, 0⟩) HQ3.out.rep (p2_load6_di E)
    rw [HQ3.out.st.bn, HQ3.out.st.bt] at h
    dsimp only at h
    rw [HTX.out] at h
    exact h
  have htl : TX.length ≤ 1000 := by rw [← HTX.out]; exact E.d0_tlen
  obtain ⟨TY, HTY⟩ : ∃ x, Hid (TX ++ [91, 115, 49, 58, 107, 61, 115, 49, 58, 118, 59, 93] = x) := ⟨TX ++ [91, 115, 49, 58, 107, 61, 115, 49, 58, 118, 59, 93], Eq.refl (TX ++ [91, 115, 49, 58, 107, 61, 115, 49, 58, 118, 59, 93])⟩
  have hap : (⟨TX.toArray⟩ : ByteArray) ++ ⟨#[91, 115, 49, 58, 107, 61, 115, 49, 58, 118, 59, 93]⟩ = ⟨TY.toArray⟩ := by rw [← HTY.out]; exact sv_app TX [91, 115, 49, 58, 107, 61, 115, 49, 58, 118, 59, 93]
  go_wp2_with fail
  refine HTb.out.mono ?_
  rintro e' w4 ⟨rfl, F4⟩
  have HQ4 : Hid (P2S w A b3 b6 ⟨1, 0, 0, strV [49, 52, 44, 49, 49, 44, 49], strV [112, 113, 114]⟩ ⟨d0, 6, 0⟩ w4 A3) := HQ3.out.fresh F4
  clear F4 HTb HQ3 r0 r1 r2 rl e0 e1 e2 e3 e4 e5 e6 e7 e8 el z0 z1 z2 z3 z4 z5 z6 z7 z8
  obtain ⟨r0, r1, r2, rl, e0, e1, e2, e3, e4, e5, e6, e7, e8, el, z0, z1, z2, z3, z4, z5, z6, z7, z8⟩ := HQ4.out.c
  dsimp only [nilV, strV] at r0 r1 r2 e0 e1 e2 e3 e4 e5 e6 e7 e8
  go_wp2_with fail
  refine (p2_x2 E HQ4.out.b HQ4.out.rep).mono ?_
  rintro e' w5 ⟨rfl, A5, ⟨R5, D5⟩, S5⟩
  have HD5 : Hid (DI ⟨wipeD d2, 0, 9⟩) := D5
  have HQ5 : Hid (P2S w A b3 b6 ⟨1, 0, 0, strV [49, 52, 44, 49, 49, 44, 49], strV [112, 113, 114]⟩ ⟨wipeD d2, 0, 9⟩ w5 A5) := HQ4.out.step (σ2 := ⟨wipeD d2, 0, 9⟩) S5 R5
  clear R5 S5 D5 HQ4 r0 r1 r2 rl e0 e1 e2 e3 e4 e5 e6 e7 e8 el z0 z1 z2 z3 z4 z5 z6 z7 z8
  obtain ⟨r0, r1, r2, rl, e0, e1, e2, e3, e4, e5, e6, e7, e8, el, z0, z1, z2, z3, z4, z5, z6, z7, z8⟩ := HQ5.out.c
  dsimp only [nilV, strV] at r0 r1 r2 e0 e1 e2 e3 e4 e5 e6 e7 e8
  have HQ6 : Hid (P2S w A b3 b6 ⟨5, 0, 9, nilV, nilV⟩ ⟨wipeD d2, 0, 9⟩ (set9 w5 b6 ⟨5, 0, 9, nilV, nilV⟩) A5) := HQ5.out.set ⟨5, 0, 9, nilV, nilV⟩
  have hab : A5.b = A.b := HQ5.out.b
  have HO : Hid (∀ W, VRep W A5 (wipeD d2) 0 9 → Calls Tryz.prog 24 #[.pointer (some ⟨A.b, 0, none⟩)] W fun e' w' => e' = .returned (.string ⟨#[102, 97, 108, 115, 101, 10, 118, 10]⟩) ∧ w' = W) := fun W hW => by
    have h := out_any hW
    rw [show (wipeD d2).out = d2.out from rfl, E.d2_out, hab] at h
    exact h
  have HFu : Hid (∀ W, VRep W A5 (wipeD d2) 0 9 → Calls Tryz.prog 23 #[.pointer (some ⟨A.b, 0, none⟩)] W fun e' w' => e' = .returned (.int .i64 0) ∧ w' = W) := fun W hW => by
    have h := fuel_any hW
    rw [hab] at h
    exact h
  have HTb : Hid (∀ W, P2S w A b3 b6 ⟨5, 0, 9, nilV, nilV⟩ ⟨wipeD d2, 0, 9⟩ W A5 → Calls Tryz.prog 8 #[.agg #[.pointer (some ⟨A.bn, 0, none⟩), .pointer (some ⟨A.bt, 0, none⟩)]] W fun e' w' => e' = .returned (sv TY) ∧ Fr (fun _ => False) W w') := fun W hW => by
    have h := tabs_all (σ := ⟨wipeD d2, 0, 9⟩) hW.rep HD5.out
    rw [hW.st.bn, hW.st.bt] at h
    dsimp only at h
    rw [E.d2_tabs, HTX.out, HTY.out] at h
    exact h
  clear hab
  go_wp2_with fail
  refine (HO.out _ HQ6.out.rep).mono ?_
  rintro e' w6 ⟨rfl, rfl⟩
  go_wp2_with fail
  refine (HFu.out _ HQ6.out.rep).mono ?_
  rintro e' w6 ⟨rfl, rfl⟩
  go_wp2_with fail
  refine (HTb.out _ HQ6.out).mono ?_
  rintro e' w6 ⟨rfl, F6⟩
  have HQ7 : Hid (P2S w A b3 b6 ⟨5, 0, 9, nilV, nilV⟩ ⟨wipeD d2, 0, 9⟩ w6 A5) := P2S.fresh (W := set9 w5 b6 ⟨5, 0, 9, nilV, nilV⟩) HQ6.out F6
  clear F6 HTb HO HFu HQ6 HQ5 r0 r1 r2 rl e0 e1 e2 e3 e4 e5 e6 e7 e8 el z0 z1 z2 z3 z4 z5 z6 z7 z8
  obtain ⟨r0, r1, r2, rl, e0, e1, e2, e3, e4, e5, e6, e7, e8, el, z0, z1, z2, z3, z4, z5, z6, z7, z8⟩ := HQ7.out.c
  dsimp only [nilV, strV] at r0 r1 r2 e0 e1 e2 e3 e4 e5 e6 e7 e8
  go_wp2_with fail
  refine (p2_loadS E (by kernel_rfl) HQ7.out.b HQ7.out.rep).mono ?_
  rintro e' w7 ⟨rfl, A7, R7, S7⟩
  have HQ8 : Hid (P2S w A b3 b6 ⟨5, 0, 9, nilV, nilV⟩ ⟨s0, 3, 0⟩ w7 A7) := HQ7.out.step (σ2 := ⟨s0, 3, 0⟩) S7 R7
  clear R7 S7 HQ7 r0 r1 r2 rl e0 e1 e2 e3 e4 e5 e6 e7 e8 el z0 z1 z2 z3 z4 z5 z6 z7 z8
  obtain ⟨r0, r1, r2, rl, e0, e1, e2, e3, e4, e5, e6, e7, e8, el, z0, z1, z2, z3, z4, z5, z6, z7, z8⟩ := HQ8.out.c
  dsimp only [nilV, strV] at r0 r1 r2 e0 e1 e2 e3 e4 e5 e6 e7 e8
  go_wp2_with fail
  refine (p2_x3 E HQ8.out.b HQ8.out.rep).mono ?_
  rintro e' w8 ⟨rfl, A8, ⟨R8, D8⟩, S8⟩
  have HQ9 : Hid (P2S w A b3 b6 ⟨5, 0, 9, nilV, nilV⟩ ⟨wipeD s1, 0, 9⟩ w8 A8) := HQ8.out.step (σ2 := ⟨wipeD s1, 0, 9⟩) S8 R8
  clear R8 S8 D8 HQ8 r0 r1 r2 rl e0 e1 e2 e3 e4 e5 e6 e7 e8 el z0 z1 z2 z3 z4 z5 z6 z7 z8
  obtain ⟨r0, r1, r2, rl, e0, e1, e2, e3, e4, e5, e6, e7, e8, el, z0, z1, z2, z3, z4, z5, z6, z7, z8⟩ := HQ9.out.c
  dsimp only [nilV, strV] at r0 r1 r2 e0 e1 e2 e3 e4 e5 e6 e7 e8
  have HQA : Hid (P2S w A b3 b6 ⟨5, 0, 9, nilV, nilV⟩ ⟨wipeD s1, 0, 9⟩ (set9 w8 b6 ⟨5, 0, 9, nilV, nilV⟩) A8) := HQ9.out.set ⟨5, 0, 9, nilV, nilV⟩
  have hab : A8.b = A.b := HQ9.out.b
  have HFu : Hid (∀ W, VRep W A8 (wipeD s1) 0 9 → Calls Tryz.prog 23 #[.pointer (some ⟨A.b, 0, none⟩)] W fun e' w' => e' = .returned (.int .i64 0) ∧ w' = W) := fun W hW => by
    have h := fuel_any hW
    rw [hab] at h
    exact h
  clear hab
  have FIN2 : Hid (Q (.returned (.bool true)) (set9 w8 b6 ⟨5, 0, 9, nilV, nilV⟩)) := FIN.out _ A8 HQA.out.rep HQA.out.st
  go_wp2_with fail
  refine (HFu.out _ HQA.out.rep).mono ?_
  rintro e' w9 ⟨rfl, rfl⟩
  go_wp2_with fail
  exact FIN2.out
end
end Go.Proofs.Qxb6500579aGreat
