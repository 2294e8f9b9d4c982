/-
  THE WALK of vmlaw: Probe.
-/
import Derived.Test.Qxb6500579aGreatULawE
import Derived.Test.Qxb6500579aGreatUPr1
import Derived.Test.Qxb6500579aGreatVLoopW
namespace Go.Proofs.Qxb6500579aGreat
open Go Go.RowKit
set_option linter.unusedVariables false
set_option linter.unusedSimpArgs false
theorem VSt.keep {W W2 : World} {A1 A2 : VL} {b : Nat} {cs : Array Value} {T : TypeId} (S : VSt isVM W A1 W2 A2) (h0 : A1.o b = 0) (hB : Has W b cs T) : A2.o b = 0 ∧ Has W2 b cs T :=
  ⟨(S.st.ext b hB.lt).trans h0, S.st.has hB (by rw [h0]; exact fun x => x rfl)⟩
theorem set9_size (w : World) (b : Nat) (y : EvD) : (set9 w b y).heap.size = w.heap.size := by
  unfold set9
  simp only [World.size_setCell]
/-- within Probe: the registers' block, the event's block -/
structure PrS (w : World) (A : VL) (b3 b6 : Nat) (r : RegD) (ev : EvD) (σ1 : St) (W : World) (A1 : VL) : Prop where
  rep : VRep W A1 σ1.m σ1.f σ1.e
  st : VSt isVM w A W A1
  h3 : Has W b3 (regCells r) 35
  o3 : A1.o b3 = 0
  h6 : Has W b6 (evCells ev) 85
  o6 : A1.o b6 = 0
  ne : b3 ≠ b6
  g6 : w.heap.size ≤ b6
section
variable {w W W1 : World} {A A1 A2 : VL} {b3 b6 : Nat} {r : RegD} {ev : EvD} {σ1 σ2 : St}
theorem PrS.fresh (h : PrS w A b3 b6 r ev σ1 W A1) (f : Fr (fun _ => False) W W1) : PrS w A b3 b6 r ev σ1 W1 A1 :=
  ⟨h.rep.fresh f, h.st.trans (VSt.fresh f), h.h3.fr f (fun x => x), h.o3, h.h6.fr f (fun x => x), h.o6, h.ne, h.g6⟩
theorem PrS.step (h : PrS w A b3 b6 r ev σ1 W A1) (S : VSt isVM W A1 W1 A2) (R : VRep W1 A2 σ2.m σ2.f σ2.e) : PrS w A b3 b6 r ev σ2 W1 A2 :=
  ⟨R, h.st.trans S, (S.keep h.o3 h.h3).2, (S.keep h.o3 h.h3).1, (S.keep h.o6 h.h6).2, (S.keep h.o6 h.h6).1, h.ne, h.g6⟩
theorem PrS.set (h : PrS w A b3 b6 r ev σ1 W A1) (y : EvD) : PrS w A b3 b6 r y σ1 (set9 W b6 y) A1 :=
  ⟨h.rep.set9 h.o6 y, h.st.set9 h.g6 y, has_set9_ne h.h3 h.ne y, h.o3, Has.set9 y h.h6, h.o6, h.ne, h.g6⟩
theorem PrS.b (h : PrS w A b3 b6 r ev σ1 W A1) : A1.b = A.b := h.st.b
/-- what is read -/
structure PrC (W : World) (b3 b6 : Nat) (r : RegD) (ev : EvD) : Prop where
  r0 : W.cell? ⟨b3, 0, none⟩ = some (.int .i64 r.a.t)
  r1 : W.cell? ⟨b3, 1, none⟩ = some (.int .u64 r.a.n)
  r2 : W.cell? ⟨b3, 2, none⟩ = some (sv r.a.s)
  r3 : W.cell? ⟨b3, 3, none⟩ = some (.int .i64 r.b.t)
  r4 : W.cell? ⟨b3, 4, none⟩ = some (.int .u64 r.b.n)
  r5 : W.cell? ⟨b3, 5, none⟩ = some (sv r.b.s)
  rl : b3 < W.heap.size
  e0 : W.cell? ⟨b6, 0, none⟩ = some (.int .i64 ev.k)
  e1 : W.cell? ⟨b6, 1, none⟩ = some (.int .i64 ev.th)
  e2 : W.cell? ⟨b6, 2, none⟩ = some (.int .i64 ev.e)
  e3 : W.cell? ⟨b6, 3, none⟩ = some (.int .i64 ev.v.t)
  e4 : W.cell? ⟨b6, 4, none⟩ = some (.int .u64 ev.v.n)
  e5 : W.cell? ⟨b6, 5, none⟩ = some (sv ev.v.s)
  e6 : W.cell? ⟨b6, 6, none⟩ = some (.int .i64 ev.w.t)
  e7 : W.cell? ⟨b6, 7, none⟩ = some (.int .u64 ev.w.n)
  e8 : W.cell? ⟨b6, 8, none⟩ = some (sv ev.w.s)
  el : b6 < W.heap.size
  z0 : W.frozen? ⟨b6, 0, none⟩ = false
  z1 : W.frozen? ⟨b6, 1, none⟩ = false
  z2 : W.frozen? ⟨b6, 2, none⟩ = false
  z3 : W.frozen? ⟨b6, 3, none⟩ = false
  z4 : W.frozen? ⟨b6, 4, none⟩ = false
  z5 : W.frozen? ⟨b6, 5, none⟩ = false
  z6 : W.frozen? ⟨b6, 6, none⟩ = false
  z7 : W.frozen? ⟨b6, 7, none⟩ = false
  z8 : W.frozen? ⟨b6, 8, none⟩ = false
theorem PrS.c (h : PrS w A b3 b6 r ev σ1 W A1) : PrC W b3 b6 r ev :=
  ⟨h.h3.cell 0, h.h3.cell 1, h.h3.cell 2, h.h3.cell 3, h.h3.cell 4, h.h3.cell 5, h.h3.lt, h.h6.cell 0, h.h6.cell 1, h.h6.cell 2, h.h6.cell 3, h.h6.cell 4, h.h6.cell 5, h.h6.cell 6, h.h6.cell 7, h.h6.cell 8, h.h6.lt, h.h6.frozen 0, h.h6.frozen 1, h.h6.frozen 2, h.h6.frozen 3, h.h6.frozen 4, h.h6.frozen 5, h.h6.frozen 6, h.h6.frozen 7, h.h6.frozen 8⟩
end
theorem cm0_di {cm0 cm1 : VMD} {cm2 cm3 : Vl → Vl → VMD} {cm4 : Vl → Vl → Nat → VMD} (C : Cat1 cm0 cm1 cm2 cm3 cm4) : DI ⟨cm0, 9, 0⟩ := by
  have h := loadS_di cat1 (fuel := 9) (by omega)
  rw [loadS_ok C.load1] at h
  exact h
theorem nil_lt : nilV.n < 18446744073709551616 := by decide
section
variable {W : World} {A1 : VL} {b : Nat} {a c : Vl} {cm0 cm1 : VMD} {cm2 cm3 : Vl → Vl → VMD} {cm4 : Vl → Vl → Nat → VMD}
theorem pr_load (C : Cat1 cm0 cm1 cm2 cm3 cm4) {σ : St} {s : Bs} (hs : s = cat1) (hb : A1.b = b) (R : VRep W A1 σ.m σ.f σ.e) : Calls Tryz.prog 36 #[.pointer (some ⟨b, 0, none⟩), sv s, .int .i64 9] W fun e' w' => e' = .returned (.int .i64 0) ∧ ∃ A2, VRep w' A2 cm0 9 0 ∧ VSt isVM W A1 w' A2 := by
  subst hs
  have h := load_all R cat1 (fuel := 9) (by omega)
  rw [loadS_ok C.load1, hb] at h
  exact h
theorem pr_1 (C : Cat1 cm0 cm1 cm2 cm3 cm4) (hb : A1.b = b) (R : VRep W A1 cm0 9 0) : Calls Tryz.prog 37 #[.pointer (some ⟨b, 0, none⟩), .int .i64 0, nilV.val, nilV.val] W fun e' w' => e' = .returned (EvD.val ⟨4, 1, 0, nilV, nilV⟩) ∧ ∃ A2, (VRep w' A2 cm1 7 0 ∧ DI ⟨cm1, 7, 0⟩) ∧ VSt isVM W A1 w' A2 := by
  have h := exec_all (σ := ⟨cm0, 9, 0⟩) R (cm0_di C) (i := 0) (by omega) nil_lt nil_lt
  rw [hb] at h
  refine h.mono ?_
  rintro e' w' ⟨ev, σ', A', rfl, hx, R', S'⟩
  have hd := hx.di (cm0_di C) nil_lt nil_lt
  obtain ⟨rfl, rfl⟩ := pr_ex1 C hx
  exact ⟨rfl, A', ⟨R', hd⟩, S'⟩
theorem pr_2 (C : Cat1 cm0 cm1 cm2 cm3 cm4) (hb : A1.b = b) (D : DI ⟨cm1, 7, 0⟩) (R : VRep W A1 cm1 7 0) (na : a.n < 18446744073709551616) (nc : c.n < 18446744073709551616) (ha : fitD a = true) (hc : fitD c = true) : Calls Tryz.prog 37 #[.pointer (some ⟨b, 0, none⟩), .int .i64 1, a.val, c.val] W fun e' w' => e' = .returned (EvD.val ⟨3, 0, 0, a, nilV⟩) ∧ ∃ A2, (VRep w' A2 (cm2 a c) 6 0 ∧ DI ⟨cm2 a c, 6, 0⟩) ∧ VSt isVM W A1 w' A2 := by
  have h := exec_all (σ := ⟨cm1, 7, 0⟩) R D (i := 1) (by omega) na nc
  rw [hb] at h
  refine h.mono ?_
  rintro e' w' ⟨ev, σ', A', rfl, hx, R', S'⟩
  have hd := hx.di D na nc
  obtain ⟨rfl, rfl⟩ := pr_ex2 C ha hc hx
  exact ⟨rfl, A', ⟨R', hd⟩, S'⟩
theorem pr_2n (C : Cat1 cm0 cm1 cm2 cm3 cm4) (hb : A1.b = b) (D : DI ⟨cm1, 7, 0⟩) (R : VRep W A1 cm1 7 0) (na : a.n < 18446744073709551616) (nc : c.n < 18446744073709551616) (hn : fitD a = false ∨ fitD c = false) : Calls Tryz.prog 37 #[.pointer (some ⟨b, 0, none⟩), .int .i64 1, a.val, c.val] W fun e' w' => e' = .returned (EvD.val evBad) ∧ ∃ A2, VRep w' A2 cm1 7 0 ∧ VSt isVM W A1 w' A2 := by
  have h := exec_all (σ := ⟨cm1, 7, 0⟩) R D (i := 1) (by omega) na nc
  rw [hb] at h
  refine h.mono ?_
  rintro e' w' ⟨ev, σ', A', rfl, hx, R', S'⟩
  obtain ⟨rfl, rfl⟩ := pr_no2 C hn hx
  exact ⟨rfl, A', R', S'⟩
theorem pr_3 (C : Cat1 cm0 cm1 cm2 cm3 cm4) (hb : A1.b = b) (D : DI ⟨cm2 a c, 6, 0⟩) (R : VRep W A1 (cm2 a c) 6 0) (na : a.n < 18446744073709551616) (nc : c.n < 18446744073709551616) (ha : fitD a = true) (hc : fitD c = true) : Calls Tryz.prog 37 #[.pointer (some ⟨b, 0, none⟩), .int .i64 1, c.val, a.val] W fun e' w' => e' = .returned (EvD.val ⟨1, 0, 0, boolV (!truthy c), c⟩) ∧ ∃ A2, (VRep w' A2 (cm3 a c) (fu3 c) 0 ∧ DI ⟨cm3 a c, fu3 c, 0⟩) ∧ VSt isVM W A1 w' A2 := by
  have h := exec_all (σ := ⟨cm2 a c, 6, 0⟩) R D (i := 1) (by omega) nc na
  rw [hb] at h
  refine h.mono ?_
  rintro e' w' ⟨ev, σ', A', rfl, hx, R', S'⟩
  have hd := hx.di D nc na
  obtain ⟨rfl, rfl⟩ := pr_ex3 C ha hc hx
  exact ⟨rfl, A', ⟨R', hd⟩, S'⟩
theorem pr_4 (C : Cat1 cm0 cm1 cm2 cm3 cm4) (hb : A1.b = b) (D : DI ⟨cm3 a c, fu3 c, 0⟩) (R : VRep W A1 (cm3 a c) (fu3 c) 0) (na : a.n < 18446744073709551616) (nc : c.n < 18446744073709551616) (ha : fitD a = true) (hc : fitD c = true) : Calls Tryz.prog 37 #[.pointer (some ⟨b, 0, none⟩), .int .i64 0, a.val, c.val] W fun e' w' => e' = .returned (EvD.val ⟨1, 0, 0, if truthy a then c else a, boolV true⟩) ∧ ∃ A2, (VRep w' A2 (cm4 a c (fu3 c)) (fu3 c) 0 ∧ DI ⟨cm4 a c (fu3 c), fu3 c, 0⟩) ∧ VSt isVM W A1 w' A2 := by
  have h := exec_all (σ := ⟨cm3 a c, fu3 c, 0⟩) R D (i := 0) (by omega) na nc
  rw [hb] at h
  refine h.mono ?_
  rintro e' w' ⟨ev, σ', A', rfl, hx, R', S'⟩
  have hd := hx.di D na nc
  obtain ⟨rfl, rfl⟩ := pr_ex4 C ha hc hx
  exact ⟨rfl, A', ⟨R', hd⟩, S'⟩
end
end Go.Proofs.Qxb6500579aGreat
