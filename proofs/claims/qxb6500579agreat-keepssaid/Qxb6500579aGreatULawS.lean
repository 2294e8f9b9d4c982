/-
  THE WALK of vmlaw: held: what it carries along.
-/
import Derived.Test.Qxb6500579aGreatULawR
namespace Go.Proofs.Qxb6500579aGreat
open Go Go.RowKit
set_option linter.unusedVariables false
set_option linter.unusedSimpArgs false
/-- a step of the law -/
def StepR (σ : St) (r : RegD) (o : OpD) (x : AnsD) (σ' : St) : Prop := if o.k = 12 then x = ⟨0, 0, 0, [], []⟩ ∧ σ' = stS else DoR σ r o x σ'
/-- what held makes of its own -/
abbrev heW (w : World) (A : VL) (r : RegD) (o : OpD) : World := ((((w.alloc (.cells #[.pointer (some ⟨A.b, 0, none⟩), .pointer (some ⟨A.bn, 0, none⟩), .pointer (some ⟨A.bt, 0, none⟩)] 29)).alloc (.cells (regCells r) 35)).alloc (.cells #[.int .i64 o.k, .int .i64 o.a, .int .i64 o.b, .int .i64 o.c, sv o.s, sv o.t] 37)).alloc (.cells #[.int .i64 0, .int .i64 0, .int .i64 0, sv [], sv []] 41))
/-- within held: the boxes of its arguments, its answer's block -/
structure HeS (w : World) (A : VL) (r : RegD) (o : OpD) (σ1 : St) (W : World) (A1 : VL) : Prop where
  rep : VRep W A1 σ1.m σ1.f σ1.e
  st : VSt isVM w A W A1
  h3 : Has W w.heap.size #[.pointer (some ⟨A.b, 0, none⟩), .pointer (some ⟨A.bn, 0, none⟩), .pointer (some ⟨A.bt, 0, none⟩)] 29
  o3 : A1.o w.heap.size = 0
  h4 : Has W (w.heap.size + 1) (regCells r) 35
  o4 : A1.o (w.heap.size + 1) = 0
  h5 : Has W (w.heap.size + 1 + 1) #[.int .i64 o.k, .int .i64 o.a, .int .i64 o.b, .int .i64 o.c, sv o.s, sv o.t] 37
  o5 : A1.o (w.heap.size + 1 + 1) = 0
  h6 : Has W (w.heap.size + 1 + 1 + 1) #[.int .i64 0, .int .i64 0, .int .i64 0, sv [], sv []] 41
  o6 : A1.o (w.heap.size + 1 + 1 + 1) = 0
section
variable {w W W1 : World} {A A1 A2 : VL} {r : RegD} {o : OpD} {σ σ1 σ2 : St}
theorem HeS.start (R : VRep w A σ.m σ.f σ.e) : HeS w A r o σ (heW w A r o) A := by
  have f : Fr (fun _ => False) w (heW w A r o) := ((((Fr.refl _ _).alloc _).alloc _).alloc _).alloc _
  refine ⟨R.fresh f, VSt.fresh f, ?_, R.own _ (by omega), ?_, R.own _ (by omega), ?_, R.own _ (by omega), ?_, R.own _ (by omega)⟩
  · exact (((Has.newC _ _ _ rfl).alloc _).alloc _).alloc _
  · exact ((Has.newC _ _ _ (by simp)).alloc _).alloc _
  · exact (Has.newC _ _ _ (by simp)).alloc _
  · exact Has.newC _ _ _ (by simp)
theorem HeS.fresh (h : HeS w A r o σ1 W A1) (f : Fr (fun _ => False) W W1) : HeS w A r o σ1 W1 A1 :=
  ⟨h.rep.fresh f, h.st.trans (VSt.fresh f), h.h3.fr f (fun x => x), h.o3, h.h4.fr f (fun x => x), h.o4, h.h5.fr f (fun x => x), h.o5, h.h6.fr f (fun x => x), h.o6⟩
theorem HeS.step (h : HeS w A r o σ1 W A1) (S : VSt isVM W A1 W1 A2) (R : VRep W1 A2 σ2.m σ2.f σ2.e) : HeS w A r o σ2 W1 A2 :=
  ⟨R, h.st.trans S, (S.keep h.o3 h.h3).2, (S.keep h.o3 h.h3).1, (S.keep h.o4 h.h4).2, (S.keep h.o4 h.h4).1, (S.keep h.o5 h.h5).2, (S.keep h.o5 h.h5).1, (S.keep h.o6 h.h6).2, (S.keep h.o6 h.h6).1⟩
theorem HeS.b (h : HeS w A r o σ1 W A1) : A1.b = A.b := h.st.b
/-- what is read -/
structure HeC (w : World) (A : VL) (r : RegD) (o : OpD) (W : World) : Prop where
  s0 : W.cell? ⟨w.heap.size, 0, none⟩ = some (.pointer (some ⟨A.b, 0, none⟩))
  s1 : W.cell? ⟨w.heap.size, 1, none⟩ = some (.pointer (some ⟨A.bn, 0, none⟩))
  s2 : W.cell? ⟨w.heap.size, 2, none⟩ = some (.pointer (some ⟨A.bt, 0, none⟩))
  r0 : W.cell? ⟨w.heap.size + 1, 0, none⟩ = some (.int .i64 r.a.t)
  r1 : W.cell? ⟨w.heap.size + 1, 1, none⟩ = some (.int .u64 r.a.n)
  r2 : W.cell? ⟨w.heap.size + 1, 2, none⟩ = some (sv r.a.s)
  r3 : W.cell? ⟨w.heap.size + 1, 3, none⟩ = some (.int .i64 r.b.t)
  r4 : W.cell? ⟨w.heap.size + 1, 4, none⟩ = some (.int .u64 r.b.n)
  r5 : W.cell? ⟨w.heap.size + 1, 5, none⟩ = some (sv r.b.s)
  p0 : W.cell? ⟨w.heap.size + 1 + 1, 0, none⟩ = some (.int .i64 o.k)
  p1 : W.cell? ⟨w.heap.size + 1 + 1, 1, none⟩ = some (.int .i64 o.a)
  p2 : W.cell? ⟨w.heap.size + 1 + 1, 2, none⟩ = some (.int .i64 o.b)
  p3 : W.cell? ⟨w.heap.size + 1 + 1, 3, none⟩ = some (.int .i64 o.c)
  p4 : W.cell? ⟨w.heap.size + 1 + 1, 4, none⟩ = some (sv o.s)
  p5 : W.cell? ⟨w.heap.size + 1 + 1, 5, none⟩ = some (sv o.t)
  a0 : W.cell? ⟨w.heap.size + 1 + 1 + 1, 0, none⟩ = some (.int .i64 0)
  a1 : W.cell? ⟨w.heap.size + 1 + 1 + 1, 1, none⟩ = some (.int .i64 0)
  a2 : W.cell? ⟨w.heap.size + 1 + 1 + 1, 2, none⟩ = some (.int .i64 0)
  a3 : W.cell? ⟨w.heap.size + 1 + 1 + 1, 3, none⟩ = some (sv [])
  a4 : W.cell? ⟨w.heap.size + 1 + 1 + 1, 4, none⟩ = some (sv [])
  z0 : W.frozen? ⟨w.heap.size + 1 + 1 + 1, 0, none⟩ = false
  z1 : W.frozen? ⟨w.heap.size + 1 + 1 + 1, 1, none⟩ = false
  z2 : W.frozen? ⟨w.heap.size + 1 + 1 + 1, 2, none⟩ = false
  z3 : W.frozen? ⟨w.heap.size + 1 + 1 + 1, 3, none⟩ = false
  z4 : W.frozen? ⟨w.heap.size + 1 + 1 + 1, 4, none⟩ = false
  l3 : w.heap.size < W.heap.size
  l4 : w.heap.size + 1 < W.heap.size
  l5 : w.heap.size + 1 + 1 < W.heap.size
  l6 : w.heap.size + 1 + 1 + 1 < W.heap.size
theorem HeS.c (h : HeS w A r o σ1 W A1) : HeC w A r o W := ⟨h.h3.cell 0, h.h3.cell 1, h.h3.cell 2, h.h4.cell 0, h.h4.cell 1, h.h4.cell 2, h.h4.cell 3, h.h4.cell 4, h.h4.cell 5, h.h5.cell 0, h.h5.cell 1, h.h5.cell 2, h.h5.cell 3, h.h5.cell 4, h.h5.cell 5, h.h6.cell 0, h.h6.cell 1, h.h6.cell 2, h.h6.cell 3, h.h6.cell 4, h.h6.frozen 0, h.h6.frozen 1, h.h6.frozen 2, h.h6.frozen 3, h.h6.frozen 4, h.h3.lt, h.h4.lt, h.h5.lt, h.h6.lt⟩
/-- the answer is stored -/
theorem HeS.fin (h : HeS w A r o σ1 W A1) (x0 x1 x2 x3 x4 : Value) :
    VRep (((((W.setCell ⟨w.heap.size + 1 + 1 + 1, 0, none⟩ x0).setCell ⟨w.heap.size + 1 + 1 + 1, 1, none⟩ x1).setCell ⟨w.heap.size + 1 + 1 + 1, 2, none⟩ x2).setCell ⟨w.heap.size + 1 + 1 + 1, 3, none⟩ x3).setCell ⟨w.heap.size + 1 + 1 + 1, 4, none⟩ x4) A1 σ1.m σ1.f σ1.e ∧ VSt isVM w A (((((W.setCell ⟨w.heap.size + 1 + 1 + 1, 0, none⟩ x0).setCell ⟨w.heap.size + 1 + 1 + 1, 1, none⟩ x1).setCell ⟨w.heap.size + 1 + 1 + 1, 2, none⟩ x2).setCell ⟨w.heap.size + 1 + 1 + 1, 3, none⟩ x3).setCell ⟨w.heap.size + 1 + 1 + 1, 4, none⟩ x4) A1 ∧ Has (((((W.setCell ⟨w.heap.size + 1 + 1 + 1, 0, none⟩ x0).setCell ⟨w.heap.size + 1 + 1 + 1, 1, none⟩ x1).setCell ⟨w.heap.size + 1 + 1 + 1, 2, none⟩ x2).setCell ⟨w.heap.size + 1 + 1 + 1, 3, none⟩ x3).setCell ⟨w.heap.size + 1 + 1 + 1, 4, none⟩ x4) (w.heap.size + 1 + 1 + 1) #[x0, x1, x2, x3, x4] 41 :=
  ans_fin h.st h.rep (by omega) h.o6 h.h6 x0 x1 x2 x3 x4
end
end Go.Proofs.Qxb6500579aGreat
