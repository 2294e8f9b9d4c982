/-
  vm.plain: WHERE IT STANDS (the thread, its frame, its proto) and what it may lean on. No walk.
-/
import Derived.Test.Qxb6500574aGreatDoorVOper
import Derived.Test.Qxb6500574aGreatDoorVClos
import Derived.Test.Qxb6500574aGreatDoorVStore
import Derived.Test.Qxb6500574aGreatDoorReg8
namespace Go.Proofs.Qxb6500574aGreatDoor
open Go Go.RowKit
set_option linter.unusedVariables false
set_option linter.unusedSimpArgs false

/-- no stack is long -/
def Low (m : VMD) : Prop := ∀ (y : Nat) (u : ThD), m.ths[y]? = some u → u.stack.length ≤ 10000
/-- thread i in its frame fm (the j-th, of proto p) -/
structure PB (w : World) (A : VL) (m : VMD) (f e : Nat) (K : Cx) (i : Nat) (t : ThD) (fm : FmD) (g j gp pi : Nat) (p : PrD) : Prop where
  rep : VRep w A m f e
  at' : At K m i t fm
  room : Room K 0 t
  lay : ∃ l, A.X[i]? = some l ∧ l.f.a = some ⟨g, 0, none⟩
  hj : t.frames[j]? = some fm
  hp : m.protos[pi]? = some p
  pe : m.proto fm.clo = p
  pa : A.C.protos.a = some ⟨gp, 0, none⟩
  low : Low m
/-- the cells of it -/
structure PC (w : World) (A : VL) (m : VMD) (i : Nat) (t : ThD) (fm : FmD) (l : ThL) (g j gp pi : Nat) (p : PrD) : Prop where
  s2 : w.cell? ⟨A.bT, i * 5 + 2, none⟩ = some (.slice l.s.a t.stack.length l.s.c)
  sl : A.bT < w.heap.size
  f0 : w.cell? ⟨g, j * 5, none⟩ = some (.int .i64 fm.clo)
  f2 : w.cell? ⟨g, j * 5 + 2, none⟩ = some (.int .i64 fm.base)
  fl : g < w.heap.size
  p1 : w.cell? ⟨gp, pi * 8 + 1, none⟩ = some (.int .i64 p.ns)
  p4 : w.cell? ⟨gp, pi * 8 + 4, none⟩ = some (.int .i64 p.k)
  pl : gp < w.heap.size
  sc : t.stack.length ≤ l.s.c
  bs : fm.base + p.ns ≤ t.stack.length
  sn : t.stack.length ≤ 1120
  ns : p.ns ≤ 12
section
variable {w : World} {A : VL} {m : VMD} {f e i g j gp pi : Nat} {t : ThD} {l : ThL} {K : Cx} {fm : FmD} {p : PrD}
theorem PB.ns (h : PB w A m f e K i t fm g j gp pi p) : p.ns = K.ns fm.clo := by rw [← h.pe]; exact h.at'.vi.kn _ h.at'.clo
theorem PB.cells (h : PB w A m f e K i t fm g j gp pi p) : ∃ l, A.X[i]? = some l ∧ l.f.a = some ⟨g, 0, none⟩ ∧ PC w A m i t fm l g j gp pi p := by
  obtain ⟨l, hx, hg⟩ := h.lay
  have c2 := h.rep.thCell h.at'.hi hx (j := 2) (by omega)
  simp only [thCells, List.getElem?_cons_succ, List.getElem?_cons_zero, Sl.v] at c2
  have one := h.rep.one h.at'.hi hx
  obtain ⟨g1, a1, a2, a3, a4, a5, a6⟩ := one.f.at fCells_len h.hj
  dsimp only at a1
  rw [hg] at a1
  cases a1
  obtain ⟨g2, b1, b2, b3, b4, b5, b6⟩ := h.rep.core.protos.at pCells_len h.hp
  rw [h.pa] at b1
  cases b1
  have sn := h.at'.sl h.room
  have hns := h.ns
  have hb := h.at'.ok.fr.below h.at'.mem
  have n12 := h.at'.vi.ns12 _ h.at'.clo
  have q0 := a5 0 (by omega)
  have q2 := a5 2 (by omega)
  have r1 := b5 1 (by omega)
  have r4 := b5 4 (by omega)
  simp only [fCells, pCells, List.getElem?_cons_succ, List.getElem?_cons_zero, Nat.add_zero] at q0 q2 r1 r4
  refine ⟨l, hx, hg, c2, h.rep.ths.here.has.lt, q0, q2, a4, r1, r4, b4, ?_, by omega, sn, by omega⟩
  rcases one.s.form with ⟨x1, x2, x3⟩ | ⟨_, _, x2⟩
  · dsimp only at x2 x3; omega
  · exact x2
theorem PB.fresh {w1 : World} (h : PB w A m f e K i t fm g j gp pi p) (hf : Fr (fun _ => False) w w1) : PB w1 A m f e K i t fm g j gp pi p := ⟨h.rep.fresh hf, h.at', h.room, h.lay, h.hj, h.hp, h.pe, h.pa, h.low⟩
theorem PB.up (h : PB w A m f e K i t fm g j gp pi p) {x : Nat} (hx : x < (m.clos.getD fm.clo cl0).nup) : ∃ q c ce, UpAt m fm.clo x c q ce ∧ ((ce.th = -1 ∧ getUp m fm.clo x = ce.v) ∨ ∃ (y : Nat) (u : ThD) (v : Vl), ce.th = (y : Int) ∧ m.ths[y]? = some u ∧ u.stack[ce.pos]? = some v ∧ getUp m fm.clo x = v) := by
  obtain ⟨q, c, ce, h1, h2, h3, h4⟩ := UpAt_of h.at'.vi h.at'.clo hx
  have hu := UpL.le h.at'.vi h.at'.up
  have hcu := h.at'.vi.cu
  have e : m.cells.getD (m.upix.getD ((m.clos.getD fm.clo cl0).up + x) 0) ce0 = ce := by simp [h1, h2, h3]
  refine ⟨q, c, ce, ⟨h1, h2, h3, by have := h.at'.vi.kc; have := h.at'.vi.cn; omega, by omega, by omega⟩, ?_⟩
  rcases h4 with ⟨h4, _⟩ | ⟨y, u, v, h4, h5, h6, _⟩
  · left
    refine ⟨h4, ?_⟩
    unfold getUp
    dsimp only
    rw [e, if_neg (by omega)]
  · right
    refine ⟨y, u, v, h4, h5, h6, ?_⟩
    unfold getUp
    dsimp only
    rw [e, if_pos (by omega), h4]
    simp [VMD.th, h5, h6]
/-- values are popped -/
theorem PB.popped {w1 : World} (h : PB w A m f e K i t fm g j gp pi p) {r vs : List Vl} (hs : t.stack = r ++ vs) (hb : fm.base + p.ns ≤ r.length) (R : VRep w1 A (m.setTh i { t with stack := r }) f e) : PB w1 A (m.setTh i { t with stack := r }) f e K i { t with stack := r } fm g j gp pi p := by
  have il := h.at'.il
  have C := h.at'.cur.stk il r (fun v hv => h.at'.ok.sv v (by rw [hs]; simp [hv])) (fun f' hf' => by
    rw [h.at'.hf] at hf'
    cases hf'
    rw [← h.ns]
    exact hb) (by have := h.at'.mem; intro e; rw [e] at this; cases this)
  refine ⟨R, ⟨C.vi, C.up, C.hi, h.at'.st, h.at'.hf⟩, ?_, h.lay, h.hj, h.hp, h.pe, h.pa, ?_⟩
  · intro f' hf'
    have := h.room f' hf'
    rw [hs] at this
    simp at this ⊢
    omega
  · intro y u hu
    by_cases e : y = i
    · subst e
      rw [C.hi] at hu
      cases hu
      have := h.low y t h.at'.hi
      rw [hs] at this
      simp at this ⊢
      omega
    · unfold VMD.setTh at hu
      dsimp only at hu
      rw [List.getElem?_set_ne (Ne.symm e)] at hu
      exact h.low y u hu
theorem setUp_clo {clo x c : Nat} {q : ClD} {ce : CeD} (U : UpAt m clo x c q ce) (ht : ce.th = -1) (v : Vl) : setUp m clo x v = { m with cells := m.cells.set c { ce with v := v } } := by
  have e0 : m.upix.getD ((m.clos.getD clo cl0).up + x) 0 = c := by simp [U.hq, U.hx]
  have e1 : m.cells.getD c ce0 = ce := by simp [U.he]
  unfold setUp
  dsimp only
  rw [e0, e1, if_neg (by omega)]
theorem setUp_opn {clo x c : Nat} {q : ClD} {ce : CeD} (U : UpAt m clo x c q ce) {y : Nat} (ht : ce.th = (y : Int)) {u : ThD} (hu : m.ths[y]? = some u) (v : Vl) : setUp m clo x v = m.setTh y { u with stack := u.stack.set ce.pos v } := by
  have e0 : m.upix.getD ((m.clos.getD clo cl0).up + x) 0 = c := by simp [U.hq, U.hx]
  have e1 : m.cells.getD c ce0 = ce := by simp [U.he]
  unfold setUp
  dsimp only
  rw [e0, e1, if_pos (by omega), ht]
  simp [VMD.th, hu]
theorem plP_is (h : PB w A m f e K i t fm g j gp pi p) : topF m i = fm ∧ m.th i = t := ⟨h.at'.topF, th_get h.at'.hi⟩
end
end Go.Proofs.Qxb6500574aGreatDoor
