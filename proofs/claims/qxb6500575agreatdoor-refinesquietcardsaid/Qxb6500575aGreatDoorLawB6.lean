/-
  BOTH MACHINES: how their states correspond; what a run of the model comes to on the flat side. No program.
-/
import Derived.Test.Qxb6500575aGreatDoorLawB5
namespace Go.Proofs.Qxb6500575aGreatDoor
open Go Go.RowKit
set_option linter.unusedVariables false
set_option linter.unusedSimpArgs false

theorem fsteps_add {τ : Type} {P : ProgD} {H : HF τ} {fuel : Int} : ∀ (j j' : Nat) (k k1 k2 : FC τ), fsteps P H fuel j k = some k1 → fsteps P H fuel j' k1 = some k2 → fsteps P H fuel (j + j') k = some k2
  | 0, j', k, k1, k2, h, h' => by
    simp [fsteps] at h
    subst h
    rw [Nat.zero_add]; exact h'
  | j + 1, j', k, k1, k2, h, h' => by
    rw [fsteps] at h
    rw [Nat.add_right_comm, fsteps]
    split at h
    · rename_i h0
      rw [if_pos h0]
      exact fsteps_add j j' _ k1 k2 h h'
    · cases h
theorem fsteps_one {τ : Type} {P : ProgD} {H : HF τ} {fuel : Int} {k k' : FC τ} {v : List V} (h : fround P H fuel k = ⟨0, v, k'⟩) : fsteps P H fuel 1 k = some k' := by
  rw [fsteps, h]
  rfl
/-- a function of the program, its source, its flat code -/
structure FnB (P : ProgD) (srcs : List (List Ins)) (f : Nat) (fu : FunD) (fs : List Ins) (fc : List Flat) : Prop where
  u : P.funs[f]? = some fu
  src : srcs[f - P.nimp.toNat]? = some fs
  code : P.codes[f]? = some fc
  imp : P.nimp ≤ f
  body : Body ⟨P.funs, fu⟩ fs fc
  len : fs.length ≤ 24 ∧ 0 < fs.length
  imm : ∀ c ∈ fs, I64 c.imm
  ps : fu.params.length ≤ 3 ∧ fu.results.length ≤ 1 ∧ fu.locals.length ≤ 4
structure ProgB (P : ProgD) (srcs : List (List Ins)) : Prop where
  fn : ∀ f : Nat, P.nimp ≤ f → f < P.funs.length → ∃ u src C, FnB P srcs f u src C
  n0 : 0 ≤ P.nimp
  ps : ∀ u ∈ P.funs, u.params.length ≤ 3 ∧ u.results.length ≤ 1 ∧ u.locals.length ≤ 4
/-- the host: what it keeps, what it answers -/
structure HostB (P : ProgD) (H : HF HS) (I : HS → Prop) : Prop where
  lim : ∀ s, I s → s.2.1 ≤ 6 ∧ s.2.2.length ≤ 90000
  ans : ∀ s (g : Int) (args : List V) u, I s → P.funs[g.toNat]? = some u → 0 ≤ g → g < P.nimp → args.map V.ty = u.params →
    (H s g args).1.1 = s.1 ∧ ((H s g args).2.1 = 0 → I (H s g args).1 ∧ (H s g args).2.2.map V.ty = u.results ∧ FitL (H s g args).2.2) ∧ (H s g args).2.1 ≠ 1
/-- the model's state, by itself -/
structure CoM (I : HS → Prop) (fl : Int) (max : Nat) (m : MS) : Prop where
  fuel : m.x.fuel = fl
  memOk : MemOk m.mem max
  inv : I m.x.hs
  us : 0 ≤ m.x.used ∧ (m.x.used = 0 ∨ m.x.used ≤ fl)
/-- .. and the flat machine's -/
structure Co (max : Nat) (k : FC HS) (m : MS) : Prop where
  used : m.x.used = k.used
  n : m.x.n = k.n
  mem : m.mem = k.mem
  hs : m.x.hs = k.s
  max : k.max = max
/-- the frame that runs -/
structure InF (k : FC HS) (fn pc : Nat) (ops loc : List V) (rest : List FF) (E : Env) (ty : List UInt8) : Prop where
  fr : k.fr = ⟨fn, pc, ops, loc⟩ :: rest
  ty : ops.map V.ty = ty
  fit : FitL ops
  loc : loc.reverse.map V.ty = E.me.params ++ E.me.locals ∧ FitL loc
/-- the flat machine has left the frame f1 -/
def LeftF (P : ProgD) (H : HF HS) (fuel : Int) (max : Nat) (k : FC HS) (f1 : FF) (rest : List FF) (m : MS) : Prop :=
  ∃ j k1, fsteps P H fuel j k = some k1 ∧ fround P H fuel k1 = ⟨(fleave P f1 rest m.mem m.x.hs).t, if (fleave P f1 rest m.mem m.x.hs).t = 1 then (fleave P f1 rest m.mem m.x.hs).vs else [], ⟨if (fleave P f1 rest m.mem m.x.hs).t = 0 then (fleave P f1 rest m.mem m.x.hs).fr else [], m.x.used, m.x.n, m.mem, max, m.x.hs⟩⟩
/-- where a branch to the block t lands -/
def Ctl.to (t : Ctl) (src : List Ins) : Nat := posM src (if t.op = 2 then t.at_ else endT src t.at_).toNat
/-- what a run leans on -/
structure Px where
  P : ProgD
  srcs : List (List Ins)
  H : HF HS
  fuel : Int
  max : Nat
  I : HS → Prop
structure PxOk (A : Px) : Prop where
  prog : ProgB A.P A.srcs
  host : HostB A.P A.H A.I
  fuel : A.fuel ≤ 9223372036854775807
/-- the frame that runs, and what lies below it -/
structure Fx where
  fn : Nat
  u : FunD
  src : List Ins
  rest : List FF
  low : List V
abbrev Px.E (A : Px) (X : Fx) : Env := ⟨A.P.funs, X.u⟩
abbrev Px.run (A : Px) (N : Nat) (t : Tk) (m : MS) : Option Ot := srun A.P A.srcs A.H A.max N t m
/-- what a run comes to: a trap · it fell · a return · a branch to one of the labels cs -/
def Trap (A : Px) (k : FC HS) (o : Ot) : Prop := o.e ≠ 0 ∧ FEnds A.P A.H A.fuel k ⟨o.e, [], ⟨[], o.m.x.used, o.m.x.n, o.m.mem, A.max, o.m.x.hs⟩⟩
def Fell (A : Px) (X : Fx) (k : FC HS) (t : Ctl) (st : List UInt8) (o : Ot) : Prop :=
  o.e = 0 ∧ o.br = -1 ∧ ∃ j k' ops, fsteps A.P A.H A.fuel j k = some k' ∧ CoM A.I A.fuel A.max o.m ∧ Co A.max k' o.m ∧ InF k' X.fn (posM X.src (endT X.src t.at_).toNat) ops o.loc X.rest (A.E X) ((resOf t.bt).reverse ++ cut t.height st) ∧ o.m.x.st = ops ++ X.low ∧ k.used ≤ k'.used
def Retd (A : Px) (X : Fx) (k : FC HS) (o : Ot) : Prop :=
  o.e = 0 ∧ o.br = -2 ∧ ∃ f1 y, LeftF A.P A.H A.fuel A.max k f1 X.rest o.m ∧ CoM A.I A.fuel A.max o.m ∧ f1.fn = X.fn ∧ f1.ops.map V.ty = X.u.results.reverse ++ y ∧ FitL f1.ops ∧ o.m.x.st = f1.ops ++ X.low ∧ k.used ≤ o.m.x.used ∧ f1.ops.length ≤ 24
def Brd (A : Px) (X : Fx) (k : FC HS) (cs : List Ctl) (st : List UInt8) (o : Ot) : Prop :=
  o.e = 0 ∧ ∃ (l : Nat) (t : Ctl) (j : Nat) (k' : FC HS) (ops : List V), o.br = l ∧ cs[l]? = some t ∧ fsteps A.P A.H A.fuel j k = some k' ∧ CoM A.I A.fuel A.max o.m ∧ Co A.max k' o.m ∧ InF k' X.fn (t.to X.src) (ops.take t.label.length ++ ops.drop (ops.length - t.height)) o.loc X.rest (A.E X) (t.label.reverse ++ cut t.height st) ∧ o.m.x.st = ops ++ X.low ∧ t.label.length + t.height ≤ ops.length ∧ ops.length ≤ 24 ∧ FitL ops ∧ k.used < k'.used
def Res (A : Px) (X : Fx) (k : FC HS) (cs : List Ctl) (st : List UInt8) (o : Ot) : Prop :=
  Trap A k o ∨ (∃ t r, cs = t :: r ∧ Fell A X k t st o) ∨ Retd A X k o ∨ Brd A X k cs st o
section
variable {A : Px} {X : Fx} {k k2 : FC HS} {cs : List Ctl} {st st2 : List UInt8} {o : Ot} {j : Nat}
theorem Trap.pre (hj : fsteps A.P A.H A.fuel j k = some k2) (h : Trap A k2 o) : Trap A k o := ⟨h.1, FEnds.steps j k k2 hj h.2⟩
theorem Fell.pre (hj : fsteps A.P A.H A.fuel j k = some k2) (hu : k.used ≤ k2.used) {t : Ctl} (hc : cut t.height st2 = cut t.height st) (h : Fell A X k2 t st2 o) : Fell A X k t st o := by
  obtain ⟨h1, h2, j', k', ops, h3, h4, h5, h6, h7, h8⟩ := h
  rw [hc] at h6
  exact ⟨h1, h2, j + j', k', ops, fsteps_add j j' _ _ _ hj h3, h4, h5, h6, h7, by omega⟩
theorem LeftF.pre {f1 : FF} {m : MS} {rest : List FF} (hj : fsteps A.P A.H A.fuel j k = some k2) (h : LeftF A.P A.H A.fuel A.max k2 f1 rest m) : LeftF A.P A.H A.fuel A.max k f1 rest m := by
  obtain ⟨j', k1, h1, h2⟩ := h
  exact ⟨j + j', k1, fsteps_add j j' _ _ _ hj h1, h2⟩
theorem Retd.pre (hj : fsteps A.P A.H A.fuel j k = some k2) (hu : k.used ≤ k2.used) (h : Retd A X k2 o) : Retd A X k o := by
  obtain ⟨h1, h2, f1, y, h3, h4, h5, h6, h7, h8, h9, h10⟩ := h
  exact ⟨h1, h2, f1, y, h3.pre hj, h4, h5, h6, h7, h8, by omega, h10⟩
theorem Brd.pre (hj : fsteps A.P A.H A.fuel j k = some k2) (hu : k.used ≤ k2.used) (hc : ∀ t ∈ cs, cut t.height st2 = cut t.height st) (h : Brd A X k2 cs st2 o) : Brd A X k cs st o := by
  obtain ⟨h1, l, t, j', k', ops, h2, h3, h4, h5, h6, h7, h8, h9, h10, h11, h12⟩ := h
  rw [hc t (List.mem_of_getElem? h3)] at h7
  exact ⟨h1, l, t, j + j', k', ops, h2, h3, fsteps_add j j' _ _ _ hj h4, h5, h6, h7, h8, h9, h10, h11, by omega⟩
theorem Res.pre (hj : fsteps A.P A.H A.fuel j k = some k2) (hu : k.used ≤ k2.used) (hc : ∀ t ∈ cs, cut t.height st2 = cut t.height st) (h : Res A X k2 cs st2 o) : Res A X k cs st o := by
  rcases h with h | ⟨t, r, rfl, h⟩ | h | h
  · exact .inl (h.pre hj)
  · exact .inr (.inl ⟨t, r, rfl, h.pre hj hu (hc t (by simp))⟩)
  · exact .inr (.inr (.inl (h.pre hj hu)))
  · exact .inr (.inr (.inr (h.pre hj hu hc)))
end
/-- both machines, ahead of instruction i -/
structure NowB (A : Px) (X : Fx) (C : List Flat) (i : Nat) (s : Mk) (c : Ins) (k : FC HS) (m : MS) (ops loc : List V) : Prop where
  F : FnB A.P A.srcs X.fn X.u X.src C
  sf : SF (A.E X) X.src i s c
  live : Live s
  inf : InF k X.fn (posM X.src i) ops loc X.rest (A.E X) s.st
  com : CoM A.I A.fuel A.max m
  co : Co A.max k m
  st : m.x.st = ops ++ X.low
  r4 : X.rest.length < 4
  lw : X.low.length ≤ 27 * X.rest.length
  lf : FitL X.low
/-- a task of kind 0 -/
structure Tk0 (X : Fx) (i : Nat) (loc : List V) (t : Tk) : Prop where
  k : t.k = 0
  src : t.src = X.src
  i : t.i = i
  loc : t.loc = loc
  depth : t.depth = X.rest.length + 1
/-- the law for seq, up to a measure -/
def SeqLaw (A : Px) (μ : Nat) : Prop :=
  ∀ (X : Fx) (C : List Flat) (i : Nat) (s : Mk) (c : Ins) (k : FC HS) (m : MS) (ops loc : List V), NowB A X C i s c k m ops loc → (A.fuel - k.used).toNat * 100 + (X.src.length - i) ≤ μ → ∀ t : Tk, Tk0 X i loc t → ∃ N o, A.run N t m = some o ∧ Res A X k s.cs s.st o
end Go.Proofs.Qxb6500575aGreatDoor
