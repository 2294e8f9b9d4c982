/-
  moon: STATEMENTS BEGIN. Plain; no memory, no walk.
-/
import Derived.Test.Qxb6500574aGreatDoorZM31
namespace Go.Proofs.Qxb6500574aGreatDoor
set_option linter.unusedVariables false
set_option linter.unusedSimpArgs false
theorem Itm_2 {ops : List Vl} {ts : List TkD} {n x h w : Nat} {e : Option Nat} (it : Itm ops ts (h + 1) w) : Itm ops (⟨2, n, x, e⟩ :: ts) h w := by
  unfold Itm
  simp (config := { decide := true }) only [if_true, if_false]
  exact it
theorem Itm_else {ops : List Vl} {ts : List TkD} {q n x : Nat} {u : Option Nat} {h w : Nat} (hk : q ≠ 23 ∧ q ≠ 2 ∧ q ≠ 5 ∧ q ≠ 22 ∧ q ≠ 24 ∧ q ≠ 28 ∧ q ≠ 25 ∧ q ≠ 26 ∧ q ≠ 27) (it : Itm [] ts 0 0) : Itm ops (⟨q, n, x, u⟩ :: ts) h w := by
  obtain ⟨a, b, c, d, e, f, g, i, j⟩ := hk
  unfold Itm
  dsimp only
  by_cases h3 : q = 3
  · rw [if_pos h3]; trivial
  · rw [if_neg h3, if_neg a, if_neg b, if_neg c, if_neg d, if_neg (by omega), if_neg (by omega)]
    exact it.any
theorem Lay0.pre {N : List Nd} {D : CmD} {f : Nat} {L : List Bs} {r : En} {n p : Nat} {s : List In} {L' : List Bs} {lb ex : Nat} (h : Lay N D 0 ((f, L) :: r) n p s L' lb ex) : L <+: L' := by
  rcases h.out with ⟨z, _⟩ | ⟨z, _⟩ | ⟨z, _⟩ | ⟨_, h⟩
  · cases z
  · cases z
  · cases z
  · rcases h with ⟨_, e, _⟩ | ⟨_, e, _⟩ | ⟨_, e, _⟩ | ⟨_, e, _⟩ | ⟨_, e, _⟩ | ⟨_, e, _⟩ | ⟨_, e, _⟩ | ⟨_, e, _⟩ | ⟨_, e, _⟩ | ⟨_, e, _⟩ | ⟨_, e, _⟩
    all_goals first | (rw [e]; exact List.prefix_append _ _) | (rw [e]; exact List.prefix_refl _)
theorem Stmts.pre {N : List Nd} {D : CmD} {f : Nat} {r : En} {lb ex : Nat} : ∀ {l : List Nat} {L : List Bs} {p : Nat} {s : List In} {L' : List Bs}, Stmts (Lay N D) f r lb ex l L p s L' → L <+: L'
  | [], L, p, s, L', h => by rw [h.2]; exact List.prefix_refl _
  | x :: l, L, p, s, L', h => by
    obtain ⟨s1, s2, L1, _, h1, h2⟩ := h
    exact (Lay0.pre h1).trans (Stmts.pre h2)
theorem Lay0.v1 {N : List Nd} {D : CmD} {f : Nat} {L : List Bs} {r : En} {n p : Nat} {s : List In} {L' : List Bs} {lb ex : Nat} (h : Lay N D 0 ((f, L) :: r) n p s L' lb ex) (hd : (N.getD n nd0).k = 1) : L' = L ++ [(N.getD n nd0).s] ∧ L'.length ≤ (D.fn f).nslots ∧ ∃ s1, s = s1 ++ [(6, L.length)] ∧ Lay N D 1 ((f, L) :: r) (N.getD n nd0).a p s1 [] 0 0 := by
  rcases h.out with ⟨z, _⟩ | ⟨z, _⟩ | ⟨z, _⟩ | ⟨_, h⟩
  · cases z
  · cases z
  · cases z
  rcases h with g | g | g | g | g | g | g | g | g | g | g
  all_goals first
    | exact g.2
    | (exfalso; have z := g.1; simp only [hd] at z; omega)
theorem Lay0.v2 {N : List Nd} {D : CmD} {f : Nat} {L : List Bs} {r : En} {n p : Nat} {s : List In} {L' : List Bs} {lb ex : Nat} (h : Lay N D 0 ((f, L) :: r) n p s L' lb ex) (hd : (N.getD n nd0).k = 2) : L' = L ++ [(N.getD (N.getD n nd0).a nd0).s, (N.getD (N.getD (N.getD n nd0).a nd0).next nd0).s] ∧ L'.length ≤ (D.fn f).nslots ∧ ∃ s1, s = s1 ++ [(6, L.length + 1), (6, L.length)] ∧ Lay N D 2 ((f, L) :: r) (N.getD n nd0).b p s1 [] 0 0 := by
  rcases h.out with ⟨z, _⟩ | ⟨z, _⟩ | ⟨z, _⟩ | ⟨_, h⟩
  · cases z
  · cases z
  · cases z
  rcases h with g | g | g | g | g | g | g | g | g | g | g
  all_goals first
    | exact g.2
    | (exfalso; have z := g.1; simp only [hd] at z; omega)
theorem Lay0.v3 {N : List Nd} {D : CmD} {f : Nat} {L : List Bs} {r : En} {n p : Nat} {s : List In} {L' : List Bs} {lb ex : Nat} (h : Lay N D 0 ((f, L) :: r) n p s L' lb ex) (hd : (N.getD n nd0).k = 3) : L' = L ++ [(N.getD n nd0).s] ∧ L'.length ≤ (D.fn f).nslots ∧ ∃ s1, s = s1 ++ [(6, L.length)] ∧ Lay N D 1 ((f, L ++ [(N.getD n nd0).s]) :: r) (N.getD n nd0).a p s1 [] 0 0 := by
  rcases h.out with ⟨z, _⟩ | ⟨z, _⟩ | ⟨z, _⟩ | ⟨_, h⟩
  · cases z
  · cases z
  · cases z
  rcases h with g | g | g | g | g | g | g | g | g | g | g
  all_goals first
    | exact g.2
    | (exfalso; have z := g.1; simp only [hd] at z; omega)
theorem Lay0.v4 {N : List Nd} {D : CmD} {f : Nat} {L : List Bs} {r : En} {n p : Nat} {s : List In} {L' : List Bs} {lb ex : Nat} (h : Lay N D 0 ((f, L) :: r) n p s L' lb ex) (hd : (N.getD n nd0).k = 4) : L' = L ∧ (((N.getD (N.getD n nd0).a nd0).k = 17 ∧ ∃ s1 i, s = s1 ++ [i] ∧ Lay N D 1 ((f, L) :: r) (N.getD n nd0).b p s1 [] 0 0 ∧ VarR D f L r (N.getD (N.getD n nd0).a nd0).s 6 8 10 i) ∨
      ((N.getD (N.getD n nd0).a nd0).k ≠ 17 ∧ ∃ s1 s2 s3, s = s1 ++ s2 ++ s3 ++ [(12, 0)] ∧ Lay N D 1 ((f, L) :: r) (N.getD (N.getD n nd0).a nd0).a p s1 [] 0 0 ∧ Lay N D 1 ((f, L) :: r) (N.getD (N.getD n nd0).a nd0).b (p + s1.length) s2 [] 0 0 ∧ Lay N D 1 ((f, L) :: r) (N.getD n nd0).b (p + s1.length + s2.length) s3 [] 0 0)) := by
  rcases h.out with ⟨z, _⟩ | ⟨z, _⟩ | ⟨z, _⟩ | ⟨_, h⟩
  · cases z
  · cases z
  · cases z
  rcases h with g | g | g | g | g | g | g | g | g | g | g
  all_goals first
    | exact g.2
    | (exfalso; have z := g.1; simp only [hd] at z; omega)
theorem Lay0.v5 {N : List Nd} {D : CmD} {f : Nat} {L : List Bs} {r : En} {n p : Nat} {s : List In} {L' : List Bs} {lb ex : Nat} (h : Lay N D 0 ((f, L) :: r) n p s L' lb ex) (hd : (N.getD n nd0).k = 5) : L' = L ∧ ∃ s1, s = s1 ++ [(25, 0), (25, 0)] ∧ Lay N D 2 ((f, L) :: r) (N.getD n nd0).a p s1 [] 0 0 := by
  rcases h.out with ⟨z, _⟩ | ⟨z, _⟩ | ⟨z, _⟩ | ⟨_, h⟩
  · cases z
  · cases z
  · cases z
  rcases h with g | g | g | g | g | g | g | g | g | g | g
  all_goals first
    | exact g.2
    | (exfalso; have z := g.1; simp only [hd] at z; omega)
theorem Lay0.v6 {N : List Nd} {D : CmD} {f : Nat} {L : List Bs} {r : En} {n p : Nat} {s : List In} {L' : List Bs} {lb ex : Nat} (h : Lay N D 0 ((f, L) :: r) n p s L' lb ex) (hd : (N.getD n nd0).k = 6) : L' = L ∧ ∃ s1 s2 s3, s = s1 ++ (22, p + (s1.length + 1 + s2.length + 1)) :: s2 ++ (21, p + (s1.length + 1 + s2.length + 1 + s3.length)) :: s3 ∧ Lay N D 1 ((f, L) :: r) (N.getD n nd0).a p s1 [] 0 0 ∧ Lay N D 3 ((f, L) :: r) (N.getD n nd0).b (p + (s1.length + 1)) s2 L lb ex ∧ Lay N D 3 ((f, L) :: r) (N.getD n nd0).c (p + (s1.length + 1 + s2.length + 1)) s3 L lb ex := by
  rcases h.out with ⟨z, _⟩ | ⟨z, _⟩ | ⟨z, _⟩ | ⟨_, h⟩
  · cases z
  · cases z
  · cases z
  rcases h with g | g | g | g | g | g | g | g | g | g | g
  all_goals first
    | exact g.2
    | (exfalso; have z := g.1; simp only [hd] at z; omega)
theorem Lay0.v7 {N : List Nd} {D : CmD} {f : Nat} {L : List Bs} {r : En} {n p : Nat} {s : List In} {L' : List Bs} {lb ex : Nat} (h : Lay N D 0 ((f, L) :: r) n p s L' lb ex) (hd : (N.getD n nd0).k = 7) : L' = L ∧ ∃ s1 s2, s = s1 ++ (22, p + (s1.length + 1 + s2.length + 1)) :: s2 ++ [(21, p)] ∧ Lay N D 1 ((f, L) :: r) (N.getD n nd0).a p s1 [] 0 0 ∧ Lay N D 3 ((f, L) :: r) (N.getD n nd0).b (p + (s1.length + 1)) s2 L L.length (p + (s1.length + 1 + s2.length + 1)) := by
  rcases h.out with ⟨z, _⟩ | ⟨z, _⟩ | ⟨z, _⟩ | ⟨_, h⟩
  · cases z
  · cases z
  · cases z
  rcases h with g | g | g | g | g | g | g | g | g | g | g
  all_goals first
    | exact g.2
    | (exfalso; have z := g.1; simp only [hd] at z; omega)
theorem Lay0.v8 {N : List Nd} {D : CmD} {f : Nat} {L : List Bs} {r : En} {n p : Nat} {s : List In} {L' : List Bs} {lb ex : Nat} (h : Lay N D 0 ((f, L) :: r) n p s L' lb ex) (hd : (N.getD n nd0).k = 8) : L' = L ∧ L.length + 4 ≤ (D.fn f).nslots ∧ ∃ s1 s2 s3 s4 h e, h = p + (s1.length + 1 + s2.length + 1 + s3.length + 2) ∧ e = h + 4 + s4.length + 6 ∧
      s = s1 ++ (6, L.length) :: s2 ++ (6, L.length + 1) :: s3 ++ [(6, L.length + 2), (30, L.length), (31, L.length), (22, e), (5, L.length), (6, L.length + 3)] ++ s4 ++ [(29, L.length + 3), (5, L.length), (5, L.length + 2), (15, 1), (6, L.length), (21, h), (29, L.length)] ∧
      Lay N D 1 ((f, L) :: r) (N.getD n nd0).a p s1 [] 0 0 ∧ Lay N D 1 ((f, L ++ [[]]) :: r) (N.getD (N.getD n nd0).a nd0).next (p + (s1.length + 1)) s2 [] 0 0 ∧
      (((N.getD (N.getD (N.getD n nd0).a nd0).next nd0).next ≠ 0 ∧ Lay N D 1 ((f, L ++ [[], []]) :: r) (N.getD (N.getD (N.getD n nd0).a nd0).next nd0).next (p + (s1.length + 1 + s2.length + 1)) s3 [] 0 0) ∨ ((N.getD (N.getD (N.getD n nd0).a nd0).next nd0).next = 0 ∧ ∃ x, s3 = [(1, x)] ∧ (D.fn f).consts[x]? = some (numV one64))) ∧
      Lay N D 3 ((f, L ++ [[], [], [], (N.getD n nd0).s]) :: r) (N.getD n nd0).b (h + 4) s4 (L ++ [[], [], [], (N.getD n nd0).s]) L.length e := by
  rcases h.out with ⟨z, _⟩ | ⟨z, _⟩ | ⟨z, _⟩ | ⟨_, h⟩
  · cases z
  · cases z
  · cases z
  rcases h with g | g | g | g | g | g | g | g | g | g | g
  all_goals first
    | exact g.2
    | (exfalso; have z := g.1; simp only [hd] at z; omega)
theorem Lay0.v9 {N : List Nd} {D : CmD} {f : Nat} {L : List Bs} {r : En} {n p : Nat} {s : List In} {L' : List Bs} {lb ex : Nat} (h : Lay N D 0 ((f, L) :: r) n p s L' lb ex) (hd : (N.getD n nd0).k = 9) : L' = L ∧ L.length + 4 ≤ (D.fn f).nslots ∧ ∃ s1 s2 h e, h = p + (s1.length + 3) ∧ e = h + 2 + s2.length + 2 ∧
      s = s1 ++ [(6, L.length), (2, 0), (6, L.length + 1), (32, L.length), (22, e)] ++ s2 ++ [(29, L.length + 2), (21, h), (29, L.length)] ∧
      Lay N D 1 ((f, L) :: r) (N.getD n nd0).b p s1 [] 0 0 ∧ Lay N D 3 ((f, L ++ [[], [], (N.getD (N.getD n nd0).a nd0).s, (N.getD (N.getD (N.getD n nd0).a nd0).next nd0).s]) :: r) (N.getD n nd0).c (h + 2) s2 (L ++ [[], [], (N.getD (N.getD n nd0).a nd0).s, (N.getD (N.getD (N.getD n nd0).a nd0).next nd0).s]) L.length e := by
  rcases h.out with ⟨z, _⟩ | ⟨z, _⟩ | ⟨z, _⟩ | ⟨_, h⟩
  · cases z
  · cases z
  · cases z
  rcases h with g | g | g | g | g | g | g | g | g | g | g
  all_goals first
    | exact g.2
    | (exfalso; have z := g.1; simp only [hd] at z; omega)
theorem Lay0.v10 {N : List Nd} {D : CmD} {f : Nat} {L : List Bs} {r : En} {n p : Nat} {s : List In} {L' : List Bs} {lb ex : Nat} (h : Lay N D 0 ((f, L) :: r) n p s L' lb ex) (hd : (N.getD n nd0).k = 10) : L' = L ∧ ∃ s1 s2, s = s1 ++ s2 ++ [(27, 0)] ∧ Lay N D 1 ((f, L) :: r) (N.getD n nd0).a p s1 [] 0 0 ∧ Lay N D 1 ((f, L) :: r) (N.getD n nd0).b (p + s1.length) s2 [] 0 0 := by
  rcases h.out with ⟨z, _⟩ | ⟨z, _⟩ | ⟨z, _⟩ | ⟨_, h⟩
  · cases z
  · cases z
  · cases z
  rcases h with g | g | g | g | g | g | g | g | g | g | g
  all_goals first
    | exact g.2
    | (exfalso; have z := g.1; simp only [hd] at z; omega)
theorem Lay0.v11 {N : List Nd} {D : CmD} {f : Nat} {L : List Bs} {r : En} {n p : Nat} {s : List In} {L' : List Bs} {lb ex : Nat} (h : Lay N D 0 ((f, L) :: r) n p s L' lb ex) (hd : (N.getD n nd0).k = 11) : L' = L ∧ ((lb < L.length ∧ s = [(29, lb), (21, ex)]) ∨ (¬ lb < L.length ∧ s = [(21, ex)])) := by
  rcases h.out with ⟨z, _⟩ | ⟨z, _⟩ | ⟨z, _⟩ | ⟨_, h⟩
  · cases z
  · cases z
  · cases z
  rcases h with g | g | g | g | g | g | g | g | g | g | g
  all_goals first
    | exact g.2
    | (exfalso; have z := g.1; simp only [hd] at z; omega)
/-- a statement at hand, and what comes behind it -/
structure StM (X : FX) (tl : List TkD) (n pc : Nat) (L : List Bs) (lf : List Nat) (sa : List In) (L1 : List Bs) (lp : Bool) (lb ex : Nat) : Prop where
  hy : Lay X.N X.D 0 ((X.f, L) :: X.r) n pc sa L1 lb ex
  hS : StS X.N n lp
  ha : AtC X.cd pc sa
  rest : BlkC X tl (X.nd n).next (pc + sa.length) L lf L1
  brk : lp = true → Cb X tl true ex lb L lf
  hex : lp = true → pc + sa.length ≤ ex
theorem BlkC.open {X : FX} {tl : List TkD} {n pc : Nat} {L : List Bs} {lf : List Nat} (hn : n ≠ 0) (h : BlkC X tl n pc L lf L) : ∃ sa L1 lp lb ex, StM X tl n pc L lf sa L1 lp lb ex := by
  obtain ⟨L0, lp, lb, ex, pc', h0, ⟨l, s1, L1, c, hs, q1, q2, st, ha, hpc, hex⟩, fw, br⟩ := h
  cases l with
  | nil => exact absurd c hn
  | cons x l =>
    obtain ⟨c1, c2, c3⟩ := c
    subst c1
    obtain ⟨sa, sb, Lm, rfl, g1, g2⟩ := st
    have p1 := Lay0.pre g1
    have p2 := Stmts.pre g2
    rw [List.append_assoc] at ha
    obtain ⟨a1, a2⟩ := ha.split (.inr trivial)
    have hlen : pc' = pc + sa.length + (sb ++ clI L0 L1).length := by rw [hpc]; simp; omega
    refine ⟨sa, Lm, lp, lb, ex, g1, hs n (by simp), a1, ⟨L0, lp, lb, ex, pc', h0, ⟨l, sb, L1, c3, fun y hy => hs y (by simp [hy]), h0.1.trans p1, p2, g2, a2, hlen, hex⟩, fw, br⟩, br, fun z => ?_⟩
    have := hex z
    omega
section
variable {N : List Nd} {root : Nat} {D : CmD} {S : Nat → Nat → Ty → Prop} {K : Cx} {m m1 : VMD} {fu s fu' s' : Nat} {M M' : MD} {P P' : List (Option Lc)} {i c : Nat} {t t' : ThD} {T T' : MTh} {f f' : FmD} {fs : List FmD} {F F' : FrIZ} {k : TkD} {tl : List TkD} {stk : List Vl} {pc : Nat} {sa : List In} {L1 : List Bs} {lp : Bool} {lb ex : Nat}
/-- a task is unfolded, an expression comes first -/
theorem Op.unf (h : Op N root D S K m fu s M P i t T f fs F) (ht : T.tasks = k :: tl) (h3 : k.k ≠ 3) {new : List TkD} {a x : Nat} {e : Option Nat} (hnew : ∀ t ∈ new, t.k ≠ 3) (hM : M.step N root = M.st { T with tasks := ⟨2, a, x, e⟩ :: (new ++ tl) }) (cb : Cb ⟨N, D, gO m f, F.r, M.envs, F.lc, F.low.length⟩ (⟨2, a, x, e⟩ :: (new ++ tl)) false f.pc (oO D m t f) F.L F.lf)
    (it : Itm (t.stack.drop (f.base + (D.fn (gO m f)).nslots)) (new ++ tl) (oO D m t f + 1) (oO D m t f)) : PgZ N root D i M.stack s 1 m fu M := by
  obtain ⟨seg, O⟩ := h.exp ht h3 (new := ⟨2, a, x, e⟩ :: new) (fun t ht => by
    rcases List.mem_cons.1 ht with rfl | ht
    · show (2 : Nat) ≠ 3; decide
    · exact hnew t ht) cb (Itm_2 it)
  refine PgZ.step (h.rel.w i).done ?_
  rw [hM]
  exact O.k2 rfl rfl
/-- an expression's code in the tasks -/
theorem Cb_2 {X : FX} {ts : List TkD} {n pc h : Nat} {L : List Bs} {lf : List Nat} {e : Option Nat} {sg : List In} (he : X.env lf e) (ha : AtC X.cd pc sg) (hE : n = 0 ∨ ExSZ X.N n) (hy : Lay X.N X.D 1 ((X.f, L) :: X.r) n pc sg [] 0 0) (cb : Cb X ts false (pc + sg.length) (h + 1) L lf) : Cb X (⟨2, n, 0, e⟩ :: ts) false pc h L lf := by
  unfold Cb
  simp (config := { decide := true }) only [if_true, if_false]
  exact ⟨he, .inl ⟨sg, ⟨ha, .inl ⟨rfl, hE, hy⟩⟩, cb⟩⟩
/-- a step at a statement -/
theorem Op.stS (h : Op N root D S K m fu s M P i t T f fs F) (ht : T.tasks = k :: tl) (hk : k.k = 1) (hn : k.n ≠ 0) : M.step N root = (M.st { T with tasks := tl }).stmt N k.n k.e := by
  have hM := h.step ht
  unfold stK at hM
  simp (config := { decide := true }) only [hk, if_true, if_false] at hM
  rw [if_pos hn] at hM
  exact hM
abbrev Op.X (N : List Nd) (D : CmD) (m : VMD) (M : MD) (f : FmD) (F : FrIZ) : FX := ⟨N, D, gO m f, F.r, M.envs, F.lc, F.low.length⟩
/-- local -/
theorem Op.s1 (h : Op N root D S K m fu s M P i t T f fs F) (ht : T.tasks = k :: tl) (hk : k.k = 1) (ho : oO D m t f = 0) (he : Chn M.envs (F.lf ++ F.lc) k.e) (it : Itm [] tl 0 0) (hs : StM (Op.X N D m M f F) tl k.n f.pc F.L F.lf sa L1 lp lb ex) (hd : (N.getD k.n nd0).k = 1) : PgZ N root D i M.stack s 1 m fu M := by
  have O := hs.hS.out
  have hM := h.stS ht hk O.n0
  unfold MD.stmt at hM
  simp (config := { decide := true }) only [hd, if_true, if_false] at hM
  have h3 : k.k ≠ 3 := by omega
  obtain ⟨O1, O2⟩ := O.k1 hd
  obtain ⟨e, hl, s1, e2, hy⟩ := Lay0.v1 hs.hy hd
  subst e e2
  have ha := hs.ha
  obtain ⟨a1, a2⟩ := ha.split (.inr trivial)
  have hl : F.L.length < (D.fn (gO m f)).nslots := by
    have hl : (F.L ++ [(N.getD k.n nd0).s]).length ≤ (D.fn (gO m f)).nslots := hl
    simp at hl
    omega
  have rest := hs.rest
  rw [List.length_append] at rest
  have cb6 : Cb (Op.X N D m M f F) (⟨6, k.n, 0, k.e⟩ :: tl) false (f.pc + s1.length) (oO D m t f + 1) F.L F.lf := by
    rw [ho]
    unfold Cb
    simp (config := { decide := true }) only [if_true, if_false]
    exact ⟨trivial, he, O1, hl, a2, rest⟩
  by_cases ha0 : (N.getD k.n nd0).a ≠ 0
  · rw [if_pos ha0, st_todo h.cl] at hM
    have hE : ExSZ N (N.getD k.n nd0).a := O2.resolve_left ha0
    exact h.unf ht h3 (new := [⟨6, k.n, 0, k.e⟩]) (by simp) hM (Cb_2 he a1 (.inr hE) hy cb6) (Itm_else (by decide) it)
  · rw [if_neg ha0, st_todo h.cl, st_push h.cl] at hM
    have ha0 : (N.getD k.n nd0).a = 0 := Classical.byContradiction ha0
    have hy : Lay N D 1 ((gO m f, F.L) :: F.r) (N.getD k.n nd0).a f.pc s1 [] 0 0 := hy
    rw [ha0] at hy
    have z0 : (N.getD 0 nd0).k = 0 := (h.rel.w i).tx.z0
    have hs1 : s1 = [(2, 0)] := by
      rcases hy.out with ⟨_, hy⟩ | ⟨z, _⟩ | ⟨z, _⟩ | ⟨z, _⟩
      · rcases hy with ⟨_, g⟩ | ⟨e, _⟩ | ⟨e, _⟩ | ⟨e, _⟩ | ⟨e, _⟩ | ⟨e, _⟩ | ⟨e, _⟩ | ⟨e, _⟩ | ⟨e, _⟩ | ⟨e, _⟩ | ⟨e, _⟩ | ⟨e, _⟩ | ⟨e, _⟩
        · exact g
        all_goals omega
      · cases z
      · cases z
      · cases z
    subst hs1
    have hp : plainP m i 2 0 = (.inr (), push m i [nilV]) := by unfold plainP; simp (config := { decide := true }) only [if_true, if_false]
    rw [h.npu] at hp
    exact h.pp0 (new := [⟨6, k.n, 0, k.e⟩]) (n := 0) ht h3 a1 (by decide) hp (Nat.zero_le _) (by simp) (by rw [hM]; simp) cb6 (Itm_else (by decide) it)
/-- local a, b = f() -/
theorem Op.s2 (h : Op N root D S K m fu s M P i t T f fs F) (ht : T.tasks = k :: tl) (hk : k.k = 1) (ho : oO D m t f = 0) (he : Chn M.envs (F.lf ++ F.lc) k.e) (it : Itm [] tl 0 0) (hs : StM (Op.X N D m M f F) tl k.n f.pc F.L F.lf sa L1 lp lb ex) (hd : (N.getD k.n nd0).k = 2) : PgZ N root D i M.stack s 1 m fu M := by
  have O := hs.hS.out
  have hM := h.stS ht hk O.n0
  unfold MD.stmt at hM
  simp (config := { decide := true }) only [hd, if_true, if_false] at hM
  have h3 : k.k ≠ 3 := by omega
  obtain ⟨⟨O1, O1'⟩, O2, O3⟩ := O.k2 hd
  obtain ⟨E1, l, E2, E3, E4⟩ := O3.out.k19 O2
  obtain ⟨e, hl, s1, e2, kk, hy⟩ := Lay0.v2 hs.hy hd
  subst e e2
  have ha := hs.ha
  obtain ⟨a1, a2⟩ := ha.split (.inr trivial)
  have hl : F.L.length + 1 < (D.fn (gO m f)).nslots := by
    have hl : (F.L ++ [(N.getD (N.getD k.n nd0).a nd0).s, (N.getD (N.getD (N.getD k.n nd0).a nd0).next nd0).s]).length ≤ (D.fn (gO m f)).nslots := hl
    simp at hl
    omega
  have rest := hs.rest
  rw [List.length_append] at rest
  rw [st_todo h.cl, call_is h.cl _ _ (argsL_eq E2 E3)] at hM
  have cb7 : Cb (Op.X N D m M f F) (⟨7, k.n, 0, k.e⟩ :: tl) false (f.pc + s1.length) (oO D m t f + 2) F.L F.lf := by
    rw [ho]
    unfold Cb
    simp (config := { decide := true }) only [if_true, if_false]
    exact ⟨trivial, he, O1, O1', hl, a2, rest⟩
  obtain ⟨cbc, _⟩ := Cb_call (X := Op.X N D m M f F) (e := k.e) (h := oO D m t f) hy E1 E2 E4 a1 he cb7
  have itc := Itm_call (ops := t.stack.drop (f.base + (D.fn (gO m f)).nslots)) (e := k.e) (n := (N.getD k.n nd0).b) (n2 := (N.getD (N.getD k.n nd0).b nd0).a) (l := l) (h := oO D m t f) (w := oO D m t f) (tl := ⟨7, k.n, 0, k.e⟩ :: tl) (Nat.le_refl _) (Itm_else (by decide) it)
  have itc : Itm (t.stack.drop (f.base + (D.fn (gO m f)).nslots)) (⟨2, (N.getD (N.getD k.n nd0).b nd0).a, 0, k.e⟩ :: (l.map (fun x => (⟨2, x, 0, k.e⟩ : TkD)) ++ [⟨22, (N.getD k.n nd0).b, l.length, k.e⟩] ++ (⟨7, k.n, 0, k.e⟩ :: tl))) (oO D m t f) (oO D m t f) := itc
  unfold Itm at itc
  simp (config := { decide := true }) only [if_true, if_false] at itc
  refine h.unf ht h3 (a := (N.getD (N.getD k.n nd0).b nd0).a) (x := 0) (e := k.e) (new := l.map (fun x => (⟨2, x, 0, k.e⟩ : TkD)) ++ [⟨22, (N.getD k.n nd0).b, l.length, k.e⟩] ++ [⟨7, k.n, 0, k.e⟩]) (fun t ht => ?_) (by rw [hM]; simp only [List.append_assoc, List.cons_append, List.nil_append]) (by simp only [List.append_assoc, List.cons_append, List.nil_append] at cbc ⊢; exact cbc) (by simp only [List.append_assoc, List.cons_append, List.nil_append] at itc ⊢; exact itc)
  simp at ht
  rcases ht with ⟨_, _, rfl⟩ | rfl | rfl
  · show (2 : Nat) ≠ 3; decide
  · show (22 : Nat) ≠ 3; decide
  · show (7 : Nat) ≠ 3; decide
end
end Go.Proofs.Qxb6500574aGreatDoor
