/-
  THE MODEL's PARSER IN MEMORY. No walk.
-/
import Derived.Test.Qxb6500574aGreatDoorZC1
import Derived.Test.Qxb6500574aGreatDoorZP2
import Derived.Test.Qxb6500574aGreatDoorZK2
namespace Go.Proofs.Qxb6500574aGreatDoor
open Go Go.RowKit
set_option linter.unusedVariables false
set_option linter.unusedSimpArgs false
/-- a token as the model holds it -/
structure TkC where
  k : Nat
  s : Bs
  n : Nat
  p : Nat
  e : Nat
def tkc (t : Tok) : TkC :=
  if t.k = 0 then ⟨0, [], 0, t.p, 0⟩
  else if t.k = 1 then ⟨5, [], 0, t.p, t.e⟩
  else if t.k = 2 then ⟨1, t.s, 0, t.p, 0⟩
  else if t.k = 3 then ⟨2, [], t.n, t.p, 0⟩
  else if t.k = 4 then ⟨3, t.s, 0, t.p, 0⟩
  else ⟨4, symS t.k, 0, t.p, 0⟩
theorem tkc_p (t : Tok) : (tkc t).p = t.p := by
  unfold tkc
  repeat' split
  all_goals rfl
theorem sym_inj : ∀ a, a < 42 → ∀ b, b < 42 → symS (a + 5) = symS (b + 5) → a = b := by decide +kernel
theorem sym_one {j k : Nat} (h1 : 5 ≤ j) (h2 : j ≤ 46) (h3 : 5 ≤ k) (h4 : k ≤ 46) (h : symS j = symS k) : j = k := by
  have := sym_inj (j - 5) (by omega) (k - 5) (by omega) (by rw [show j - 5 + 5 = j by omega, show k - 5 + 5 = k by omega]; exact h)
  omega
/-- is the token this sign? -/
theorem is_tok {t : Tok} {k : Nat} (h5 : 5 ≤ k) (h46 : k ≤ 46) (ht : t.k ≤ 46) : ((tkc t).k == 4 && (tkc t).s == symS k) = decide (t.k = k) := by
  by_cases h : t.k = k
  · rw [decide_eq_true h]
    unfold tkc
    rw [if_neg (by omega), if_neg (by omega), if_neg (by omega), if_neg (by omega), if_neg (by omega), h]
    simp
  · rw [decide_eq_false h]
    unfold tkc
    by_cases h0 : t.k = 0
    · rw [if_pos h0]; rfl
    rw [if_neg h0]
    by_cases h1 : t.k = 1
    · rw [if_pos h1]; rfl
    rw [if_neg h1]
    by_cases h2 : t.k = 2
    · rw [if_pos h2]; rfl
    rw [if_neg h2]
    by_cases h3 : t.k = 3
    · rw [if_pos h3]; rfl
    rw [if_neg h3]
    by_cases h4 : t.k = 4
    · rw [if_pos h4]; rfl
    rw [if_neg h4]
    have : (symS t.k == symS k) = false := by
      rw [beq_eq_false_iff_ne]
      exact fun e => h (sym_one (by omega) ht h5 h46 e)
    simp [this]
/-- the parser's own numbers -/
structure PzD where
  e : Nat
  t : TkC
  N : List Nd
  er : Nat
  pl : Nat
  al : Int
  lo : Int
  fu : Int
/-- where the parser lies -/
structure PzP where
  b : Nat
  bn : Nat
  s : Bs
  nd : Sl
  o : Nat → Nat
def pzV (A : PzP) (d : PzD) : Array Value :=
  #[.pointer (some ⟨A.bn, 0, none⟩), sv A.s, .int .i64 d.e, .int .i64 d.t.k, sv d.t.s, .int .u64 d.t.n, .int .i64 d.t.p, .int .i64 d.t.e, A.nd.v d.N.length, .int .i64 d.er, .int .i64 d.pl, .int .i64 d.al, .int .i64 d.lo, .int .i64 d.fu]
/-- the parser in memory -/
structure PzM (w : World) (A : PzP) (d : PzD) : Prop where
  blk : Blk w A.o 1 A.b (pzV A d) 213
  nod : Row w A.o 2 134 8 A.nd d.N.length (d.N.flatMap mdV)
  own : Ow w A.o
  pe : d.e ≤ A.s.length
  ls : A.s.length ≤ 2048
/-- a step of the parser -/
structure PzS (w : World) (A : PzP) (w' : World) (A' : PzP) : Prop where
  s : Stp (fun l => 1 ≤ l) w A.o w' A'.o
  b : A'.b = A.b
  bn : A'.bn = A.bn
  sr : A'.s = A.s
theorem PzS.refl (w : World) (A : PzP) : PzS w A w A := ⟨Stp.refl _ _ _, rfl, rfl, rfl⟩
theorem PzS.trans {w w1 w2 : World} {A A1 A2 : PzP} (h : PzS w A w1 A1) (g : PzS w1 A1 w2 A2) : PzS w A w2 A2 := ⟨h.s.trans g.s, g.b.trans h.b, g.bn.trans h.bn, g.sr.trans h.sr⟩
theorem PzS.fresh {w w1 : World} (A : PzP) (h : Fr (fun _ => False) w w1) : PzS w A w1 A := ⟨Stp.fresh _ _ h, rfl, rfl, rfl⟩
theorem PzS.drew {w w1 : World} {A A1 : PzP} (h : PzS w A w1 A1) : PzS w A w1.drew A1 := h.trans (PzS.fresh _ ((Fr.refl _ _).drew))
section
variable {w w1 : World} {A A1 : PzP} {d d1 : PzD} {T : List Tok} {s : PSt} {t : Tok} {q : Nat}
theorem PzM.fresh (h : PzM w A d) (f : Fr (fun _ => False) w w1) : PzM w1 A d := by
  have t := Stp.fresh (fun _ => False) A.o f
  exact ⟨h.blk.st t (fun x => x), h.nod.st t (fun x => x), t.hi h.own, h.pe, h.ls⟩
theorem PzM.drew (h : PzM w A d) : PzM w.drew A d := h.fresh ((Fr.refl _ _).drew)
theorem PzM.c (h : PzM w A d) (i : Nat) : w.cell? ⟨A.b, i, none⟩ = (pzV A d)[i]? := h.blk.has.cell i
theorem PzM.lt (h : PzM w A d) : A.b < w.heap.size := h.blk.has.lt
theorem PzM.fz (h : PzM w A d) (i : Nat) : w.frozen? ⟨A.b, i, none⟩ = false := h.blk.has.frozen i
/-- a number of the parser's turned -/
theorem PzM.put (h : PzM w A d) (i : Nat) (u : Value) {d' : PzD} (e : (pzV A d).setIfInBounds i u = pzV A d') (hN : d'.N = d.N) (hp : d'.e ≤ A.s.length) : PzM (w.setCell ⟨A.b, i, none⟩ u) A d' ∧ PzS w A (w.setCell ⟨A.b, i, none⟩ u) A := by
  obtain ⟨p1, p2⟩ := h.blk.put i u e
  refine ⟨⟨p1, ?_, p2.hi h.own, hp, h.ls⟩, ⟨p2.weaken (fun l hl => by omega), rfl, rfl, rfl⟩⟩
  rw [hN]
  exact h.nod.st p2 (by omega)
end
/-- the state of a text that is well so far -/
def gd (s : PSt) (t : Tok) (q : Nat) : PzD := ⟨q, tkc t, s.nodes, 0, 0, s.alive, s.loops, s.funcs⟩
/-- the parser, well so far -/
structure PzG (w : World) (A : PzP) (T : List Tok) (s : PSt) (t : Tok) (q : Nat) : Prop where
  m : PzM w A (gd s t q)
  x : LxT A.s T s.i t q
  ta : TkA T A.s.length 0
section
variable {w w1 : World} {A A1 : PzP} {d d1 : PzD} {T : List Tok} {s s' : PSt} {t : Tok} {q : Nat}
theorem PzG.cur (g : PzG w A T s t q) : curT T s = t := g.x.cur
theorem PzG.fresh (g : PzG w A T s t q) (f : Fr (fun _ => False) w w1) : PzG w1 A T s t q := ⟨g.m.fresh f, g.x, g.ta⟩
theorem PzG.il (g : PzG w A T s t q) : s.i ≤ 2048 := by
  have h1 := (List.getElem?_eq_some_iff.1 g.x.at_).1
  have h2 := g.ta.len
  have h3 := g.m.ls
  omega
theorem PzG.k46 (g : PzG w A T s t q) : t.k ≤ 46 ∧ t.p ≤ 2048 ∧ (t.k = 1 → t.e ≠ 0) := by
  have h1 := (List.getElem?_eq_some_iff.1 g.x.at_).1
  have h2 := g.ta.all s.i h1
  have e : T.getD s.i tok0 = t := g.cur
  rw [e] at h2
  have h3 := g.m.ls
  exact ⟨h2.2.1, by omega, fun z => (h2.2.2.2.2.1).2 z⟩
end
/-- an error stands; w, A: where the parser began -/
def PzB (w : World) (A : PzP) (y : Nat × Nat) (W : World) : Prop := y.1 ≠ 0 ∧ ∃ A' d, PzM W A' d ∧ d.er = y.1 ∧ d.pl = y.2 ∧ PzS w A W A'
/-- all is well -/
def PzK (w : World) (A : PzP) (T : List Tok) (s : PSt) (W : World) : Prop := ∃ A' q, PzG W A' T s (curT T s) q ∧ PzS w A W A'
/-- what a function of the parser answers -/
def PzR (T : List Tok) (w : World) (A : PzP) (R : PR) (e : Ending) (W : World) : Prop :=
  (∃ v s, R = .inr (v, s) ∧ e = .returned (.int .i64 (v.getD 0 0 : Nat)) ∧ PzK w A T s W) ∨ (∃ y : Nat × Nat, ∃ z : Int, R = .inl y ∧ e = .returned (.int .i64 z) ∧ PzB w A y W)
section
variable {w W W1 : World} {A A1 : PzP} {d d1 : PzD} {T : List Tok} {s s' : PSt} {t : Tok} {q : Nat} {y : Nat × Nat}
theorem PzG.k (g : PzG W A1 T s t q) (S : PzS w A W A1) : PzK w A T s W := ⟨A1, q, by rw [g.cur]; exact g, S⟩
theorem PzK.fresh (h : PzK w A T s W) (f : Fr (fun _ => False) W W1) : PzK w A T s W1 := by
  obtain ⟨A', q, g, S⟩ := h
  exact ⟨A', q, g.fresh f, S.trans (PzS.fresh _ f)⟩
theorem PzB.fresh (h : PzB w A y W) (f : Fr (fun _ => False) W W1) : PzB w A y W1 := by
  obtain ⟨h0, A', d, m, h1, h2, S⟩ := h
  exact ⟨h0, A', d, m.fresh f, h1, h2, S.trans (PzS.fresh _ f)⟩
theorem PzK.il (h : PzK w A T s W) : s.i ≤ 2048 := by
  obtain ⟨A', q, g, S⟩ := h
  exact g.il
theorem PzK.k46 (h : PzK w A T s W) : (curT T s).k ≤ 46 ∧ (curT T s).p ≤ 2048 := by
  obtain ⟨A', q, g, S⟩ := h
  exact ⟨g.k46.1, g.k46.2.1⟩
theorem PzK.lt (h : PzK w A T s W) : A.b < W.heap.size := by
  obtain ⟨A', q, g, S⟩ := h
  rw [← S.b]
  exact g.m.lt
theorem PzB.lt (h : PzB w A y W) : A.b < W.heap.size := by
  obtain ⟨h0, A', d, m, h1, h2, S⟩ := h
  rw [← S.b]
  exact m.lt
theorem PzK.c (h : PzK w A T s W) : W.cell? ⟨A.b, 3, none⟩ = some (.int .i64 (tkc (curT T s)).k) ∧ W.cell? ⟨A.b, 4, none⟩ = some (sv (tkc (curT T s)).s) ∧ W.cell? ⟨A.b, 5, none⟩ = some (.int .u64 (tkc (curT T s)).n) ∧ W.cell? ⟨A.b, 6, none⟩ = some (.int .i64 (curT T s).p) ∧
    W.cell? ⟨A.b, 9, none⟩ = some (.int .i64 0) ∧ W.cell? ⟨A.b, 11, none⟩ = some (.int .i64 s.alive) ∧ W.cell? ⟨A.b, 12, none⟩ = some (.int .i64 s.loops) ∧ W.cell? ⟨A.b, 13, none⟩ = some (.int .i64 s.funcs) := by
  obtain ⟨A', q, g, S⟩ := h
  rw [← S.b, ← tkc_p]
  exact ⟨g.m.c 3, g.m.c 4, g.m.c 5, g.m.c 6, g.m.c 9, g.m.c 11, g.m.c 12, g.m.c 13⟩
theorem PzK.fz (h : PzK w A T s W) (i : Nat) : W.frozen? ⟨A.b, i, none⟩ = false := by
  obtain ⟨A', q, g, S⟩ := h
  rw [← S.b]
  exact g.m.fz i
theorem PzB.c (h : PzB w A y W) : W.cell? ⟨A.b, 9, none⟩ = some (.int .i64 y.1) ∧ ((y.1 : Int) != 0) = true ∧ ((y.1 : Int) == 0) = false := by
  obtain ⟨h0, A', d, m, h1, h2, S⟩ := h
  rw [← S.b, ← h1]
  rw [← h1] at h0
  exact ⟨m.c 9, by rw [bne_iff_ne]; omega, by rw [beq_eq_false_iff_ne]; omega⟩
theorem PzB.cn (h : PzB w A y W) : ∃ a l f : Int, W.cell? ⟨A.b, 11, none⟩ = some (.int .i64 a) ∧ W.cell? ⟨A.b, 12, none⟩ = some (.int .i64 l) ∧ W.cell? ⟨A.b, 13, none⟩ = some (.int .i64 f) ∧ ∀ i, W.frozen? ⟨A.b, i, none⟩ = false := by
  obtain ⟨h0, A', d, m, h1, h2, S⟩ := h
  rw [← S.b]
  exact ⟨d.al, d.lo, d.fu, m.c 11, m.c 12, m.c 13, m.fz⟩
/-- the parser's counters turn -/
theorem PzK.setAl (h : PzK w A T s W) (x : Nat) {u : Int} (hu : u = x) : PzK w A T { s with alive := x } (W.setCell ⟨A.b, 11, none⟩ (.int .i64 u)) := by
  subst hu
  obtain ⟨A', q, g, S⟩ := h
  obtain ⟨p1, p2⟩ := g.m.put 11 (.int .i64 x) (d' := gd { s with alive := x } (curT T s) q) rfl rfl g.m.pe
  rw [S.b] at p1 p2
  exact ⟨A', q, ⟨p1, g.x, g.ta⟩, S.trans p2⟩
theorem PzK.setLo (h : PzK w A T s W) (x : Nat) {u : Int} (hu : u = x) : PzK w A T { s with loops := x } (W.setCell ⟨A.b, 12, none⟩ (.int .i64 u)) := by
  subst hu
  obtain ⟨A', q, g, S⟩ := h
  obtain ⟨p1, p2⟩ := g.m.put 12 (.int .i64 x) (d' := gd { s with loops := x } (curT T s) q) rfl rfl g.m.pe
  rw [S.b] at p1 p2
  exact ⟨A', q, ⟨p1, g.x, g.ta⟩, S.trans p2⟩
theorem PzK.setFu (h : PzK w A T s W) (x : Nat) {u : Int} (hu : u = x) : PzK w A T { s with funcs := x } (W.setCell ⟨A.b, 13, none⟩ (.int .i64 u)) := by
  subst hu
  obtain ⟨A', q, g, S⟩ := h
  obtain ⟨p1, p2⟩ := g.m.put 13 (.int .i64 x) (d' := gd { s with funcs := x } (curT T s) q) rfl rfl g.m.pe
  rw [S.b] at p1 p2
  exact ⟨A', q, ⟨p1, g.x, g.ta⟩, S.trans p2⟩
theorem PzB.setAl (h : PzB w A y W) (u : Int) : PzB w A y (W.setCell ⟨A.b, 11, none⟩ (.int .i64 u)) := by
  obtain ⟨h0, A', d, m, h1, h2, S⟩ := h
  obtain ⟨p1, p2⟩ := m.put 11 (.int .i64 u) (d' := { d with al := u }) rfl rfl m.pe
  rw [S.b] at p1 p2
  exact ⟨h0, A', _, p1, h1, h2, S.trans p2⟩
theorem PzB.setLo (h : PzB w A y W) (u : Int) : PzB w A y (W.setCell ⟨A.b, 12, none⟩ (.int .i64 u)) := by
  obtain ⟨h0, A', d, m, h1, h2, S⟩ := h
  obtain ⟨p1, p2⟩ := m.put 12 (.int .i64 u) (d' := { d with lo := u }) rfl rfl m.pe
  rw [S.b] at p1 p2
  exact ⟨h0, A', _, p1, h1, h2, S.trans p2⟩
end
/-- the tree so far: its links, its size; the counters are paid -/
structure PzN (s : PSt) (d : Nat) : Prop where
  k : NK s.nodes
  l : s.nodes.length + d ≤ s.i + 1
  al : s.alive ≤ 4 * s.i
  lo : s.loops ≤ s.i
  fu : s.funcs ≤ s.i
section
variable {T : List Tok} {s s1 : PSt} {d n room : Nat} {x v : List Nat}
theorem PzN.nxt (h : PzN s d) : PzN s.nxt (d + 1) := ⟨h.k, by have := h.l; show s.nodes.length + _ ≤ s.i + 1 + 1; omega, by have := h.al; show s.alive ≤ 4 * (s.i + 1); omega, by have := h.lo; show s.loops ≤ s.i + 1; omega, by have := h.fu; show s.funcs ≤ s.i + 1; omega⟩
theorem PzN.le {e : Nat} (h : PzN s d) (he : e ≤ d) : PzN s e := ⟨h.k, by have := h.l; omega, h.al, h.lo, h.fu⟩
theorem PzN.of {D : Int} {e : Nat} (h : PzN s d) (r : NR s s1 D) (hD : (e : Int) ≤ D + d) (t : LTz s s1) : PzN s1 e := ⟨r.k, by have := h.l; have := r.bk; omega, by have := h.al; have := t.al; omega, by have := h.lo; have := t.lo; have := t.i; omega, by have := h.fu; have := t.fu; omega⟩
theorem PzN.p0 (h : PzN s d) (e : parM T n 0 room x s = .inr (v, s1)) : PzN s1 d ∧ s.nodes.length ≤ v.getD 0 0 ∧ v.getD 0 0 < s1.nodes.length := by
  obtain ⟨a, b, c⟩ := (NM.all T n).p0 h.k e
  exact ⟨h.of a (by have := (qC_pos s1 (v.getD 0 0)).1; omega) (par_lt n 0 room x s (fun z => by cases z) v s1 e), b, c⟩
theorem PzN.p2 (h : PzN s d) (e : parM T n 2 room x s = .inr (v, s1)) : PzN s1 d ∧ s.nodes.length ≤ v.getD 0 0 ∧ v.getD 0 0 < s1.nodes.length := by
  obtain ⟨a, b, c⟩ := (NM.all T n).p2 h.k e
  exact ⟨h.of a (by have := (qC_pos s1 (v.getD 0 0)).1; omega) (par_lt n 2 room x s (fun z => by cases z) v s1 e), b, c⟩
theorem PzN.p3 (h : PzN s d) (e : parM T n 3 room x s = .inr (v, s1)) : PzN s1 d ∧ s.nodes.length ≤ v.getD 0 0 ∧ v.getD 0 0 < s1.nodes.length := by
  obtain ⟨a, b, c⟩ := (NM.all T n).p3 h.k e
  exact ⟨h.of a (by have := (qC_pos s1 (v.getD 0 0)).1; omega) (par_lt n 3 room x s (fun z => by cases z) v s1 e), b, c⟩
theorem PzN.p5 (h : PzN s d) (e : parM T n 5 room x s = .inr (v, s1)) : PzN s1 d ∧ s.nodes.length ≤ v.getD 0 0 ∧ v.getD 0 0 < s1.nodes.length := by
  obtain ⟨a, b, c⟩ := (NM.all T n).p5 h.k e
  exact ⟨h.of a (by have := (qC_pos s1 (v.getD 0 0)).1; omega) (par_lt n 5 room x s (fun z => by cases z) v s1 e), b, c⟩
theorem PzN.p7 (h : PzN s d) (e : parM T n 7 room x s = .inr (v, s1)) : PzN s1 d ∧ s.nodes.length ≤ v.getD 0 0 ∧ v.getD 0 0 < s1.nodes.length := by
  obtain ⟨a, b, c, _⟩ := (NM.all T n).p7 h.k e
  exact ⟨h.of a (by omega) (par_lt n 7 room x s (fun z => by cases z) v s1 e), b, c⟩
theorem PzN.p11 (h : PzN s d) (e : parM T n 11 room x s = .inr (v, s1)) : PzN s1 d ∧ s.nodes.length ≤ v.getD 0 0 ∧ v.getD 0 0 < s1.nodes.length := by
  obtain ⟨a, b, c⟩ := (NM.all T n).p11 h.k e
  exact ⟨h.of a (by omega) (par_lt n 11 room x s (fun z => by cases z) v s1 e), b, c⟩
theorem PzN.p13 (h : PzN s d) (e : parM T n 13 room x s = .inr (v, s1)) : PzN s1 d ∧ s.nodes.length ≤ v.getD 0 0 ∧ v.getD 0 0 < s1.nodes.length := by
  obtain ⟨a, b, c⟩ := (NM.all T n).p13 h.k e
  exact ⟨h.of a (by omega) (par_lt n 13 room x s (fun z => by cases z) v s1 e), b, c⟩
theorem PzN.p6 (h : PzN s d) (h3 : x.getD 3 0 < s.nodes.length) (h4 : x.getD 4 0 < s.nodes.length) (e : parM T n 6 room x s = .inr (v, s1)) : PzN s1 (d + 1) ∧ v.getD 0 0 < s1.nodes.length ∧ s.nodes.length ≤ s1.nodes.length := by
  obtain ⟨a, b⟩ := (NM.all T n).p6 h.k h3 h4 e
  exact ⟨h.of a (by omega) (par_lt n 6 room x s (fun z => by cases z) v s1 e), b, a.le⟩
theorem PzN.p9 (h : PzN s d) (e : parM T n 9 room x s = .inr (v, s1)) : PzN s1 d ∧ v.getD 0 0 < s1.nodes.length ∧ s.nodes.length ≤ s1.nodes.length := by
  obtain ⟨a, c⟩ := (NM.all T n).p9 h.k e
  exact ⟨h.of a (by omega) (par_lt n 9 room x s (fun z => by cases z) v s1 e), c, a.le⟩
theorem PzN.p15 (h : PzN s d) (hx : x.getD 0 0 ≤ 4) (e : parM T n 15 room x s = .inr (v, s1)) : PzN s1 d ∧ v.getD 0 0 < s1.nodes.length ∧ s.nodes.length ≤ s1.nodes.length := by
  obtain ⟨a, c⟩ := (NM.all T n).p15 h.k e
  exact ⟨h.of a (by omega) (par_lt n 15 room x s (fun _ => hx) v s1 e), c, a.le⟩
theorem PzN.add (h : PzN s (d + 1)) {e : Nd} (ha : e.a < s.nodes.length) (hb : e.b < s.nodes.length) (hc : e.c < s.nodes.length) (hn : e.next = 0) : PzN (s.add e) d := ⟨h.k.add ha hb hc hn, by have := h.l; rw [add_len]; show _ ≤ s.i + 1; omega, h.al, h.lo, h.fu⟩
theorem PzN.add2 (h : PzN s (d + 2)) {x1 x2 : Bs} {p1 p2 : Nat} : PzN ((s.add ⟨17, 0, 0, 0, s.nodes.length + 1, 0, x1, p1⟩).add ⟨17, 0, 0, 0, 0, 0, x2, p2⟩) d := ⟨h.k.add2 ⟨rfl, rfl, rfl⟩ rfl ⟨rfl, rfl, rfl⟩ rfl, by have := h.l; rw [add_len, add_len]; show _ ≤ s.i + 1; omega, h.al, h.lo, h.fu⟩
theorem PzN.link (h : PzN s d) {l x : Nat} (hl : l < x) (hx : x < s.nodes.length) : PzN (s.link l x) d := by
  obtain ⟨a, b, c, e⟩ := link_same s l x
  exact ⟨h.k.link hl hx, by rw [link_len, a]; exact h.l, by rw [a, b]; exact h.al, by rw [a, c]; exact h.lo, by rw [a, e]; exact h.fu⟩
/-- the same nodes, the same place -/
theorem PzN.as (h : PzN s d) (hn : s1.nodes = s.nodes) (hi : s1.i = s.i) (ha : s1.alive ≤ 4 * s.i) (hl : s1.loops ≤ s.i) (hf : s1.funcs ≤ s.i) : PzN s1 d := ⟨by rw [hn]; exact h.k, by rw [hn, hi]; exact h.l, by rw [hi]; exact ha, by rw [hi]; exact hl, by rw [hi]; exact hf⟩
end
end Go.Proofs.Qxb6500574aGreatDoor
