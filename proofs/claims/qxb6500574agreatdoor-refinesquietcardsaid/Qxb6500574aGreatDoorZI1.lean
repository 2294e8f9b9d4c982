/-
  moon: THE INTERPRETER's OWN STATE: references that are there, lengths. Plain; no memory, no walk.
-/
import Derived.Test.Qxb6500574aGreatDoorZM51
import Derived.Test.Qxb6500574aGreatDoorZT2
import Derived.Test.Qxb6500574aGreatDoorWNk3
namespace Go.Proofs.Qxb6500574aGreatDoor
set_option linter.unusedVariables false
set_option linter.unusedSimpArgs false
/-- a value whose references are there: a tables, b closures, c threads -/
structure VKn (a b c : Nat) (v : Vl) : Prop where
  w : wellV v = true
  n : v.t = 2 → v.n < 18446744073709551616
  t : v.t = 4 → v.n < a
  f : v.t = 5 → v.n < b
  c : v.t = 7 → v.n < c
theorem VKn.mono {a b c a' b' c' : Nat} {v : Vl} (h : VKn a b c v) (ha : a ≤ a') (hb : b ≤ b') (hc : c ≤ c') : VKn a' b' c' v :=
  ⟨h.w, h.n, fun z => Nat.lt_of_lt_of_le (h.t z) ha, fun z => Nat.lt_of_lt_of_le (h.f z) hb, fun z => Nat.lt_of_lt_of_le (h.c z) hc⟩
theorem VKn.nil (a b c : Nat) : VKn a b c nilV := ⟨rfl, (fun z => by cases z), (fun z => by cases z), (fun z => by cases z), (fun z => by cases z)⟩
theorem VKn.bool (a b c : Nat) (x : Bool) : VKn a b c (boolV x) := ⟨by cases x <;> rfl, (fun z => by cases z), (fun z => by cases z), (fun z => by cases z), (fun z => by cases z)⟩
theorem VKn.num (a b c : Nat) {x : Nat} (h : x < 18446744073709551616) : VKn a b c (numV x) := ⟨num_well x, fun _ => h, (fun z => by cases z), (fun z => by cases z), (fun z => by cases z)⟩
theorem VKn.str (a b c : Nat) {s : Bs} (h : s.length ≤ 40) : VKn a b c (strV s) := ⟨by unfold wellV strV; simp [h], (fun z => by cases z), (fun z => by cases z), (fun z => by cases z), (fun z => by cases z)⟩
/-- so many feet -/
def ft (l : List TkD) : Nat := l.countP (fun k => decide (k.k = 3))
theorem ft_cons (k : TkD) (l : List TkD) : ft (k :: l) = ft l + (if k.k = 3 then 1 else 0) := by
  unfold ft
  rw [List.countP_cons]
  by_cases h : k.k = 3 <;> simp [h]
/-- the list that begins at n ends at T or ahead of it -/
def CBz (N : List Nd) (n T : Nat) : Prop := ∃ l, Chain N n l ∧ ∀ x ∈ l, x ≤ T
/-- L tasks are enough for k and all that comes of it -/
structure Lk (N : List Nd) (k : TkD) (L : Nat) : Prop where
  p : 1 ≤ L
  k1 : k.k = 1 → ∃ T, CBz N k.n T ∧ 8 * T + 8 ≤ L
  k2 : k.k = 2 → 8 * k.n + 8 ≤ L
  k6 : k.k = 6 ∨ k.k = 7 ∨ k.k = 8 → ∃ T, CBz N (N.getD k.n nd0).next T ∧ 8 * T + 8 ≤ L
  k11 : k.k = 11 → ∃ T, CBz N (N.getD k.n nd0).b T ∧ CBz N (N.getD k.n nd0).c T ∧ 8 * T + 8 ≤ L
  k12 : k.k = 12 ∨ k.k = 13 ∨ k.k = 14 → ∃ T, (N.getD k.n nd0).a ≤ T ∧ CBz N (N.getD k.n nd0).b T ∧ 8 * T + 9 ≤ L
  k15 : k.k = 15 ∨ k.k = 16 ∨ k.k = 17 → ∃ T, CBz N (N.getD k.n nd0).b T ∧ 8 * T + 9 ≤ L
  k18 : k.k = 18 ∨ k.k = 19 ∨ k.k = 20 → ∃ T, CBz N (N.getD k.n nd0).c T ∧ 8 * T + 9 ≤ L
  k23 : k.k = 23 → ∃ T, CBz N (N.getD k.n nd0).next T ∧ 8 * T + 9 ≤ L
  k26 : k.k = 26 ∨ k.k = 27 → 8 * (N.getD k.n nd0).b + 8 ≤ L
theorem Lk.no {N : List Nd} {q n x : Nat} {e : Option Nat} {L : Nat} (hp : 1 ≤ L) (h : q ≠ 1 ∧ q ≠ 2 ∧ q ≠ 6 ∧ q ≠ 7 ∧ q ≠ 8 ∧ q ≠ 11 ∧ q ≠ 12 ∧ q ≠ 13 ∧ q ≠ 14 ∧ q ≠ 15 ∧ q ≠ 16 ∧ q ≠ 17 ∧ q ≠ 18 ∧ q ≠ 19 ∧ q ≠ 20 ∧ q ≠ 23 ∧ q ≠ 26 ∧ q ≠ 27) : Lk N ⟨q, n, x, e⟩ L := by
  constructor <;> first | exact hp | (intro z; exfalso; have z := z; simp only at z; omega)
theorem Lk.e {N : List Nd} {n x : Nat} {e : Option Nat} {L : Nat} (h : 8 * n + 8 ≤ L) : Lk N ⟨2, n, x, e⟩ L := by
  constructor <;> first | (intro _; exact h) | (intro z; exfalso; have z := z; simp only at z; omega) | omega
theorem Lk.b {N : List Nd} {n x T : Nat} {e : Option Nat} {L : Nat} (c : CBz N n T) (h : 8 * T + 8 ≤ L) : Lk N ⟨1, n, x, e⟩ L := by
  constructor <;> first | (intro _; exact ⟨T, c, h⟩) | (intro z; exfalso; have z := z; simp only at z; omega) | omega
def capC (N : List Nd) : Nat := 8 * N.length + 10
/-- there is room for every task and all that comes of it -/
def HT (N : List Nd) : List TkD → Prop
  | [] => True
  | k :: ts => (∃ L, Lk N k L ∧ L + ts.length ≤ capC N * ft (k :: ts)) ∧ HT N ts
/-- tasks that fit into the room of L -/
def FitsZ (N : List Nd) : List TkD → Nat → Prop
  | [], _ => True
  | k :: q, L => (k.k ≠ 3 ∧ ∃ L', Lk N k L' ∧ L' + q.length ≤ L) ∧ FitsZ N q L
theorem FitsZ.mono {N : List Nd} {L L' : Nat} (h : L ≤ L') : ∀ {l : List TkD}, FitsZ N l L → FitsZ N l L'
  | [], _ => trivial
  | k :: q, ⟨⟨g1, x, g2, g3⟩, g4⟩ => ⟨⟨g1, x, g2, by omega⟩, FitsZ.mono h g4⟩
theorem FitsZ.ft {N : List Nd} {L : Nat} : ∀ {l : List TkD} {r : List TkD}, FitsZ N l L → ft (l ++ r) = ft r
  | [], _, _ => rfl
  | k :: q, r, ⟨⟨g1, _⟩, g4⟩ => by
    rw [List.cons_append, ft_cons, if_neg g1, FitsZ.ft g4]
    rfl
theorem HT.app {N : List Nd} {L : Nat} : ∀ {l r : List TkD}, FitsZ N l L → HT N r → L + r.length ≤ capC N * ft r → HT N (l ++ r)
  | [], r, _, h, _ => h
  | k :: q, r, ⟨⟨g1, x, g2, g3⟩, g4⟩, h, hl => by
    refine ⟨⟨x, g2, ?_⟩, HT.app g4 h hl⟩
    show x + (q ++ r).length ≤ capC N * ft (k :: (q ++ r))
    rw [ft_cons, if_neg g1, g4.ft, List.length_append]
    show x + (q.length + r.length) ≤ capC N * ft r
    omega
theorem HT.tail {N : List Nd} {k : TkD} {r : List TkD} (h : HT N (k :: r)) : HT N r := h.2
theorem HT.len {N : List Nd} {r : List TkD} (h : HT N r) (hr : r ≠ []) : r.length ≤ capC N * ft r := by
  cases r with
  | nil => exact absurd rfl hr
  | cons k ts =>
    obtain ⟨L, l, hl⟩ := h.1
    have := l.p
    simp only [List.length_cons]
    omega
/-- the tops of the lists below a node -/
theorem SeqS.top {R : Nat → Nat → Nat → Nat → Nat → Nat → Prop} (hR : ∀ x lo a b al al', R x lo a b al al' → lo < x) : ∀ {l : List Nat} {lo hi a b al al' : Nat}, SeqS R l lo hi a b al al' → lo ≤ hi ∧ ∀ x ∈ l, x ≤ hi
  | [], lo, hi, a, b, al, al', h => ⟨by rw [h.1]; exact Nat.le_refl _, fun x hx => by cases hx⟩
  | y :: l, lo, hi, a, b, al, al', h => by
    obtain ⟨b1, al1, h1, h2⟩ := h
    obtain ⟨p, q⟩ := SeqS.top hR h2
    have := hR _ _ _ _ _ _ h1
    refine ⟨by omega, fun x hx => ?_⟩
    rcases List.mem_cons.1 hx with e | e
    · rw [e]; exact p
    · exact q x e
theorem SeqE.top {R : Nat → Nat → Nat → Nat → Nat → Prop} {dec : Nat} (hR : ∀ x lo a b w, R x lo a b w → lo < x) : ∀ {l : List Nat} {lo hi a b w : Nat}, SeqE R dec l lo hi a b w → lo ≤ hi ∧ ∀ x ∈ l, x ≤ hi
  | [], lo, hi, a, b, w, h => ⟨by rw [h.1]; exact Nat.le_refl _, fun x hx => by cases hx⟩
  | y :: l, lo, hi, a, b, w, h => by
    obtain ⟨b1, h1, h2⟩ := h
    obtain ⟨p, q⟩ := SeqE.top hR h2
    have := hR _ _ _ _ _ h1
    refine ⟨by omega, fun x hx => ?_⟩
    rcases List.mem_cons.1 hx with e | e
    · rw [e]; exact p
    · exact q x e
theorem Names.top {N : List Nd} : ∀ {l : List Nat} {lo hi : Nat}, Names N l lo hi → lo ≤ hi ∧ ∀ x ∈ l, x ≤ hi
  | [], lo, hi, h => ⟨by rw [show hi = lo from h]; exact Nat.le_refl _, fun x hx => by cases hx⟩
  | y :: l, lo, hi, h => by
    obtain ⟨h1, _, _, _, _, h2⟩ := h
    obtain ⟨p, q⟩ := Names.top h2
    refine ⟨by omega, fun x hx => ?_⟩
    rcases List.mem_cons.1 hx with e | e
    · rw [e]; omega
    · exact q x e
/-- of an expression -/
structure ExTp (N : List Nd) (n : Nat) : Prop where
  lt : n < N.length
  n0 : n ≠ 0
  k15 : (N.getD n nd0).k = 15 → (N.getD n nd0).n < 18446744073709551616
  k16 : (N.getD n nd0).k = 16 ∨ (N.getD n nd0).k = 17 → (N.getD n nd0).s.length ≤ 40
  k19 : (N.getD n nd0).k = 19 → CBz N (N.getD n nd0).b (n - 1)
  k20 : (N.getD n nd0).k = 20 → CBz N (N.getD n nd0).b (n - 1)
  k21 : (N.getD n nd0).k = 21 → CBz N (N.getD n nd0).a (n - 1)
theorem ExSZ.tp {N : List Nd} {n : Nat} (h : ExSZ N n) : ExTp N n := by
  obtain ⟨lo, a, b, w, kk, h⟩ := h
  cases kk with
  | zero => exact h.elim
  | succ kk =>
    obtain ⟨h1, h2, h3⟩ := h
    have hE : ∀ (x lo a b w : Nat), ShN N kk 1 x lo a b w 0 0 false → lo < x := fun x lo a b w g => g.lt
    have hS : ∀ (x lo a b al al' : Nat), ShN N kk 0 x lo a b 120 al al' false → lo < x := fun x lo a b al al' g => g.lt
    have n0 : n ≠ 0 := by omega
    rcases h3 with ⟨_, h3⟩ | ⟨z, _⟩
    · rcases h3 with ⟨e, _⟩ | ⟨e, _, _, _, g1, _⟩ | ⟨e, _, _, _, g⟩ | ⟨e, _, _, _, g⟩ | ⟨e, _⟩ | ⟨e, _, l, h1', b1, g0, g1, g2, g3, g4⟩ | ⟨e, _, _, _, l, hh, l2, h2', al2, g0, g1, g2, g3, g4, g5⟩ | ⟨e, _, l, h1', g0, g1, g2⟩ | ⟨e, _⟩ | ⟨e, _⟩ | ⟨e, _⟩
      · exact ⟨h2, n0, fun z => by omega, fun z => by omega, fun z => by omega, fun z => by omega, fun z => by omega⟩
      · exact ⟨h2, n0, fun z => g1, fun z => by omega, fun z => by omega, fun z => by omega, fun z => by omega⟩
      · exact ⟨h2, n0, fun z => by omega, fun z => g, fun z => by omega, fun z => by omega, fun z => by omega⟩
      · exact ⟨h2, n0, fun z => by omega, fun z => g.2, fun z => by omega, fun z => by omega, fun z => by omega⟩
      · exact ⟨h2, n0, fun z => by omega, fun z => by omega, fun z => by omega, fun z => by omega, fun z => by omega⟩
      · exact ⟨h2, n0, fun z => by omega, fun z => by omega, fun z => ⟨l, g2, fun x hx => by have := (SeqE.top hE g4).2 x hx; omega⟩, fun z => by omega, fun z => by omega⟩
      · exact ⟨h2, n0, fun z => by omega, fun z => by omega, fun z => by omega, fun z => ⟨l2, g4, fun x hx => by have := (SeqS.top hS g5).2 x hx; omega⟩, fun z => by omega⟩
      · exact ⟨h2, n0, fun z => by omega, fun z => by omega, fun z => by omega, fun z => by omega, fun z => ⟨l, g1, fun x hx => by have := (SeqE.top hE g2).2 x hx; omega⟩⟩
      · exact ⟨h2, n0, fun z => by omega, fun z => by omega, fun z => by omega, fun z => by omega, fun z => by omega⟩
      · exact ⟨h2, n0, fun z => by omega, fun z => by omega, fun z => by omega, fun z => by omega, fun z => by omega⟩
      · exact ⟨h2, n0, fun z => by omega, fun z => by omega, fun z => by omega, fun z => by omega, fun z => by omega⟩
    · cases z
/-- of a statement -/
structure StTp (N : List Nd) (n : Nat) : Prop where
  lt : n < N.length
  n0 : n ≠ 0
  s : (N.getD n nd0).k = 1 ∨ (N.getD n nd0).k = 3 ∨ (N.getD n nd0).k = 8 → (N.getD n nd0).s.length ≤ 40
  k6 : (N.getD n nd0).k = 6 → CBz N (N.getD n nd0).b (n - 1) ∧ CBz N (N.getD n nd0).c (n - 1)
  k7 : (N.getD n nd0).k = 7 → CBz N (N.getD n nd0).b (n - 1)
  k8 : (N.getD n nd0).k = 8 → CBz N (N.getD n nd0).a (n - 1) ∧ CBz N (N.getD n nd0).b (n - 1)
  k9 : (N.getD n nd0).k = 9 → CBz N (N.getD n nd0).c (n - 1)
  nm : (N.getD n nd0).k = 2 ∨ (N.getD n nd0).k = 9 → (N.getD (N.getD n nd0).a nd0).s.length ≤ 40 ∧ (N.getD (N.getD (N.getD n nd0).a nd0).next nd0).s.length ≤ 40
theorem names2z {N : List Nd} {lo hi : Nat} (h : Names N [lo + 1, lo + 2] lo hi) : (N.getD (lo + 1) nd0).s.length ≤ 40 ∧ (N.getD (lo + 2) nd0).s.length ≤ 40 := by
  obtain ⟨_, _, _, _, h1, _, _, _, _, h2, _⟩ := h
  exact ⟨h1, h2⟩
theorem StS.tp {N : List Nd} {n : Nat} {lp : Bool} (h : StS N n lp) : StTp N n := by
  obtain ⟨lo, a, b, al, al', kk, h⟩ := h
  cases kk with
  | zero => exact h.elim
  | succ kk =>
    obtain ⟨h1, h2, h3⟩ := h
    have hE : ∀ (x lo a b w : Nat), ShN N kk 1 x lo a b 120 0 0 false → lo < x := fun x lo a b w g => g.lt
    have hS : ∀ (lp : Bool) (x lo a b al al' : Nat), ShN N kk 0 x lo a b 120 al al' lp → lo < x := fun lp x lo a b al al' g => g.lt
    have n0 : n ≠ 0 := by omega
    rcases h3 with ⟨z, _⟩ | ⟨_, h3⟩
    · cases z
    · rcases h3 with ⟨e, g1, _⟩ | ⟨e, _, _, g3, g4, g5, _⟩ | ⟨e, g1, _⟩ | ⟨e, _⟩ | ⟨e, _⟩ | ⟨e, _, b1, l, h1', b2, l2, h2', x1, x2, g0, g3, g4, g5, g6, g7⟩ | ⟨e, _, b1, l, h1', x1, g2, g3, g4, g5⟩ | ⟨e, g1, g2, g3, l0, h0, b0, l, h1', x1, g4, g5, g6, g7, g8, g9⟩ | ⟨e, g1, g2, g3, g4, g5, b0, l, h1', x1, g6, g7, g8, g9⟩ | ⟨e, _⟩ | ⟨e, _⟩
      · exact ⟨h2, n0, fun z => g1.2, fun z => by omega, fun z => by omega, fun z => by omega, fun z => by omega, fun z => by omega⟩
      · exact ⟨h2, n0, fun z => by omega, fun z => by omega, fun z => by omega, fun z => by omega, fun z => by omega, fun z => by rw [g4, g3]; exact names2z g5⟩
      · exact ⟨h2, n0, fun z => g1.2, fun z => by omega, fun z => by omega, fun z => by omega, fun z => by omega, fun z => by omega⟩
      · exact ⟨h2, n0, fun z => by omega, fun z => by omega, fun z => by omega, fun z => by omega, fun z => by omega, fun z => by omega⟩
      · exact ⟨h2, n0, fun z => by omega, fun z => by omega, fun z => by omega, fun z => by omega, fun z => by omega, fun z => by omega⟩
      · have t1 := SeqS.top (hS lp) g5
        have t2 := SeqS.top (hS lp) g7
        exact ⟨h2, n0, fun z => by omega, fun z => ⟨⟨l, g4, fun x hx => by have := t1.2 x hx; omega⟩, ⟨l2, g6, fun x hx => by have := t2.2 x hx; omega⟩⟩, fun z => by omega, fun z => by omega, fun z => by omega, fun z => by omega⟩
      · have t1 := SeqS.top (hS true) g5
        exact ⟨h2, n0, fun z => by omega, fun z => by omega, fun z => ⟨l, g4, fun x hx => by have := t1.2 x hx; omega⟩, fun z => by omega, fun z => by omega, fun z => by omega⟩
      · have t1 := SeqE.top hE g7
        have t2 := SeqS.top (hS true) g9
        exact ⟨h2, n0, fun z => g3.2, fun z => by omega, fun z => by omega, fun z => ⟨⟨l0, g5, fun x hx => by have := t1.2 x hx; omega⟩, ⟨l, g8, fun x hx => by have := t2.2 x hx; omega⟩⟩, fun z => by omega, fun z => by omega⟩
      · have t2 := SeqS.top (hS true) g9
        exact ⟨h2, n0, fun z => by omega, fun z => by omega, fun z => by omega, fun z => by omega, fun z => ⟨l, g8, fun x hx => by have := t2.2 x hx; omega⟩, fun z => by rw [g4, g3]; exact names2z g5⟩
      · exact ⟨h2, n0, fun z => by omega, fun z => by omega, fun z => by omega, fun z => by omega, fun z => by omega, fun z => by omega⟩
      · exact ⟨h2, n0, fun z => by omega, fun z => by omega, fun z => by omega, fun z => by omega, fun z => by omega, fun z => by omega⟩
end Go.Proofs.Qxb6500574aGreatDoor
