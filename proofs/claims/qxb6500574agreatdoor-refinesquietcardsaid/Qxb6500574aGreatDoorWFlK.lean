/-
  moon: THE TREE LAID FLAT: what kind of node hangs where. Plain; no memory, no walk.
-/
import Derived.Test.Qxb6500574aGreatDoorWFl0
namespace Go.Proofs.Qxb6500574aGreatDoor
open Go Go.RowKit
set_option linter.unusedVariables false
set_option linter.unusedSimpArgs false
open Go.Lib
section
variable {N : List Nd} {n : Nat}
def GoodE (N : List Nd) (n : Nat) : Prop := ∃ lo a b w, Sh N 1 n lo a b w 0 0 false
def GoodS (N : List Nd) (n : Nat) : Prop := ∃ lo a b al al' lp, Sh N 0 n lo a b 120 al al' lp
def Ok3 (N : List Nd) (n : Nat) : Prop := GoodE N n ∨ GoodS N n ∨ (N.getD n nd0).k = 17
def ChOk (N : List Nd) (f : Nat) : Prop := ∀ l, Chain N f l → ∀ x ∈ l, Ok3 N x
theorem chain_uniqK {N : List Nd} : ∀ {l l' : List Nat} {n : Nat}, Chain N n l → Chain N n l' → l = l'
  | [], [], _, _, _ => rfl
  | [], y :: r, n, h, h' => absurd (h'.1.symm.trans h) h'.2.1
  | x :: r, [], n, h, h' => absurd (h.1.symm.trans h') h.2.1
  | x :: r, y :: q, n, h, h' => by
    have e : x = y := h.1.symm.trans h'.1
    subst e
    rw [chain_uniqK h.2.2 h'.2.2]
theorem ChOk.of {f : Nat} {l : List Nat} (h : Chain N f l) (g : ∀ x ∈ l, Ok3 N x) : ChOk N f := fun l' h' x hx => g x (by rw [chain_uniqK h h']; exact hx)
theorem SeqE.ok {dec : Nat} {W : Nat → Nat} : ∀ {l : List Nat} {lo hi a b w : Nat}, SeqE (fun x lo a b w => Sh N 1 x lo a b (W w) 0 0 false) dec l lo hi a b w → ∀ x ∈ l, Ok3 N x
  | [], _, _, _, _, _, _, x, hx => by cases hx
  | y :: r, lo, hi, a, b, w, h, x, hx => by
    obtain ⟨b1, h1, h2⟩ := h
    rcases List.mem_cons.1 hx with rfl | hx
    · exact .inl ⟨_, _, _, _, h1⟩
    · exact SeqE.ok h2 x hx
theorem SeqS.ok {lp : Bool} : ∀ {l : List Nat} {lo hi a b al al' : Nat}, SeqS (fun x lo a b al al' => Sh N 0 x lo a b 120 al al' lp) l lo hi a b al al' → ∀ x ∈ l, Ok3 N x
  | [], _, _, _, _, _, _, _, x, hx => by cases hx
  | y :: r, lo, hi, a, b, al, al', h, x, hx => by
    obtain ⟨b1, al1, h1, h2⟩ := h
    rcases List.mem_cons.1 hx with rfl | hx
    · exact .inr (.inl ⟨_, _, _, _, _, _, h1⟩)
    · exact SeqS.ok h2 x hx
theorem Names.ok : ∀ {l : List Nat} {lo hi : Nat}, Names N l lo hi → ∀ x ∈ l, Ok3 N x
  | [], _, _, _, x, hx => by cases hx
  | y :: r, lo, hi, h, x, hx => by
    obtain ⟨h1, h2, h3, h4, h5, h6⟩ := h
    rcases List.mem_cons.1 hx with rfl | hx
    · exact .inr (.inr h3)
    · exact Names.ok h6 x hx
theorem GoodE.k (h : GoodE N n) : 12 ≤ (N.getD n nd0).k ∧ (N.getD n nd0).k ≤ 25 := by
  obtain ⟨lo, a, b, w, h⟩ := h
  obtain ⟨_, _, h⟩ := h.out
  rcases h with ⟨_, h⟩ | ⟨h, _⟩
  · omega
  · cases h
theorem GoodE.bin (h : GoodE N n) (hk : (N.getD n nd0).k = 18 ∨ (N.getD n nd0).k = 22 ∨ (N.getD n nd0).k = 24 ∨ (N.getD n nd0).k = 25) : GoodE N (N.getD n nd0).a ∧ GoodE N (N.getD n nd0).b := by
  obtain ⟨lo, a, b, w, h⟩ := h
  obtain ⟨_, _, h⟩ := h.out
  generalize N.getD n nd0 = d at *
  rcases h with ⟨_, h⟩ | ⟨h, _⟩
  · rcases h with h | h | h | h | ⟨_, _, _, b1, h1, h2⟩ | h | h | h | ⟨_, _, _, _, b1, h1, h2⟩ | h | ⟨_, _, b1, h1, h2⟩
    all_goals first | exact ⟨⟨_, _, _, _, h1⟩, ⟨_, _, _, _, h2⟩⟩ | (exfalso; omega)
  · cases h
theorem GoodE.call (h : GoodE N n) (hk : (N.getD n nd0).k = 19) : GoodE N (N.getD n nd0).a ∧ ChOk N (N.getD n nd0).b := by
  obtain ⟨lo, a, b, w, h⟩ := h
  obtain ⟨_, _, h⟩ := h.out
  generalize N.getD n nd0 = d at *
  rcases h with ⟨_, h⟩ | ⟨h, _⟩
  · rcases h with h | h | h | h | h | ⟨_, _, l, h1, b1, _, g1, g2, _, g3⟩ | h | h | h | h | h
    all_goals first | exact ⟨⟨_, _, _, _, g1⟩, ChOk.of g2 (SeqE.ok (W := id) g3)⟩ | (exfalso; omega)
  · cases h
theorem GoodE.func (h : GoodE N n) (hk : (N.getD n nd0).k = 20) : ChOk N (N.getD n nd0).a ∧ ChOk N (N.getD n nd0).b := by
  obtain ⟨lo, a, b, w, h⟩ := h
  obtain ⟨_, _, h⟩ := h.out
  generalize N.getD n nd0 = d at *
  rcases h with ⟨_, h⟩ | ⟨h, _⟩
  · rcases h with h | h | h | h | h | h | ⟨_, _, _, _, l, h1, l2, h2, al2, _, g1, _, g2, g3, g4⟩ | h | h | h | h
    all_goals first | exact ⟨ChOk.of g1 (Names.ok g2), ChOk.of g3 (SeqS.ok g4)⟩ | (exfalso; omega)
  · cases h
theorem GoodE.table (h : GoodE N n) (hk : (N.getD n nd0).k = 21) : ChOk N (N.getD n nd0).a := by
  obtain ⟨lo, a, b, w, h⟩ := h
  obtain ⟨_, _, h⟩ := h.out
  generalize N.getD n nd0 = d at *
  rcases h with ⟨_, h⟩ | ⟨h, _⟩
  · rcases h with h | h | h | h | h | h | h | ⟨_, _, l, h1, _, g1, g2⟩ | h | h | h
    all_goals first | exact ChOk.of g1 (SeqE.ok (W := id) g2) | (exfalso; omega)
  · cases h
theorem GoodE.un (h : GoodE N n) (hk : (N.getD n nd0).k = 23) : GoodE N (N.getD n nd0).a := by
  obtain ⟨lo, a, b, w, h⟩ := h
  obtain ⟨_, _, h⟩ := h.out
  generalize N.getD n nd0 = d at *
  rcases h with ⟨_, h⟩ | ⟨h, _⟩
  · rcases h with h | h | h | h | h | h | h | h | h | ⟨_, _, _, g⟩ | h
    all_goals first | exact ⟨_, _, _, _, g⟩ | (exfalso; omega)
  · cases h
/-- what hangs below a statement -/
structure StK (N : List Nd) (d : Nd) : Prop where
  k : 1 ≤ d.k ∧ d.k ≤ 11
  k1 : d.k = 1 → d.a = 0 ∨ GoodE N d.a
  k2 : d.k = 2 → (∀ x, x = d.a ∨ x = d.a + 1 → (N.getD x nd0).k = 17) ∧ GoodE N d.b
  k3 : d.k = 3 ∨ d.k = 5 → GoodE N d.a
  k4 : d.k = 4 → GoodE N d.a ∧ GoodE N d.b
  k6 : d.k = 6 → GoodE N d.a ∧ ChOk N d.b ∧ ChOk N d.c
  k7 : d.k = 7 → GoodE N d.a ∧ ChOk N d.b
  k8 : d.k = 8 → ChOk N d.a ∧ ChOk N d.b
  k9 : d.k = 9 → (∀ x, x = d.a ∨ x = d.a + 1 → (N.getD x nd0).k = 17) ∧ GoodE N d.b ∧ ChOk N d.c
  k10 : d.k = 10 → (d.a = 0 ∨ GoodE N d.a) ∧ (d.b = 0 ∨ GoodE N d.b)
theorem names2 {lo f : Nat} (h0 : f = lo + 1) (h2 : Names N [lo + 1, lo + 2] lo (lo + 2)) : ∀ x, x = f ∨ x = f + 1 → (N.getD x nd0).k = 17 := by
  obtain ⟨_, _, h3, _, _, _, _, h4, _⟩ := h2
  rintro x (rfl | rfl)
  · rw [h0]; exact h3
  · rw [h0]; exact h4
theorem GoodS.out (h : GoodS N n) : StK N (N.getD n nd0) := by
  obtain ⟨lo, a, b, al, al', lp, h⟩ := h
  obtain ⟨_, _, h⟩ := h.out
  generalize N.getD n nd0 = d at *
  rcases h with ⟨h, _⟩ | ⟨_, h⟩
  · cases h
  · rcases h with ⟨k, _, _, _, h⟩ | ⟨k, _, _, h1, _, h2, _, _, h3⟩ | ⟨k, _, _, _, _, _, h1⟩ | ⟨k, _, _, _, b1, h1, h2⟩ | ⟨k, _, _, _, h1⟩ | ⟨k, _, b1, l, h1, b2, l2, h2, x1, x2, _, g1, g2, g3, g4, g5⟩ | ⟨k, _, b1, l, h1, x1, _, g1, g2, g3⟩ | ⟨k, _, _, _, l0, h0, b0, l, h1, x1, _, g1, _, g2, g3, g4⟩ | ⟨k, _, _, g0, _, g1, b0, l, h1, x1, _, g2, g3, g4⟩ | ⟨k, _, h⟩ | ⟨k, _⟩
    · exact ⟨by omega, fun _ => h.imp (fun x => x.1) (fun x => ⟨_, _, _, _, x.2⟩), fun e => by omega, fun e => by omega, fun e => by omega, fun e => by omega, fun e => by omega, fun e => by omega, fun e => by omega, fun e => by omega⟩
    · exact ⟨by omega, fun e => by omega, fun _ => ⟨names2 h1 h2, ⟨_, _, _, _, h3⟩⟩, fun e => by omega, fun e => by omega, fun e => by omega, fun e => by omega, fun e => by omega, fun e => by omega, fun e => by omega⟩
    · exact ⟨by omega, fun e => by omega, fun e => by omega, fun _ => ⟨_, _, _, _, h1⟩, fun e => by omega, fun e => by omega, fun e => by omega, fun e => by omega, fun e => by omega, fun e => by omega⟩
    · exact ⟨by omega, fun e => by omega, fun e => by omega, fun e => by omega, fun _ => ⟨⟨_, _, _, _, h1⟩, ⟨_, _, _, _, h2⟩⟩, fun e => by omega, fun e => by omega, fun e => by omega, fun e => by omega, fun e => by omega⟩
    · exact ⟨by omega, fun e => by omega, fun e => by omega, fun _ => ⟨_, _, _, _, h1⟩, fun e => by omega, fun e => by omega, fun e => by omega, fun e => by omega, fun e => by omega, fun e => by omega⟩
    · exact ⟨by omega, fun e => by omega, fun e => by omega, fun e => by omega, fun e => by omega, fun _ => ⟨⟨_, _, _, _, g1⟩, ChOk.of g2 (SeqS.ok g3), ChOk.of g4 (SeqS.ok g5)⟩, fun e => by omega, fun e => by omega, fun e => by omega, fun e => by omega⟩
    · exact ⟨by omega, fun e => by omega, fun e => by omega, fun e => by omega, fun e => by omega, fun e => by omega, fun _ => ⟨⟨_, _, _, _, g1⟩, ChOk.of g2 (SeqS.ok g3)⟩, fun e => by omega, fun e => by omega, fun e => by omega⟩
    · exact ⟨by omega, fun e => by omega, fun e => by omega, fun e => by omega, fun e => by omega, fun e => by omega, fun e => by omega, fun _ => ⟨ChOk.of g1 (SeqE.ok (W := fun _ => 120) g2), ChOk.of g3 (SeqS.ok g4)⟩, fun e => by omega, fun e => by omega⟩
    · exact ⟨by omega, fun e => by omega, fun e => by omega, fun e => by omega, fun e => by omega, fun e => by omega, fun e => by omega, fun e => by omega, fun _ => ⟨names2 g0 g1, ⟨_, _, _, _, g2⟩, ChOk.of g3 (SeqS.ok g4)⟩, fun e => by omega⟩
    · refine ⟨by omega, fun e => by omega, fun e => by omega, fun e => by omega, fun e => by omega, fun e => by omega, fun e => by omega, fun e => by omega, fun e => by omega, fun _ => ?_⟩
      rcases h with ⟨h1, h2, _⟩ | ⟨h1, _, h2⟩ | ⟨_, b1, h1, h2⟩
      · exact ⟨.inl h1, .inl h2⟩
      · exact ⟨.inr ⟨_, _, _, _, h2⟩, .inl h1⟩
      · exact ⟨.inr ⟨_, _, _, _, h1⟩, .inr ⟨_, _, _, _, h2⟩⟩
    · exact ⟨by omega, fun e => by omega, fun e => by omega, fun e => by omega, fun e => by omega, fun e => by omega, fun e => by omega, fun e => by omega, fun e => by omega, fun e => by omega⟩
/-- a list's members, by the chain -/
theorem Lst.chain : ∀ {ms : List Mb} {lo hi f : Nat}, Lst N lo hi f ms → Chain N f (ms.map fun x => x.2.1)
  | [], _, _, _, h => h.2
  | x :: r, lo, hi, f, h => ⟨h.2.2.1, (fun e => by have h2 := h.2.1; rw [show x.2.1 = 0 from e] at h2; omega), Lst.chain h.2.2.2⟩
theorem ChOk.mem {ms : List Mb} {lo hi f : Nat} (h : ChOk N f) (hl : Lst N lo hi f ms) : ∀ x ∈ ms, Ok3 N x.2.1 := fun x hx => h _ hl.chain _ (List.mem_map_of_mem hx)
end
end Go.Proofs.Qxb6500574aGreatDoor
