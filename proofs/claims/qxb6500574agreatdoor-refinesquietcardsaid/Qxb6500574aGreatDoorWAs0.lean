/-
  moon: THE TREE IN MEMORY: a value is node n of the arena N; its tree takes the nodes (lo, n].
-/
import Derived.Test.Qxb6500574aGreatDoorWLx15
import Derived.Test.Qxb6500574aGreatDoorWPar10
namespace Go.Proofs.Qxb6500574aGreatDoor
open Go Go.RowKit
set_option linter.unusedVariables false
set_option linter.unusedSimpArgs false
open Go.Lib
def Nd.cut (d : Nd) : Nd := { d with next := 0 }
/-- a member: where its tree begins, its node, its value -/
abbrev Mb := Nat × Nat × Value
/-- a list: (lo, hi], its first node, its members -/
abbrev Ls := Nat × Nat × Nat × List Mb
def Lst (N : List Nd) : Nat → Nat → Nat → List Mb → Prop
  | lo, hi, f, [] => hi = lo ∧ f = 0
  | lo, hi, f, x :: r => x.1 = lo ∧ lo < x.2.1 ∧ f = x.2.1 ∧ Lst N x.2.1 hi (N.getD x.2.1 nd0).next r
theorem Lst.le {N : List Nd} : ∀ {l : List Mb} {lo hi f : Nat}, Lst N lo hi f l → lo ≤ hi
  | [], _, _, _, h => by rw [h.1]; exact Nat.le_refl _
  | _ :: _, _, _, _, h => by
    have h1 := Lst.le h.2.2.2
    have h2 := h.2.1
    omega
theorem Lst.mem {N : List Nd} : ∀ {l : List Mb} {lo hi f : Nat}, Lst N lo hi f l → ∀ x ∈ l, lo ≤ x.1 ∧ x.1 < x.2.1 ∧ x.2.1 ≤ hi
  | [], _, _, _, _, x, hx => by cases hx
  | y :: r, lo, hi, f, h, x, hx => by
    have h1 := Lst.le h.2.2.2
    have h2 := h.2.1
    have h3 := h.1
    rcases List.mem_cons.1 hx with e | e
    · subst e
      omega
    · have := Lst.mem h.2.2.2 x e
      omega
theorem Lst.up {N N' : List Nd} : ∀ {l : List Mb} {lo hi f : Nat}, Lst N lo hi f l → (∀ i, lo < i → i ≤ hi → N'.getD i nd0 = N.getD i nd0) → Lst N' lo hi f l
  | [], _, _, _, h, _ => h
  | x :: r, lo, hi, f, h, g => by
    have h1 := Lst.le h.2.2.2
    have h2 := h.2.1
    refine ⟨h.1, h.2.1, h.2.2.1, ?_⟩
    rw [g x.2.1 h2 h1]
    exact Lst.up h.2.2.2 fun i a b => g i (by omega) b
/-- one more member -/
theorem Lst.snoc {N N' : List Nd} {x : Mb} : ∀ {l : List Mb} {lo hi f : Nat}, Lst N lo hi f l → x.1 = hi → hi < x.2.1 → (N'.getD x.2.1 nd0).next = 0 → (∀ i, lo < i → i < hi → N'.getD i nd0 = N.getD i nd0) → (lo < hi → (N'.getD hi nd0).next = x.2.1) → Lst N' lo x.2.1 (if l = [] then x.2.1 else f) (l ++ [x])
  | [], lo, hi, f, h, h1, h2, h3, h4, h5 => by
    obtain ⟨rfl, rfl⟩ := h
    exact ⟨h1, h2, rfl, rfl, h3⟩
  | y :: r, lo, hi, f, h, h1, h2, h3, h4, h5 => by
    have g1 := Lst.le h.2.2.2
    have g2 := h.2.1
    rw [if_neg (by simp)]
    refine ⟨h.1, h.2.1, h.2.2.1, ?_⟩
    have ih := Lst.snoc h.2.2.2 h1 h2 h3 (fun i a b => h4 i (by omega) b) (fun a => h5 (by omega))
    cases r with
    | nil =>
      obtain ⟨e1, e2⟩ := h.2.2.2
      rw [← e1, h5 (by omega)]
      rw [← e1] at ih
      simpa using ih
    | cons z q =>
      rw [if_neg (by simp)] at ih
      have e3 : y.2.1 < hi := by
        have := (h.2.2.2 : Lst N y.2.1 hi _ (z :: q))
        have a1 := this.2.1
        have a2 := Lst.le this.2.2.2
        omega
      rw [h4 _ g2 e3]
      exact ih
/-- blocks of the tree -/
abbrev Bks := List (Nat × Array Value × TypeId)
def Mm (w : World) (P : Nat → Prop) (mem : Bks) : Prop := ∀ x ∈ mem, P x.1 ∧ Has w x.1 x.2.1 x.2.2
/-- a list's slice: its block, if it has one -/
def SlM (l : List Mb) (v : Value) (m : Bks) : Prop := (l = [] ∧ v = .slice none 0 0 ∧ m = []) ∨ ∃ g c cs, v = .slice (some ⟨g, 0, none⟩) l.length c ∧ l ≠ [] ∧ l.length ≤ c ∧ (∀ (i : Nat) (x : Mb), l[i]? = some x → cs[i]? = some x.2.2) ∧ m = [(g, cs, 206)]
/-- an expression that may be left out -/
def OpM (lo hi a : Nat) (v : Value) (k : List Mb) : Prop := (a = 0 ∧ v = .nilIface ∧ k = [] ∧ hi = lo) ∨ (a = hi ∧ lo < a ∧ k = [(lo, a, v)])
/-- the node D: its value, its children, its blocks, its lists -/
def Shp (D : Nd) (LO M : Nat) (V : Value) (KS : List Mb) (BS : Bks) (LS : List Ls) : Prop :=
  (∃ (k : Nat) (p : Nat) (b : Nat) (lo : Nat), D = ⟨k, 0, 0, 0, 0, 0, [], p⟩ ∧ LO = lo ∧ M = (lo + 1) ∧ V = (.iface 390 (.pointer (some ⟨b, 0, none⟩))) ∧ KS = [] ∧ BS = [(b, #[.int .i64 p, .int .i64 k], 392)] ∧ LS = [] ∧ (k = 12 ∨ k = 13 ∨ k = 14)) ∨
  (∃ (x : Nat) (p : Nat) (b : Nat) (lo : Nat), D = ⟨15, 0, 0, 0, 0, x, [], p⟩ ∧ LO = lo ∧ M = (lo + 1) ∧ V = (.iface 393 (.pointer (some ⟨b, 0, none⟩))) ∧ KS = [] ∧ BS = [(b, #[.int .i64 p, .int .u64 x], 395)] ∧ LS = [] ∧ (x < 18446744073709551616)) ∨
  (∃ (s : Bs) (p : Nat) (b : Nat) (lo : Nat), D = ⟨16, 0, 0, 0, 0, 0, s, p⟩ ∧ LO = lo ∧ M = (lo + 1) ∧ V = (.iface 382 (.pointer (some ⟨b, 0, none⟩))) ∧ KS = [] ∧ BS = [(b, #[.int .i64 p, sv s], 383)] ∧ LS = []) ∨
  (∃ (s : Bs) (p : Nat) (b : Nat) (lo : Nat), D = ⟨17, 0, 0, 0, 0, 0, s, p⟩ ∧ LO = lo ∧ M = (lo + 1) ∧ V = (.iface 296 (.pointer (some ⟨b, 0, none⟩))) ∧ KS = [] ∧ BS = [(b, #[.int .i64 p, sv s], 357)] ∧ LS = []) ∨
  (∃ (x : Value) (y : Value) (p : Nat) (b : Nat) (lo : Nat) (a : Nat) (c : Nat), D = ⟨18, a, c, 0, 0, 0, [], p⟩ ∧ LO = lo ∧ M = (c + 1) ∧ V = (.iface 297 (.pointer (some ⟨b, 0, none⟩))) ∧ KS = [(lo, a, x), (a, c, y)] ∧ BS = [(b, #[.int .i64 p, x, y], 385)] ∧ LS = []) ∨
  (∃ (x : Value) (y : Value) (p : Nat) (b : Nat) (lo : Nat) (a : Nat) (f : Nat) (hi : Nat) (ms : List Mb) (m : Bks), D = ⟨19, a, f, 0, 0, 0, [], p⟩ ∧ LO = lo ∧ M = (hi + 1) ∧ V = (.iface 291 (.pointer (some ⟨b, 0, none⟩))) ∧ KS = ((lo, a, x) :: ms) ∧ BS = ((b, #[.int .i64 p, x, y], 388) :: m) ∧ LS = [(a, hi, f, ms)] ∧ (SlM ms y m)) ∨
  (∃ (x : Value) (y : Value) (p : Nat) (b : Nat) (lo : Nat) (f : Nat) (g : Nat) (h1 : Nat) (hi : Nat) (num : Nat) (ms : List Mb) (ns : List Mb) (m : Bks) (m' : Bks), D = ⟨20, f, g, 0, 0, num, [], p⟩ ∧ LO = lo ∧ M = (hi + 1) ∧ V = (.iface 354 (.pointer (some ⟨b, 0, none⟩))) ∧ KS = (ms ++ ns) ∧ BS = ((b, #[.int .i64 p, .int .i64 num, x, y], 397) :: (m ++ m')) ∧ LS = [(lo, h1, f, ms), (h1, hi, g, ns)] ∧ (SlM ms x m) ∧ (SlM ns y m') ∧ (num ≤ 12)) ∨
  (∃ (y : Value) (p : Nat) (b : Nat) (lo : Nat) (f : Nat) (hi : Nat) (ms : List Mb) (m : Bks), D = ⟨21, f, 0, 0, 0, 0, [], p⟩ ∧ LO = lo ∧ M = (hi + 1) ∧ V = (.iface 398 (.pointer (some ⟨b, 0, none⟩))) ∧ KS = ms ∧ BS = ((b, #[.int .i64 p, y], 400) :: m) ∧ LS = [(lo, hi, f, ms)] ∧ (SlM ms y m)) ∨
  (∃ (k : Nat) (op : Nat) (x : Value) (y : Value) (p : Nat) (b : Nat) (lo : Nat) (a : Nat) (c : Nat), D = ⟨k, a, c, 0, 0, op, [], p⟩ ∧ LO = lo ∧ M = (c + 1) ∧ V = (.iface 377 (.pointer (some ⟨b, 0, none⟩))) ∧ KS = [(lo, a, x), (a, c, y)] ∧ BS = [(b, #[.int .i64 p, .int .i64 k, .int .u64 op, x, y], 379)] ∧ LS = [] ∧ (k = 22 ∨ k = 24 ∨ k = 25) ∧ (op ≤ 20)) ∨
  (∃ (op : Nat) (x : Value) (p : Nat) (b : Nat) (lo : Nat) (a : Nat), D = ⟨23, a, 0, 0, 0, op, [], p⟩ ∧ LO = lo ∧ M = (a + 1) ∧ V = (.iface 401 (.pointer (some ⟨b, 0, none⟩))) ∧ KS = [(lo, a, x)] ∧ BS = [(b, #[.int .i64 p, .int .u64 op, x], 403)] ∧ LS = [] ∧ (op ≤ 20)) ∨
  (∃ (s : Bs) (x : Value) (y : Value) (p : Nat) (b : Nat) (c : Nat) (lo : Nat) (a : Nat) (hi : Nat) (ks : List Mb) (m : Bks), D = ⟨1, a, 0, 0, 0, 0, s, p⟩ ∧ LO = lo ∧ M = (hi + 1) ∧ V = (.iface 362 (.pointer (some ⟨b, 0, none⟩))) ∧ KS = ks ∧ BS = ((b, #[y, x], 364) :: (c, #[.int .i64 p, sv s], 357) :: m) ∧ LS = [] ∧ (SlM [(lo, lo + 1, .iface 296 (.pointer (some ⟨c, 0, none⟩)))] y m) ∧ (OpM lo hi a x ks)) ∨
  (∃ (s : Bs) (x : Value) (y : Value) (z : Value) (p : Nat) (b : Nat) (c : Nat) (lo : Nat) (a : Nat) (m : Bks), D = ⟨2, lo + 1, a, 0, 0, 0, [], p⟩ ∧ LO = lo ∧ M = (a + 1) ∧ V = (.iface 362 (.pointer (some ⟨b, 0, none⟩))) ∧ KS = [(lo, lo + 1, .iface 296 (.pointer (some ⟨c, 0, none⟩))), (lo + 1, lo + 2, z), (lo + 2, a, x)] ∧ BS = ((b, #[y, x], 364) :: (c, #[.int .i64 p, sv s], 357) :: m) ∧ LS = [(lo, lo + 2, lo + 1, [(lo, lo + 1, .iface 296 (.pointer (some ⟨c, 0, none⟩))), (lo + 1, lo + 2, z)])] ∧ (SlM [(lo, lo + 1, .iface 296 (.pointer (some ⟨c, 0, none⟩))), (lo + 1, lo + 2, z)] y m)) ∨
  (∃ (s : Bs) (p : Nat) (b : Nat) (c : Nat) (d : Nat) (lo : Nat) (a : Nat), D = ⟨3, a, 0, 0, 0, 0, s, p⟩ ∧ LO = lo ∧ M = (a + 1) ∧ V = (.iface 358 (.pointer (some ⟨b, 0, none⟩))) ∧ KS = [(lo, a, .iface 354 (.pointer (some ⟨d, 0, none⟩)))] ∧ BS = [(b, #[.pointer (some ⟨c, 0, none⟩), .pointer (some ⟨d, 0, none⟩)], 360), (c, #[.int .i64 p, sv s], 357)] ∧ LS = []) ∨
  (∃ (x : Value) (y : Value) (p : Nat) (b : Nat) (lo : Nat) (a : Nat) (c : Nat), D = ⟨4, a, c, 0, 0, 0, [], p⟩ ∧ LO = lo ∧ M = (c + 1) ∧ V = (.iface 298 (.pointer (some ⟨b, 0, none⟩))) ∧ KS = [(lo, a, x), (a, c, y)] ∧ BS = [(b, #[.int .i64 p, x, y], 300)] ∧ LS = []) ∨
  (∃ (p : Nat) (b : Nat) (d : Nat) (cs : Array Value) (lo : Nat) (a : Nat), D = ⟨5, a, 0, 0, 0, 0, [], p⟩ ∧ LO = lo ∧ M = (a + 1) ∧ V = (.iface 293 (.pointer (some ⟨b, 0, none⟩))) ∧ KS = [(lo, a, .iface 291 (.pointer (some ⟨d, 0, none⟩)))] ∧ BS = [(b, #[.pointer (some ⟨d, 0, none⟩)], 295), (d, cs, 388)] ∧ LS = [] ∧ (cs[0]? = some (.int .i64 (p : Nat)))) ∨
  (∃ (x : Value) (y : Value) (z : Value) (p : Nat) (b : Nat) (lo : Nat) (a : Nat) (f : Nat) (g : Nat) (h1 : Nat) (hi : Nat) (ms : List Mb) (ns : List Mb) (m : Bks) (m' : Bks), D = ⟨6, a, f, g, 0, 0, [], p⟩ ∧ LO = lo ∧ M = (hi + 1) ∧ V = (.iface 365 (.pointer (some ⟨b, 0, none⟩))) ∧ KS = ((lo, a, x) :: (ms ++ ns)) ∧ BS = ((b, #[.int .i64 p, x, y, z], 367) :: (m ++ m')) ∧ LS = [(a, h1, f, ms), (h1, hi, g, ns)] ∧ (SlM ms y m) ∧ (SlM ns z m')) ∨
  (∃ (x : Value) (y : Value) (p : Nat) (b : Nat) (lo : Nat) (a : Nat) (f : Nat) (hi : Nat) (ms : List Mb) (m : Bks), D = ⟨7, a, f, 0, 0, 0, [], p⟩ ∧ LO = lo ∧ M = (hi + 1) ∧ V = (.iface 284 (.pointer (some ⟨b, 0, none⟩))) ∧ KS = ((lo, a, x) :: ms) ∧ BS = ((b, #[.int .i64 p, x, y], 286) :: m) ∧ LS = [(a, hi, f, ms)] ∧ (SlM ms y m)) ∨
  (∃ (s : Bs) (x : Value) (y : Value) (p : Nat) (b : Nat) (c : Nat) (lo : Nat) (f : Nat) (g : Nat) (h1 : Nat) (hi : Nat) (ms : List Mb) (ns : List Mb) (m : Bks) (m' : Bks), D = ⟨8, f, g, 0, 0, 0, s, p⟩ ∧ LO = lo ∧ M = (hi + 1) ∧ V = (.iface 371 (.pointer (some ⟨b, 0, none⟩))) ∧ KS = (ms ++ ns) ∧ BS = ((b, #[.pointer (some ⟨c, 0, none⟩), x, y], 373) :: (c, #[.int .i64 p, sv s], 357) :: (m ++ m')) ∧ LS = [(lo, h1, f, ms), (h1, hi, g, ns)] ∧ (SlM ms x m) ∧ (SlM ns y m')) ∨
  (∃ (s : Bs) (x : Value) (y : Value) (u : Value) (z : Value) (p : Nat) (b : Nat) (c : Nat) (lo : Nat) (a : Nat) (g : Nat) (hi : Nat) (ns : List Mb) (m : Bks) (m' : Bks), D = ⟨9, lo + 1, a, g, 0, 0, [], p⟩ ∧ LO = lo ∧ M = (hi + 1) ∧ V = (.iface 368 (.pointer (some ⟨b, 0, none⟩))) ∧ KS = ([(lo, lo + 1, .iface 296 (.pointer (some ⟨c, 0, none⟩))), (lo + 1, lo + 2, z), (lo + 2, a, x)] ++ ns) ∧ BS = ((b, #[y, x, u], 370) :: (c, #[.int .i64 p, sv s], 357) :: (m ++ m')) ∧ LS = [(lo, lo + 2, lo + 1, [(lo, lo + 1, .iface 296 (.pointer (some ⟨c, 0, none⟩))), (lo + 1, lo + 2, z)]), (a, hi, g, ns)] ∧ (SlM [(lo, lo + 1, .iface 296 (.pointer (some ⟨c, 0, none⟩))), (lo + 1, lo + 2, z)] y m) ∧ (SlM ns u m')) ∨
  (∃ (x : Value) (y : Value) (p : Nat) (b : Nat) (lo : Nat) (a : Nat) (c : Nat) (h1 : Nat) (hi : Nat) (ks : List Mb) (ks' : List Mb), D = ⟨10, a, c, 0, 0, 0, [], p⟩ ∧ LO = lo ∧ M = (hi + 1) ∧ V = (.iface 203 (.pointer (some ⟨b, 0, none⟩))) ∧ KS = (ks ++ ks') ∧ BS = [(b, #[.int .i64 p, x, y], 381)] ∧ LS = [] ∧ (OpM lo h1 a x ks) ∧ (OpM h1 hi c y ks')) ∨
  (∃ (p : Nat) (b : Nat) (lo : Nat), D = ⟨11, 0, 0, 0, 0, 0, [], p⟩ ∧ LO = lo ∧ M = (lo + 1) ∧ V = (.iface 204 (.pointer (some ⟨b, 0, none⟩))) ∧ KS = [] ∧ BS = [(b, #[.int .i64 p], 288)] ∧ LS = [])
theorem Shp.lit {k : Nat} {p : Nat} {b : Nat} {lo : Nat} (hk : k = 12 ∨ k = 13 ∨ k = 14) : Shp ⟨k, 0, 0, 0, 0, 0, [], p⟩ lo (lo + 1) (.iface 390 (.pointer (some ⟨b, 0, none⟩))) [] [(b, #[.int .i64 p, .int .i64 k], 392)] [] :=
  Or.inl ⟨k, p, b, lo, rfl, rfl, rfl, rfl, rfl, rfl, rfl, hk⟩
theorem Shp.num {x : Nat} {p : Nat} {b : Nat} {lo : Nat} (hx : x < 18446744073709551616) : Shp ⟨15, 0, 0, 0, 0, x, [], p⟩ lo (lo + 1) (.iface 393 (.pointer (some ⟨b, 0, none⟩))) [] [(b, #[.int .i64 p, .int .u64 x], 395)] [] :=
  Or.inr (Or.inl ⟨x, p, b, lo, rfl, rfl, rfl, rfl, rfl, rfl, rfl, hx⟩)
theorem Shp.str {s : Bs} {p : Nat} {b : Nat} {lo : Nat}  : Shp ⟨16, 0, 0, 0, 0, 0, s, p⟩ lo (lo + 1) (.iface 382 (.pointer (some ⟨b, 0, none⟩))) [] [(b, #[.int .i64 p, sv s], 383)] [] :=
  Or.inr (Or.inr (Or.inl ⟨s, p, b, lo, rfl, rfl, rfl, rfl, rfl, rfl, rfl⟩))
theorem Shp.name {s : Bs} {p : Nat} {b : Nat} {lo : Nat}  : Shp ⟨17, 0, 0, 0, 0, 0, s, p⟩ lo (lo + 1) (.iface 296 (.pointer (some ⟨b, 0, none⟩))) [] [(b, #[.int .i64 p, sv s], 357)] [] :=
  Or.inr (Or.inr (Or.inr (Or.inl ⟨s, p, b, lo, rfl, rfl, rfl, rfl, rfl, rfl, rfl⟩)))
theorem Shp.index {x : Value} {y : Value} {p : Nat} {b : Nat} {lo : Nat} {a : Nat} {c : Nat}  : Shp ⟨18, a, c, 0, 0, 0, [], p⟩ lo (c + 1) (.iface 297 (.pointer (some ⟨b, 0, none⟩))) [(lo, a, x), (a, c, y)] [(b, #[.int .i64 p, x, y], 385)] [] :=
  Or.inr (Or.inr (Or.inr (Or.inr (Or.inl ⟨x, y, p, b, lo, a, c, rfl, rfl, rfl, rfl, rfl, rfl, rfl⟩))))
theorem Shp.call {x : Value} {y : Value} {p : Nat} {b : Nat} {lo : Nat} {a : Nat} {f : Nat} {hi : Nat} {ms : List Mb} {m : Bks} (hs : SlM ms y m) : Shp ⟨19, a, f, 0, 0, 0, [], p⟩ lo (hi + 1) (.iface 291 (.pointer (some ⟨b, 0, none⟩))) ((lo, a, x) :: ms) ((b, #[.int .i64 p, x, y], 388) :: m) [(a, hi, f, ms)] :=
  Or.inr (Or.inr (Or.inr (Or.inr (Or.inr (Or.inl ⟨x, y, p, b, lo, a, f, hi, ms, m, rfl, rfl, rfl, rfl, rfl, rfl, rfl, hs⟩)))))
theorem Shp.func {x : Value} {y : Value} {p : Nat} {b : Nat} {lo : Nat} {f : Nat} {g : Nat} {h1 : Nat} {hi : Nat} {num : Nat} {ms : List Mb} {ns : List Mb} {m : Bks} {m' : Bks} (hs : SlM ms x m) (hb : SlM ns y m') (hn : num ≤ 12) : Shp ⟨20, f, g, 0, 0, num, [], p⟩ lo (hi + 1) (.iface 354 (.pointer (some ⟨b, 0, none⟩))) (ms ++ ns) ((b, #[.int .i64 p, .int .i64 num, x, y], 397) :: (m ++ m')) [(lo, h1, f, ms), (h1, hi, g, ns)] :=
  Or.inr (Or.inr (Or.inr (Or.inr (Or.inr (Or.inr (Or.inl ⟨x, y, p, b, lo, f, g, h1, hi, num, ms, ns, m, m', rfl, rfl, rfl, rfl, rfl, rfl, rfl, hs, hb, hn⟩))))))
theorem Shp.table {y : Value} {p : Nat} {b : Nat} {lo : Nat} {f : Nat} {hi : Nat} {ms : List Mb} {m : Bks} (hs : SlM ms y m) : Shp ⟨21, f, 0, 0, 0, 0, [], p⟩ lo (hi + 1) (.iface 398 (.pointer (some ⟨b, 0, none⟩))) ms ((b, #[.int .i64 p, y], 400) :: m) [(lo, hi, f, ms)] :=
  Or.inr (Or.inr (Or.inr (Or.inr (Or.inr (Or.inr (Or.inr (Or.inl ⟨y, p, b, lo, f, hi, ms, m, rfl, rfl, rfl, rfl, rfl, rfl, rfl, hs⟩)))))))
theorem Shp.binary {k : Nat} {op : Nat} {x : Value} {y : Value} {p : Nat} {b : Nat} {lo : Nat} {a : Nat} {c : Nat} (hk : k = 22 ∨ k = 24 ∨ k = 25) (ho : op ≤ 20) : Shp ⟨k, a, c, 0, 0, op, [], p⟩ lo (c + 1) (.iface 377 (.pointer (some ⟨b, 0, none⟩))) [(lo, a, x), (a, c, y)] [(b, #[.int .i64 p, .int .i64 k, .int .u64 op, x, y], 379)] [] :=
  Or.inr (Or.inr (Or.inr (Or.inr (Or.inr (Or.inr (Or.inr (Or.inr (Or.inl ⟨k, op, x, y, p, b, lo, a, c, rfl, rfl, rfl, rfl, rfl, rfl, rfl, hk, ho⟩))))))))
theorem Shp.unary {op : Nat} {x : Value} {p : Nat} {b : Nat} {lo : Nat} {a : Nat} (ho : op ≤ 20) : Shp ⟨23, a, 0, 0, 0, op, [], p⟩ lo (a + 1) (.iface 401 (.pointer (some ⟨b, 0, none⟩))) [(lo, a, x)] [(b, #[.int .i64 p, .int .u64 op, x], 403)] [] :=
  Or.inr (Or.inr (Or.inr (Or.inr (Or.inr (Or.inr (Or.inr (Or.inr (Or.inr (Or.inl ⟨op, x, p, b, lo, a, rfl, rfl, rfl, rfl, rfl, rfl, rfl, ho⟩)))))))))
theorem Shp.local1 {s : Bs} {x : Value} {y : Value} {p : Nat} {b : Nat} {c : Nat} {lo : Nat} {a : Nat} {hi : Nat} {ks : List Mb} {m : Bks} (hs : SlM [(lo, lo + 1, .iface 296 (.pointer (some ⟨c, 0, none⟩)))] y m) (ho : OpM lo hi a x ks) : Shp ⟨1, a, 0, 0, 0, 0, s, p⟩ lo (hi + 1) (.iface 362 (.pointer (some ⟨b, 0, none⟩))) ks ((b, #[y, x], 364) :: (c, #[.int .i64 p, sv s], 357) :: m) [] :=
  Or.inr (Or.inr (Or.inr (Or.inr (Or.inr (Or.inr (Or.inr (Or.inr (Or.inr (Or.inr (Or.inl ⟨s, x, y, p, b, c, lo, a, hi, ks, m, rfl, rfl, rfl, rfl, rfl, rfl, rfl, hs, ho⟩))))))))))
theorem Shp.local2 {s : Bs} {x : Value} {y : Value} {z : Value} {p : Nat} {b : Nat} {c : Nat} {lo : Nat} {a : Nat} {m : Bks} (hs : SlM [(lo, lo + 1, .iface 296 (.pointer (some ⟨c, 0, none⟩))), (lo + 1, lo + 2, z)] y m) : Shp ⟨2, lo + 1, a, 0, 0, 0, [], p⟩ lo (a + 1) (.iface 362 (.pointer (some ⟨b, 0, none⟩))) [(lo, lo + 1, .iface 296 (.pointer (some ⟨c, 0, none⟩))), (lo + 1, lo + 2, z), (lo + 2, a, x)] ((b, #[y, x], 364) :: (c, #[.int .i64 p, sv s], 357) :: m) [(lo, lo + 2, lo + 1, [(lo, lo + 1, .iface 296 (.pointer (some ⟨c, 0, none⟩))), (lo + 1, lo + 2, z)])] :=
  Or.inr (Or.inr (Or.inr (Or.inr (Or.inr (Or.inr (Or.inr (Or.inr (Or.inr (Or.inr (Or.inr (Or.inl ⟨s, x, y, z, p, b, c, lo, a, m, rfl, rfl, rfl, rfl, rfl, rfl, rfl, hs⟩)))))))))))
theorem Shp.localfn {s : Bs} {p : Nat} {b : Nat} {c : Nat} {d : Nat} {lo : Nat} {a : Nat}  : Shp ⟨3, a, 0, 0, 0, 0, s, p⟩ lo (a + 1) (.iface 358 (.pointer (some ⟨b, 0, none⟩))) [(lo, a, .iface 354 (.pointer (some ⟨d, 0, none⟩)))] [(b, #[.pointer (some ⟨c, 0, none⟩), .pointer (some ⟨d, 0, none⟩)], 360), (c, #[.int .i64 p, sv s], 357)] [] :=
  Or.inr (Or.inr (Or.inr (Or.inr (Or.inr (Or.inr (Or.inr (Or.inr (Or.inr (Or.inr (Or.inr (Or.inr (Or.inl ⟨s, p, b, c, d, lo, a, rfl, rfl, rfl, rfl, rfl, rfl, rfl⟩))))))))))))
theorem Shp.assign {x : Value} {y : Value} {p : Nat} {b : Nat} {lo : Nat} {a : Nat} {c : Nat}  : Shp ⟨4, a, c, 0, 0, 0, [], p⟩ lo (c + 1) (.iface 298 (.pointer (some ⟨b, 0, none⟩))) [(lo, a, x), (a, c, y)] [(b, #[.int .i64 p, x, y], 300)] [] :=
  Or.inr (Or.inr (Or.inr (Or.inr (Or.inr (Or.inr (Or.inr (Or.inr (Or.inr (Or.inr (Or.inr (Or.inr (Or.inr (Or.inl ⟨x, y, p, b, lo, a, c, rfl, rfl, rfl, rfl, rfl, rfl, rfl⟩)))))))))))))
theorem Shp.callst {p : Nat} {b : Nat} {d : Nat} {cs : Array Value} {lo : Nat} {a : Nat} (hp : cs[0]? = some (.int .i64 (p : Nat))) : Shp ⟨5, a, 0, 0, 0, 0, [], p⟩ lo (a + 1) (.iface 293 (.pointer (some ⟨b, 0, none⟩))) [(lo, a, .iface 291 (.pointer (some ⟨d, 0, none⟩)))] [(b, #[.pointer (some ⟨d, 0, none⟩)], 295), (d, cs, 388)] [] :=
  Or.inr (Or.inr (Or.inr (Or.inr (Or.inr (Or.inr (Or.inr (Or.inr (Or.inr (Or.inr (Or.inr (Or.inr (Or.inr (Or.inr (Or.inl ⟨p, b, d, cs, lo, a, rfl, rfl, rfl, rfl, rfl, rfl, rfl, hp⟩))))))))))))))
theorem Shp.ifs {x : Value} {y : Value} {z : Value} {p : Nat} {b : Nat} {lo : Nat} {a : Nat} {f : Nat} {g : Nat} {h1 : Nat} {hi : Nat} {ms : List Mb} {ns : List Mb} {m : Bks} {m' : Bks} (hs : SlM ms y m) (hb : SlM ns z m') : Shp ⟨6, a, f, g, 0, 0, [], p⟩ lo (hi + 1) (.iface 365 (.pointer (some ⟨b, 0, none⟩))) ((lo, a, x) :: (ms ++ ns)) ((b, #[.int .i64 p, x, y, z], 367) :: (m ++ m')) [(a, h1, f, ms), (h1, hi, g, ns)] :=
  Or.inr (Or.inr (Or.inr (Or.inr (Or.inr (Or.inr (Or.inr (Or.inr (Or.inr (Or.inr (Or.inr (Or.inr (Or.inr (Or.inr (Or.inr (Or.inl ⟨x, y, z, p, b, lo, a, f, g, h1, hi, ms, ns, m, m', rfl, rfl, rfl, rfl, rfl, rfl, rfl, hs, hb⟩)))))))))))))))
theorem Shp.whiles {x : Value} {y : Value} {p : Nat} {b : Nat} {lo : Nat} {a : Nat} {f : Nat} {hi : Nat} {ms : List Mb} {m : Bks} (hs : SlM ms y m) : Shp ⟨7, a, f, 0, 0, 0, [], p⟩ lo (hi + 1) (.iface 284 (.pointer (some ⟨b, 0, none⟩))) ((lo, a, x) :: ms) ((b, #[.int .i64 p, x, y], 286) :: m) [(a, hi, f, ms)] :=
  Or.inr (Or.inr (Or.inr (Or.inr (Or.inr (Or.inr (Or.inr (Or.inr (Or.inr (Or.inr (Or.inr (Or.inr (Or.inr (Or.inr (Or.inr (Or.inr (Or.inl ⟨x, y, p, b, lo, a, f, hi, ms, m, rfl, rfl, rfl, rfl, rfl, rfl, rfl, hs⟩))))))))))))))))
theorem Shp.fors {s : Bs} {x : Value} {y : Value} {p : Nat} {b : Nat} {c : Nat} {lo : Nat} {f : Nat} {g : Nat} {h1 : Nat} {hi : Nat} {ms : List Mb} {ns : List Mb} {m : Bks} {m' : Bks} (hs : SlM ms x m) (hb : SlM ns y m') : Shp ⟨8, f, g, 0, 0, 0, s, p⟩ lo (hi + 1) (.iface 371 (.pointer (some ⟨b, 0, none⟩))) (ms ++ ns) ((b, #[.pointer (some ⟨c, 0, none⟩), x, y], 373) :: (c, #[.int .i64 p, sv s], 357) :: (m ++ m')) [(lo, h1, f, ms), (h1, hi, g, ns)] :=
  Or.inr (Or.inr (Or.inr (Or.inr (Or.inr (Or.inr (Or.inr (Or.inr (Or.inr (Or.inr (Or.inr (Or.inr (Or.inr (Or.inr (Or.inr (Or.inr (Or.inr (Or.inl ⟨s, x, y, p, b, c, lo, f, g, h1, hi, ms, ns, m, m', rfl, rfl, rfl, rfl, rfl, rfl, rfl, hs, hb⟩)))))))))))))))))
theorem Shp.forin {s : Bs} {x : Value} {y : Value} {u : Value} {z : Value} {p : Nat} {b : Nat} {c : Nat} {lo : Nat} {a : Nat} {g : Nat} {hi : Nat} {ns : List Mb} {m : Bks} {m' : Bks} (hs : SlM [(lo, lo + 1, .iface 296 (.pointer (some ⟨c, 0, none⟩))), (lo + 1, lo + 2, z)] y m) (hb : SlM ns u m') : Shp ⟨9, lo + 1, a, g, 0, 0, [], p⟩ lo (hi + 1) (.iface 368 (.pointer (some ⟨b, 0, none⟩))) ([(lo, lo + 1, .iface 296 (.pointer (some ⟨c, 0, none⟩))), (lo + 1, lo + 2, z), (lo + 2, a, x)] ++ ns) ((b, #[y, x, u], 370) :: (c, #[.int .i64 p, sv s], 357) :: (m ++ m')) [(lo, lo + 2, lo + 1, [(lo, lo + 1, .iface 296 (.pointer (some ⟨c, 0, none⟩))), (lo + 1, lo + 2, z)]), (a, hi, g, ns)] :=
  Or.inr (Or.inr (Or.inr (Or.inr (Or.inr (Or.inr (Or.inr (Or.inr (Or.inr (Or.inr (Or.inr (Or.inr (Or.inr (Or.inr (Or.inr (Or.inr (Or.inr (Or.inr (Or.inl ⟨s, x, y, u, z, p, b, c, lo, a, g, hi, ns, m, m', rfl, rfl, rfl, rfl, rfl, rfl, rfl, hs, hb⟩))))))))))))))))))
theorem Shp.ret {x : Value} {y : Value} {p : Nat} {b : Nat} {lo : Nat} {a : Nat} {c : Nat} {h1 : Nat} {hi : Nat} {ks : List Mb} {ks' : List Mb} (hs : OpM lo h1 a x ks) (hb : OpM h1 hi c y ks') : Shp ⟨10, a, c, 0, 0, 0, [], p⟩ lo (hi + 1) (.iface 203 (.pointer (some ⟨b, 0, none⟩))) (ks ++ ks') [(b, #[.int .i64 p, x, y], 381)] [] :=
  Or.inr (Or.inr (Or.inr (Or.inr (Or.inr (Or.inr (Or.inr (Or.inr (Or.inr (Or.inr (Or.inr (Or.inr (Or.inr (Or.inr (Or.inr (Or.inr (Or.inr (Or.inr (Or.inr (Or.inl ⟨x, y, p, b, lo, a, c, h1, hi, ks, ks', rfl, rfl, rfl, rfl, rfl, rfl, rfl, hs, hb⟩)))))))))))))))))))
theorem Shp.brk {p : Nat} {b : Nat} {lo : Nat}  : Shp ⟨11, 0, 0, 0, 0, 0, [], p⟩ lo (lo + 1) (.iface 204 (.pointer (some ⟨b, 0, none⟩))) [] [(b, #[.int .i64 p], 288)] [] :=
  Or.inr (Or.inr (Or.inr (Or.inr (Or.inr (Or.inr (Or.inr (Or.inr (Or.inr (Or.inr (Or.inr (Or.inr (Or.inr (Or.inr (Or.inr (Or.inr (Or.inr (Or.inr (Or.inr (Or.inr (⟨p, b, lo, rfl, rfl, rfl, rfl, rfl, rfl, rfl⟩))))))))))))))))))))
theorem Shp.on {motive : ∀ (D : Nd) (LO M : Nat) (V : Value) (KS : List Mb) (BS : Bks) (LS : List Ls), Shp D LO M V KS BS LS → Prop}
    (lit : ∀ {k : Nat} {p : Nat} {b : Nat} {lo : Nat} (hk : k = 12 ∨ k = 13 ∨ k = 14), motive ⟨k, 0, 0, 0, 0, 0, [], p⟩ lo (lo + 1) (.iface 390 (.pointer (some ⟨b, 0, none⟩))) [] [(b, #[.int .i64 p, .int .i64 k], 392)] [] (Shp.lit (k := k) (p := p) (b := b) (lo := lo) hk))
    (num : ∀ {x : Nat} {p : Nat} {b : Nat} {lo : Nat} (hx : x < 18446744073709551616), motive ⟨15, 0, 0, 0, 0, x, [], p⟩ lo (lo + 1) (.iface 393 (.pointer (some ⟨b, 0, none⟩))) [] [(b, #[.int .i64 p, .int .u64 x], 395)] [] (Shp.num (x := x) (p := p) (b := b) (lo := lo) hx))
    (str : ∀ {s : Bs} {p : Nat} {b : Nat} {lo : Nat} , motive ⟨16, 0, 0, 0, 0, 0, s, p⟩ lo (lo + 1) (.iface 382 (.pointer (some ⟨b, 0, none⟩))) [] [(b, #[.int .i64 p, sv s], 383)] [] (Shp.str (s := s) (p := p) (b := b) (lo := lo)))
    (name : ∀ {s : Bs} {p : Nat} {b : Nat} {lo : Nat} , motive ⟨17, 0, 0, 0, 0, 0, s, p⟩ lo (lo + 1) (.iface 296 (.pointer (some ⟨b, 0, none⟩))) [] [(b, #[.int .i64 p, sv s], 357)] [] (Shp.name (s := s) (p := p) (b := b) (lo := lo)))
    (index : ∀ {x : Value} {y : Value} {p : Nat} {b : Nat} {lo : Nat} {a : Nat} {c : Nat} , motive ⟨18, a, c, 0, 0, 0, [], p⟩ lo (c + 1) (.iface 297 (.pointer (some ⟨b, 0, none⟩))) [(lo, a, x), (a, c, y)] [(b, #[.int .i64 p, x, y], 385)] [] (Shp.index (x := x) (y := y) (p := p) (b := b) (lo := lo) (a := a) (c := c)))
    (call : ∀ {x : Value} {y : Value} {p : Nat} {b : Nat} {lo : Nat} {a : Nat} {f : Nat} {hi : Nat} {ms : List Mb} {m : Bks} (hs : SlM ms y m), motive ⟨19, a, f, 0, 0, 0, [], p⟩ lo (hi + 1) (.iface 291 (.pointer (some ⟨b, 0, none⟩))) ((lo, a, x) :: ms) ((b, #[.int .i64 p, x, y], 388) :: m) [(a, hi, f, ms)] (Shp.call (x := x) (y := y) (p := p) (b := b) (lo := lo) (a := a) (f := f) (hi := hi) (ms := ms) (m := m) hs))
    (func : ∀ {x : Value} {y : Value} {p : Nat} {b : Nat} {lo : Nat} {f : Nat} {g : Nat} {h1 : Nat} {hi : Nat} {num : Nat} {ms : List Mb} {ns : List Mb} {m : Bks} {m' : Bks} (hs : SlM ms x m) (hb : SlM ns y m') (hn : num ≤ 12), motive ⟨20, f, g, 0, 0, num, [], p⟩ lo (hi + 1) (.iface 354 (.pointer (some ⟨b, 0, none⟩))) (ms ++ ns) ((b, #[.int .i64 p, .int .i64 num, x, y], 397) :: (m ++ m')) [(lo, h1, f, ms), (h1, hi, g, ns)] (Shp.func (x := x) (y := y) (p := p) (b := b) (lo := lo) (f := f) (g := g) (h1 := h1) (hi := hi) (num := num) (ms := ms) (ns := ns) (m := m) (m' := m') hs hb hn))
    (table : ∀ {y : Value} {p : Nat} {b : Nat} {lo : Nat} {f : Nat} {hi : Nat} {ms : List Mb} {m : Bks} (hs : SlM ms y m), motive ⟨21, f, 0, 0, 0, 0, [], p⟩ lo (hi + 1) (.iface 398 (.pointer (some ⟨b, 0, none⟩))) ms ((b, #[.int .i64 p, y], 400) :: m) [(lo, hi, f, ms)] (Shp.table (y := y) (p := p) (b := b) (lo := lo) (f := f) (hi := hi) (ms := ms) (m := m) hs))
    (binary : ∀ {k : Nat} {op : Nat} {x : Value} {y : Value} {p : Nat} {b : Nat} {lo : Nat} {a : Nat} {c : Nat} (hk : k = 22 ∨ k = 24 ∨ k = 25) (ho : op ≤ 20), motive ⟨k, a, c, 0, 0, op, [], p⟩ lo (c + 1) (.iface 377 (.pointer (some ⟨b, 0, none⟩))) [(lo, a, x), (a, c, y)] [(b, #[.int .i64 p, .int .i64 k, .int .u64 op, x, y], 379)] [] (Shp.binary (k := k) (op := op) (x := x) (y := y) (p := p) (b := b) (lo := lo) (a := a) (c := c) hk ho))
    (unary : ∀ {op : Nat} {x : Value} {p : Nat} {b : Nat} {lo : Nat} {a : Nat} (ho : op ≤ 20), motive ⟨23, a, 0, 0, 0, op, [], p⟩ lo (a + 1) (.iface 401 (.pointer (some ⟨b, 0, none⟩))) [(lo, a, x)] [(b, #[.int .i64 p, .int .u64 op, x], 403)] [] (Shp.unary (op := op) (x := x) (p := p) (b := b) (lo := lo) (a := a) ho))
    (local1 : ∀ {s : Bs} {x : Value} {y : Value} {p : Nat} {b : Nat} {c : Nat} {lo : Nat} {a : Nat} {hi : Nat} {ks : List Mb} {m : Bks} (hs : SlM [(lo, lo + 1, .iface 296 (.pointer (some ⟨c, 0, none⟩)))] y m) (ho : OpM lo hi a x ks), motive ⟨1, a, 0, 0, 0, 0, s, p⟩ lo (hi + 1) (.iface 362 (.pointer (some ⟨b, 0, none⟩))) ks ((b, #[y, x], 364) :: (c, #[.int .i64 p, sv s], 357) :: m) [] (Shp.local1 (s := s) (x := x) (y := y) (p := p) (b := b) (c := c) (lo := lo) (a := a) (hi := hi) (ks := ks) (m := m) hs ho))
    (local2 : ∀ {s : Bs} {x : Value} {y : Value} {z : Value} {p : Nat} {b : Nat} {c : Nat} {lo : Nat} {a : Nat} {m : Bks} (hs : SlM [(lo, lo + 1, .iface 296 (.pointer (some ⟨c, 0, none⟩))), (lo + 1, lo + 2, z)] y m), motive ⟨2, lo + 1, a, 0, 0, 0, [], p⟩ lo (a + 1) (.iface 362 (.pointer (some ⟨b, 0, none⟩))) [(lo, lo + 1, .iface 296 (.pointer (some ⟨c, 0, none⟩))), (lo + 1, lo + 2, z), (lo + 2, a, x)] ((b, #[y, x], 364) :: (c, #[.int .i64 p, sv s], 357) :: m) [(lo, lo + 2, lo + 1, [(lo, lo + 1, .iface 296 (.pointer (some ⟨c, 0, none⟩))), (lo + 1, lo + 2, z)])] (Shp.local2 (s := s) (x := x) (y := y) (z := z) (p := p) (b := b) (c := c) (lo := lo) (a := a) (m := m) hs))
    (localfn : ∀ {s : Bs} {p : Nat} {b : Nat} {c : Nat} {d : Nat} {lo : Nat} {a : Nat} , motive ⟨3, a, 0, 0, 0, 0, s, p⟩ lo (a + 1) (.iface 358 (.pointer (some ⟨b, 0, none⟩))) [(lo, a, .iface 354 (.pointer (some ⟨d, 0, none⟩)))] [(b, #[.pointer (some ⟨c, 0, none⟩), .pointer (some ⟨d, 0, none⟩)], 360), (c, #[.int .i64 p, sv s], 357)] [] (Shp.localfn (s := s) (p := p) (b := b) (c := c) (d := d) (lo := lo) (a := a)))
    (assign : ∀ {x : Value} {y : Value} {p : Nat} {b : Nat} {lo : Nat} {a : Nat} {c : Nat} , motive ⟨4, a, c, 0, 0, 0, [], p⟩ lo (c + 1) (.iface 298 (.pointer (some ⟨b, 0, none⟩))) [(lo, a, x), (a, c, y)] [(b, #[.int .i64 p, x, y], 300)] [] (Shp.assign (x := x) (y := y) (p := p) (b := b) (lo := lo) (a := a) (c := c)))
    (callst : ∀ {p : Nat} {b : Nat} {d : Nat} {cs : Array Value} {lo : Nat} {a : Nat} (hp : cs[0]? = some (.int .i64 (p : Nat))), motive ⟨5, a, 0, 0, 0, 0, [], p⟩ lo (a + 1) (.iface 293 (.pointer (some ⟨b, 0, none⟩))) [(lo, a, .iface 291 (.pointer (some ⟨d, 0, none⟩)))] [(b, #[.pointer (some ⟨d, 0, none⟩)], 295), (d, cs, 388)] [] (Shp.callst (p := p) (b := b) (d := d) (cs := cs) (lo := lo) (a := a) hp))
    (ifs : ∀ {x : Value} {y : Value} {z : Value} {p : Nat} {b : Nat} {lo : Nat} {a : Nat} {f : Nat} {g : Nat} {h1 : Nat} {hi : Nat} {ms : List Mb} {ns : List Mb} {m : Bks} {m' : Bks} (hs : SlM ms y m) (hb : SlM ns z m'), motive ⟨6, a, f, g, 0, 0, [], p⟩ lo (hi + 1) (.iface 365 (.pointer (some ⟨b, 0, none⟩))) ((lo, a, x) :: (ms ++ ns)) ((b, #[.int .i64 p, x, y, z], 367) :: (m ++ m')) [(a, h1, f, ms), (h1, hi, g, ns)] (Shp.ifs (x := x) (y := y) (z := z) (p := p) (b := b) (lo := lo) (a := a) (f := f) (g := g) (h1 := h1) (hi := hi) (ms := ms) (ns := ns) (m := m) (m' := m') hs hb))
    (whiles : ∀ {x : Value} {y : Value} {p : Nat} {b : Nat} {lo : Nat} {a : Nat} {f : Nat} {hi : Nat} {ms : List Mb} {m : Bks} (hs : SlM ms y m), motive ⟨7, a, f, 0, 0, 0, [], p⟩ lo (hi + 1) (.iface 284 (.pointer (some ⟨b, 0, none⟩))) ((lo, a, x) :: ms) ((b, #[.int .i64 p, x, y], 286) :: m) [(a, hi, f, ms)] (Shp.whiles (x := x) (y := y) (p := p) (b := b) (lo := lo) (a := a) (f := f) (hi := hi) (ms := ms) (m := m) hs))
    (fors : ∀ {s : Bs} {x : Value} {y : Value} {p : Nat} {b : Nat} {c : Nat} {lo : Nat} {f : Nat} {g : Nat} {h1 : Nat} {hi : Nat} {ms : List Mb} {ns : List Mb} {m : Bks} {m' : Bks} (hs : SlM ms x m) (hb : SlM ns y m'), motive ⟨8, f, g, 0, 0, 0, s, p⟩ lo (hi + 1) (.iface 371 (.pointer (some ⟨b, 0, none⟩))) (ms ++ ns) ((b, #[.pointer (some ⟨c, 0, none⟩), x, y], 373) :: (c, #[.int .i64 p, sv s], 357) :: (m ++ m')) [(lo, h1, f, ms), (h1, hi, g, ns)] (Shp.fors (s := s) (x := x) (y := y) (p := p) (b := b) (c := c) (lo := lo) (f := f) (g := g) (h1 := h1) (hi := hi) (ms := ms) (ns := ns) (m := m) (m' := m') hs hb))
    (forin : ∀ {s : Bs} {x : Value} {y : Value} {u : Value} {z : Value} {p : Nat} {b : Nat} {c : Nat} {lo : Nat} {a : Nat} {g : Nat} {hi : Nat} {ns : List Mb} {m : Bks} {m' : Bks} (hs : SlM [(lo, lo + 1, .iface 296 (.pointer (some ⟨c, 0, none⟩))), (lo + 1, lo + 2, z)] y m) (hb : SlM ns u m'), motive ⟨9, lo + 1, a, g, 0, 0, [], p⟩ lo (hi + 1) (.iface 368 (.pointer (some ⟨b, 0, none⟩))) ([(lo, lo + 1, .iface 296 (.pointer (some ⟨c, 0, none⟩))), (lo + 1, lo + 2, z), (lo + 2, a, x)] ++ ns) ((b, #[y, x, u], 370) :: (c, #[.int .i64 p, sv s], 357) :: (m ++ m')) [(lo, lo + 2, lo + 1, [(lo, lo + 1, .iface 296 (.pointer (some ⟨c, 0, none⟩))), (lo + 1, lo + 2, z)]), (a, hi, g, ns)] (Shp.forin (s := s) (x := x) (y := y) (u := u) (z := z) (p := p) (b := b) (c := c) (lo := lo) (a := a) (g := g) (hi := hi) (ns := ns) (m := m) (m' := m') hs hb))
    (ret : ∀ {x : Value} {y : Value} {p : Nat} {b : Nat} {lo : Nat} {a : Nat} {c : Nat} {h1 : Nat} {hi : Nat} {ks : List Mb} {ks' : List Mb} (hs : OpM lo h1 a x ks) (hb : OpM h1 hi c y ks'), motive ⟨10, a, c, 0, 0, 0, [], p⟩ lo (hi + 1) (.iface 203 (.pointer (some ⟨b, 0, none⟩))) (ks ++ ks') [(b, #[.int .i64 p, x, y], 381)] [] (Shp.ret (x := x) (y := y) (p := p) (b := b) (lo := lo) (a := a) (c := c) (h1 := h1) (hi := hi) (ks := ks) (ks' := ks') hs hb))
    (brk : ∀ {p : Nat} {b : Nat} {lo : Nat} , motive ⟨11, 0, 0, 0, 0, 0, [], p⟩ lo (lo + 1) (.iface 204 (.pointer (some ⟨b, 0, none⟩))) [] [(b, #[.int .i64 p], 288)] [] (Shp.brk (p := p) (b := b) (lo := lo)))
    {D : Nd} {LO M : Nat} {V : Value} {KS : List Mb} {BS : Bks} {LS : List Ls} (h : Shp D LO M V KS BS LS) : motive D LO M V KS BS LS h := by
  rcases h with ⟨k_, p_, b_, lo_, rfl, rfl, rfl, rfl, rfl, rfl, rfl, hk⟩ | ⟨x_, p_, b_, lo_, rfl, rfl, rfl, rfl, rfl, rfl, rfl, hx⟩ | ⟨s_, p_, b_, lo_, rfl, rfl, rfl, rfl, rfl, rfl, rfl⟩ | ⟨s_, p_, b_, lo_, rfl, rfl, rfl, rfl, rfl, rfl, rfl⟩ | ⟨x_, y_, p_, b_, lo_, a_, c_, rfl, rfl, rfl, rfl, rfl, rfl, rfl⟩ | ⟨x_, y_, p_, b_, lo_, a_, f_, hi_, ms_, m_, rfl, rfl, rfl, rfl, rfl, rfl, rfl, hs⟩ | ⟨x_, y_, p_, b_, lo_, f_, g_, h1_, hi_, num_, ms_, ns_, m_, m'_, rfl, rfl, rfl, rfl, rfl, rfl, rfl, hs, hb, hn⟩ | ⟨y_, p_, b_, lo_, f_, hi_, ms_, m_, rfl, rfl, rfl, rfl, rfl, rfl, rfl, hs⟩ | ⟨k_, op_, x_, y_, p_, b_, lo_, a_, c_, rfl, rfl, rfl, rfl, rfl, rfl, rfl, hk, ho⟩ | ⟨op_, x_, p_, b_, lo_, a_, rfl, rfl, rfl, rfl, rfl, rfl, rfl, ho⟩ | ⟨s_, x_, y_, p_, b_, c_, lo_, a_, hi_, ks_, m_, rfl, rfl, rfl, rfl, rfl, rfl, rfl, hs, ho⟩ | ⟨s_, x_, y_, z_, p_, b_, c_, lo_, a_, m_, rfl, rfl, rfl, rfl, rfl, rfl, rfl, hs⟩ | ⟨s_, p_, b_, c_, d_, lo_, a_, rfl, rfl, rfl, rfl, rfl, rfl, rfl⟩ | ⟨x_, y_, p_, b_, lo_, a_, c_, rfl, rfl, rfl, rfl, rfl, rfl, rfl⟩ | ⟨p_, b_, d_, cs_, lo_, a_, rfl, rfl, rfl, rfl, rfl, rfl, rfl, hp⟩ | ⟨x_, y_, z_, p_, b_, lo_, a_, f_, g_, h1_, hi_, ms_, ns_, m_, m'_, rfl, rfl, rfl, rfl, rfl, rfl, rfl, hs, hb⟩ | ⟨x_, y_, p_, b_, lo_, a_, f_, hi_, ms_, m_, rfl, rfl, rfl, rfl, rfl, rfl, rfl, hs⟩ | ⟨s_, x_, y_, p_, b_, c_, lo_, f_, g_, h1_, hi_, ms_, ns_, m_, m'_, rfl, rfl, rfl, rfl, rfl, rfl, rfl, hs, hb⟩ | ⟨s_, x_, y_, u_, z_, p_, b_, c_, lo_, a_, g_, hi_, ns_, m_, m'_, rfl, rfl, rfl, rfl, rfl, rfl, rfl, hs, hb⟩ | ⟨x_, y_, p_, b_, lo_, a_, c_, h1_, hi_, ks_, ks'_, rfl, rfl, rfl, rfl, rfl, rfl, rfl, hs, hb⟩ | ⟨p_, b_, lo_, rfl, rfl, rfl, rfl, rfl, rfl, rfl⟩
  · exact lit hk
  · exact num hx
  · exact str 
  · exact name 
  · exact index 
  · exact call hs
  · exact func hs hb hn
  · exact table hs
  · exact binary hk ho
  · exact unary ho
  · exact local1 hs ho
  · exact local2 hs
  · exact localfn 
  · exact assign 
  · exact callst hp
  · exact ifs hs hb
  · exact whiles hs
  · exact fors hs hb
  · exact forin hs hb
  · exact ret hs hb
  · exact brk 
/-- the value v is node n of the arena N; its tree is at most f levels high -/
def TrF (w : World) (P : Nat → Prop) (N : List Nd) : Nat → Nat → Nat → Value → Prop
  | 0, _, _, _ => False
  | f + 1, lo, n, v => ∃ (d : Nd) (kids : List Mb) (mem : Bks) (ls : List Ls), (N.getD n nd0).cut = d ∧ Mm w P mem ∧ (∀ L ∈ ls, Lst N L.1 L.2.1 L.2.2.1 L.2.2.2 ∧ lo ≤ L.1 ∧ L.2.1 < n) ∧ (∀ x, x ∈ kids → TrF w P N f x.1 x.2.1 x.2.2) ∧ (∀ x ∈ kids, lo ≤ x.1 ∧ x.2.1 < n) ∧ (∀ x ∈ kids, (N.getD x.2.1 nd0).next = 0 ∨ ∃ L ∈ ls, x ∈ L.2.2.2) ∧ lo < n ∧ Shp d lo n v kids mem ls
/-- the value v is node n of the arena N -/
def TrA (w : World) (P : Nat → Prop) (N : List Nd) (lo n : Nat) (v : Value) : Prop := ∃ f, TrF w P N f lo n v
theorem TrF.more {w : World} {P : Nat → Prop} {N : List Nd} : ∀ {f : Nat} {lo n : Nat} {v : Value}, TrF w P N f lo n v → ∀ g, f ≤ g → TrF w P N g lo n v
  | 0, _, _, _, h, _, _ => h.elim
  | f + 1, lo, n, v, h, g, hg => by
    obtain ⟨d, kids, mem, ls, h1, h2, h3, h4, h5, h6, h7, h8⟩ := h
    obtain ⟨g', rfl⟩ : ∃ g', g = g' + 1 := ⟨g - 1, by omega⟩
    exact ⟨d, kids, mem, ls, h1, h2, h3, fun x hx => TrF.more (h4 x hx) g' (by omega), h5, h6, h7, h8⟩
theorem TrA.all {w : World} {P : Nat → Prop} {N : List Nd} : ∀ (kids : List Mb), (∀ x, x ∈ kids → TrA w P N x.1 x.2.1 x.2.2) → ∃ f, ∀ x, x ∈ kids → TrF w P N f x.1 x.2.1 x.2.2
  | [], _ => ⟨0, fun x hx => by cases hx⟩
  | y :: r, h => by
    obtain ⟨f, hf⟩ := TrA.all r (fun x hx => h x (List.mem_cons_of_mem _ hx))
    obtain ⟨g, hg⟩ := h y (List.mem_cons_self ..)
    refine ⟨max f g, fun x hx => ?_⟩
    rcases List.mem_cons.1 hx with e | e
    · subst e
      exact hg.more _ (Nat.le_max_right _ _)
    · exact (hf x e).more _ (Nat.le_max_left _ _)
theorem TrA.mk {w : World} {P : Nat → Prop} {N : List Nd} (lo n : Nat) (v : Value) (d : Nd) (kids : List Mb) (mem : Bks) (ls : List Ls) (hd : (N.getD n nd0).cut = d) (hm : Mm w P mem) (hl : ∀ L ∈ ls, Lst N L.1 L.2.1 L.2.2.1 L.2.2.2 ∧ lo ≤ L.1 ∧ L.2.1 < n) (hk : ∀ x, x ∈ kids → TrA w P N x.1 x.2.1 x.2.2) (hb : ∀ x ∈ kids, lo ≤ x.1 ∧ x.2.1 < n) (hz : ∀ x ∈ kids, (N.getD x.2.1 nd0).next = 0 ∨ ∃ L ∈ ls, x ∈ L.2.2.2) (hn : lo < n) (sh : Shp d lo n v kids mem ls) : TrA w P N lo n v := by
  obtain ⟨f, hf⟩ := TrA.all kids hk
  exact ⟨f + 1, d, kids, mem, ls, hd, hm, hl, hf, hb, hz, hn, sh⟩
theorem TrA.ind {w : World} {P : Nat → Prop} {N : List Nd} {motive : ∀ (lo n : Nat) (v : Value), TrA w P N lo n v → Prop} (mk : ∀ (lo n : Nat) (v : Value) (d : Nd) (kids : List Mb) (mem : Bks) (ls : List Ls) (hd : (N.getD n nd0).cut = d) (hm : Mm w P mem) (hl : ∀ L ∈ ls, Lst N L.1 L.2.1 L.2.2.1 L.2.2.2 ∧ lo ≤ L.1 ∧ L.2.1 < n) (hk : ∀ x, x ∈ kids → TrA w P N x.1 x.2.1 x.2.2) (hb : ∀ x ∈ kids, lo ≤ x.1 ∧ x.2.1 < n) (hz : ∀ x ∈ kids, (N.getD x.2.1 nd0).next = 0 ∨ ∃ L ∈ ls, x ∈ L.2.2.2) (hn : lo < n) (sh : Shp d lo n v kids mem ls) (ih : ∀ x (hx : x ∈ kids), motive x.1 x.2.1 x.2.2 (hk x hx)), motive lo n v (TrA.mk lo n v d kids mem ls hd hm hl hk hb hz hn sh)) {lo n : Nat} {v : Value} (h : TrA w P N lo n v) : motive lo n v h := by
  obtain ⟨f, hf⟩ := h
  have key : ∀ (f : Nat) (lo n : Nat) (v : Value) (h : TrF w P N f lo n v), motive lo n v ⟨f, h⟩ := by
    intro f
    induction f with
    | zero => intro lo n v h; exact h.elim
    | succ f ih =>
      intro lo n v h
      obtain ⟨d, kids, mem, ls, h1, h2, h3, h4, h5, h6, h7, h8⟩ := h
      exact mk lo n v d kids mem ls h1 h2 h3 (fun x hx => ⟨f, h4 x hx⟩) h5 h6 h7 h8 (fun x hx => ih _ _ _ (h4 x hx))
  exact key f lo n v hf
theorem TrA.on {w : World} {P : Nat → Prop} {N : List Nd} {motive : ∀ (lo n : Nat) (v : Value), TrA w P N lo n v → Prop} (mk : ∀ (lo n : Nat) (v : Value) (d : Nd) (kids : List Mb) (mem : Bks) (ls : List Ls) (hd : (N.getD n nd0).cut = d) (hm : Mm w P mem) (hl : ∀ L ∈ ls, Lst N L.1 L.2.1 L.2.2.1 L.2.2.2 ∧ lo ≤ L.1 ∧ L.2.1 < n) (hk : ∀ x, x ∈ kids → TrA w P N x.1 x.2.1 x.2.2) (hb : ∀ x ∈ kids, lo ≤ x.1 ∧ x.2.1 < n) (hz : ∀ x ∈ kids, (N.getD x.2.1 nd0).next = 0 ∨ ∃ L ∈ ls, x ∈ L.2.2.2) (hn : lo < n) (sh : Shp d lo n v kids mem ls), motive lo n v (TrA.mk lo n v d kids mem ls hd hm hl hk hb hz hn sh)) {lo n : Nat} {v : Value} (h : TrA w P N lo n v) : motive lo n v h :=
  TrA.ind (fun lo n v d kids mem ls hd hm hl hk hb hz hn sh _ => mk lo n v d kids mem ls hd hm hl hk hb hz hn sh) h
theorem TrA.up {w w' : World} {P P' : Nat → Prop} {N N' : List Nd} {lo n : Nat} {v : Value} (h : TrA w P N lo n v) (hw : ∀ k, P k → P' k ∧ w'.heap[k]? = w.heap[k]?) :
    (∀ i, lo < i → i < n → N'.getD i nd0 = N.getD i nd0) → (N'.getD n nd0).cut = (N.getD n nd0).cut → TrA w' P' N' lo n v := by
  induction h using TrA.ind with
  | mk lo n v d kids mem ls hd hm hl hk hb hz hn sh ih =>
    intro g1 g2
    refine .mk lo n v d kids mem ls (g2.trans hd) (fun x hx => ⟨(hw _ (hm x hx).1).1, ?_⟩) (fun L hL => ?_) (fun x hx => ?_) hb (fun x hx => ?_) hn sh
    · show w'.heap[x.1]? = _
      rw [(hw _ (hm x hx).1).2]
      exact (hm x hx).2
    · obtain ⟨a1, a2, a3⟩ := hl L hL
      exact ⟨a1.up fun i b1 b2 => g1 i (by omega) (by omega), a2, a3⟩
    · have := hb x hx
      have hx2 : x.1 < x.2.1 := by
        cases hk x hx using TrA.on with
        | mk _ _ _ _ _ _ _ _ _ _ _ _ _ hn _ => exact hn
      exact ih x hx (fun i b1 b2 => g1 i (by omega) (by omega)) (by rw [g1 _ (by omega) (by omega)])
    · have := hb x hx
      have hx2 : x.1 < x.2.1 := by
        cases hk x hx using TrA.on with
        | mk _ _ _ _ _ _ _ _ _ _ _ _ _ hn _ => exact hn
      rw [g1 _ (by omega) (by omega)]
      exact hz x hx
theorem TrA.lt {w : World} {P : Nat → Prop} {N : List Nd} {lo n : Nat} {v : Value} (h : TrA w P N lo n v) : lo < n := by
  cases h using TrA.on with
  | mk _ _ _ _ _ _ _ _ _ _ _ _ _ hn _ => exact hn
/-- it is no nil -/
theorem TrA.ptr {w : World} {P : Nat → Prop} {N : List Nd} {lo n : Nat} {v : Value} (h : TrA w P N lo n v) : ∃ t b, v = .iface t (.pointer (some ⟨b, 0, none⟩)) := by
  cases h using TrA.on with
  | mk _ _ _ _ _ _ _ _ _ _ _ _ _ hn sh => cases sh using Shp.on <;> exact ⟨_, _, rfl⟩
end Go.Proofs.Qxb6500574aGreatDoor
