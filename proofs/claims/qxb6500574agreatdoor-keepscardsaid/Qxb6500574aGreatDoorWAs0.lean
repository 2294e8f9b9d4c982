/-
  moon: THE TREE IN MEMORY: a value is node n of the arena N; its tree takes the nodes (lo, n].
-/
import Derived.Test.Qxb6500574aGreatDoorWLx15
import Derived.Test.Qxb6500574aGreatDoorWPar10
namespace Go.Proofs.Qxb6500574aGreatDoor
open Go Go.RowKit
set_option linter.unusedVariables false
set_option linter.unusedSimpArgs false
open Go.Lib
def Nd.cut (d : Nd) : Nd := { d with next := 0 }
/-- a member: where its tree begins, its node, its value -/
abbrev Mb := Nat × Nat × Value
/-- a list: (lo, hi], its first node, its members -/
abbrev Ls := Nat × Nat × Nat × List Mb
def Lst (N : List Nd) : Nat → Nat → Nat → List Mb → Prop
  | lo, hi, f, [] => hi = lo ∧ f = 0
  | lo, hi, f, x :: r => x.1 = lo ∧ lo < x.2.1 ∧ f = x.2.1 ∧ Lst N x.2.1 hi (N.getD x.2.1 nd0).next r
theorem Lst.le {N : List Nd} : ∀ {l : List Mb} {lo hi f : Nat}, Lst N lo hi f l → lo ≤ hi
  | [], _, _, _, h => by rw [h.1]; exact Nat.le_refl _
  | _ :: _, _, _, _, h => by
    have h1 := Lst.le h.2.2.2
    have h2 := h.2.1
    omega
theorem Lst.mem {N : List Nd} : ∀ {l : List Mb} {lo hi f : Nat}, Lst N lo hi f l → ∀ x ∈ l, lo ≤ x.1 ∧ x.1 < x.2.1 ∧ x.2.1 ≤ hi
  | [], _, _, _, _, x, hx => by cases hx
  | y :: r, lo, hi, f, h, x, hx => by
    have h1 := Lst.le h.2.2.2
    have h2 := h.2.1
    have h3 := h.1
    rcases List.mem_cons.1 hx with e | e
    · subst e
      omega
    · have := Lst.mem h.2.2.2 x e
      omega
theorem Lst.up {N N' : List Nd} : ∀ {l : List Mb} {lo hi f : Nat}, Lst N lo hi f l → (∀ i, lo < i → i ≤ hi → N'.getD i nd0 = N.getD i nd0) → Lst N' lo hi f l
  | [], _, _, _, h, _ => h
  | x :: r, lo, hi, f, h, g => by
    have h1 := Lst.le h.2.2.2
    have h2 := h.2.1
    refine ⟨h.1, h.2.1, h.2.2.1, ?_⟩
    rw [g x.2.1 h2 h1]
    exact Lst.up h.2.2.2 fun i a b => g i (by omega) b
/-- one more member -/
theorem Lst.snoc {N N' : List Nd} {x : Mb} : ∀ {l : List Mb} {lo hi f : Nat}, Lst N lo hi f l → x.1 = hi → hi < x.2.1 → (N'.getD x.2.1 nd0).next = 0 → (∀ i, lo < i → i < hi → N'.getD i nd0 = N.getD i nd0) → (lo < hi → (N'.getD hi nd0).next = x.2.1) → Lst N' lo x.2.1 (if l = [] then x.2.1 else f) (l ++ [x])
  | [], lo, hi, f, h, h1, h2, h3, h4, h5 => by
    obtain ⟨rfl, rfl⟩ := h
    exact ⟨h1, h2, rfl, rfl, h3⟩
  | y :: r, lo, hi, f, h, h1, h2, h3, h4, h5 => by
    have g1 := Lst.le h.2.2.2
    have g2 := h.2.1
    rw [if_neg (by simp)]
    refine ⟨h.1, h.2.1, h.2.2.1, ?_⟩
    have ih := Lst.snoc h.2.2.2 h1 h2 h3 (fun i a b => h4 i (by omega) b) (fun a => h5 (by omega))
    cases r with
    | nil =>
      obtain ⟨e1, e2⟩ := h.2.2.2
      rw [← e1, h5 (by omega)]
      rw [← e1] at ih
      simpa using ih
    | cons z q =>
      rw [if_neg (by simp)] at ih
      have e3 : y.2.1 < hi := by
        have := (h.2.2.2 : Lst N y.2.1 hi _ (z :: q))
        have a1 := this.2.1
        have a2 := Lst.le this.2.2.2
        omega
      rw [h4 _ g2 e3]
      exact ih
/-- blocks of the tree -/
abbrev Bks := List (Nat × Array Value × TypeId)
def Mm (w : World) (P : Nat → Prop) (mem : Bks) : Prop := ∀ x ∈ mem, P x.1 ∧ Has w x.1 x.2.1 x.2.2
/-- a list's slice: its block, if it has one -/
def SlM (l : List Mb) (v : Value) (m : Bks) : Prop := (l = [] ∧ v = .slice none 0 0 ∧ m = []) ∨ ∃ g c cs, v = .slice (some ⟨g, 0, none⟩) l.length c ∧ l ≠ [] ∧ l.length ≤ c ∧ (∀ (i : Nat) (x : Mb), l[i]? = some x → cs[i]? = some x.2.2) ∧ m = [(g, cs, 206)]
/-- an expression that may be left out -/
def OpM (lo hi a : Nat) (v : Value) (k : List Mb) : Prop := (a = 0 ∧ v = .nilIface ∧ k = [] ∧ hi = lo) ∨ (a = hi ∧ lo < a ∧ k = [(lo, a, v)])
/-- the node d: its value, its children, its blocks, its lists -/
inductive Shp : Nd → Nat → Nat → Value → List Mb → Bks → List Ls → Prop
  | lit {k p b lo} (hk : k = 12 ∨ k = 13 ∨ k = 14) : Shp ⟨k, 0, 0, 0, 0, 0, [], p⟩ lo (lo + 1) (.iface 390 (.pointer (some ⟨b, 0, none⟩))) [] [(b, #[.int .i64 p, .int .i64 k], 392)] []
  | num {x p b lo} (hx : x < 18446744073709551616) : Shp ⟨15, 0, 0, 0, 0, x, [], p⟩ lo (lo + 1) (.iface 393 (.pointer (some ⟨b, 0, none⟩))) [] [(b, #[.int .i64 p, .int .u64 x], 395)] []
  | str {s p b lo} : Shp ⟨16, 0, 0, 0, 0, 0, s, p⟩ lo (lo + 1) (.iface 382 (.pointer (some ⟨b, 0, none⟩))) [] [(b, #[.int .i64 p, sv s], 383)] []
  | name {s p b lo} : Shp ⟨17, 0, 0, 0, 0, 0, s, p⟩ lo (lo + 1) (.iface 296 (.pointer (some ⟨b, 0, none⟩))) [] [(b, #[.int .i64 p, sv s], 357)] []
  | index {x y p b lo a c} : Shp ⟨18, a, c, 0, 0, 0, [], p⟩ lo (c + 1) (.iface 297 (.pointer (some ⟨b, 0, none⟩))) [(lo, a, x), (a, c, y)] [(b, #[.int .i64 p, x, y], 385)] []
  | call {x y p b lo a f hi ms m} (hs : SlM ms y m) : Shp ⟨19, a, f, 0, 0, 0, [], p⟩ lo (hi + 1) (.iface 291 (.pointer (some ⟨b, 0, none⟩))) ((lo, a, x) :: ms) ((b, #[.int .i64 p, x, y], 388) :: m) [(a, hi, f, ms)]
  | func {x y p b lo f g h1 hi num ms ns m m'} (hs : SlM ms x m) (hb : SlM ns y m') (hn : num ≤ 12) : Shp ⟨20, f, g, 0, 0, num, [], p⟩ lo (hi + 1) (.iface 354 (.pointer (some ⟨b, 0, none⟩))) (ms ++ ns) ((b, #[.int .i64 p, .int .i64 num, x, y], 397) :: (m ++ m')) [(lo, h1, f, ms), (h1, hi, g, ns)]
  | table {y p b lo f hi ms m} (hs : SlM ms y m) : Shp ⟨21, f, 0, 0, 0, 0, [], p⟩ lo (hi + 1) (.iface 398 (.pointer (some ⟨b, 0, none⟩))) ms ((b, #[.int .i64 p, y], 400) :: m) [(lo, hi, f, ms)]
  | binary {k op x y p b lo a c} (hk : k = 22 ∨ k = 24 ∨ k = 25) (ho : op ≤ 20) : Shp ⟨k, a, c, 0, 0, op, [], p⟩ lo (c + 1) (.iface 377 (.pointer (some ⟨b, 0, none⟩))) [(lo, a, x), (a, c, y)] [(b, #[.int .i64 p, .int .i64 k, .int .u64 op, x, y], 379)] []
  | unary {op x p b lo a} (ho : op ≤ 20) : Shp ⟨23, a, 0, 0, 0, op, [], p⟩ lo (a + 1) (.iface 401 (.pointer (some ⟨b, 0, none⟩))) [(lo, a, x)] [(b, #[.int .i64 p, .int .u64 op, x], 403)] []
  | local1 {s x y p b c lo a hi ks m} (hs : SlM [(lo, lo + 1, .iface 296 (.pointer (some ⟨c, 0, none⟩)))] y m) (ho : OpM lo hi a x ks) : Shp ⟨1, a, 0, 0, 0, 0, s, p⟩ lo (hi + 1) (.iface 362 (.pointer (some ⟨b, 0, none⟩))) ks ((b, #[y, x], 364) :: (c, #[.int .i64 p, sv s], 357) :: m) []
  | local2 {s x y z p b c lo a m} (hs : SlM [(lo, lo + 1, .iface 296 (.pointer (some ⟨c, 0, none⟩))), (lo + 1, lo + 2, z)] y m) : Shp ⟨2, lo + 1, a, 0, 0, 0, [], p⟩ lo (a + 1) (.iface 362 (.pointer (some ⟨b, 0, none⟩))) [(lo, lo + 1, .iface 296 (.pointer (some ⟨c, 0, none⟩))), (lo + 1, lo + 2, z), (lo + 2, a, x)] ((b, #[y, x], 364) :: (c, #[.int .i64 p, sv s], 357) :: m) [(lo, lo + 2, lo + 1, [(lo, lo + 1, .iface 296 (.pointer (some ⟨c, 0, none⟩))), (lo + 1, lo + 2, z)])]
  | localfn {s p b c d lo a} : Shp ⟨3, a, 0, 0, 0, 0, s, p⟩ lo (a + 1) (.iface 358 (.pointer (some ⟨b, 0, none⟩))) [(lo, a, .iface 354 (.pointer (some ⟨d, 0, none⟩)))] [(b, #[.pointer (some ⟨c, 0, none⟩), .pointer (some ⟨d, 0, none⟩)], 360), (c, #[.int .i64 p, sv s], 357)] []
  | assign {x y p b lo a c} : Shp ⟨4, a, c, 0, 0, 0, [], p⟩ lo (c + 1) (.iface 298 (.pointer (some ⟨b, 0, none⟩))) [(lo, a, x), (a, c, y)] [(b, #[.int .i64 p, x, y], 300)] []
  | callst {p b d cs lo a} (hp : cs[0]? = some (.int .i64 (p : Nat))) : Shp ⟨5, a, 0, 0, 0, 0, [], p⟩ lo (a + 1) (.iface 293 (.pointer (some ⟨b, 0, none⟩))) [(lo, a, .iface 291 (.pointer (some ⟨d, 0, none⟩)))] [(b, #[.pointer (some ⟨d, 0, none⟩)], 295), (d, cs, 388)] []
  | ifs {x y z p b lo a f g h1 hi ms ns m m'} (hs : SlM ms y m) (hb : SlM ns z m') : Shp ⟨6, a, f, g, 0, 0, [], p⟩ lo (hi + 1) (.iface 365 (.pointer (some ⟨b, 0, none⟩))) ((lo, a, x) :: (ms ++ ns)) ((b, #[.int .i64 p, x, y, z], 367) :: (m ++ m')) [(a, h1, f, ms), (h1, hi, g, ns)]
  | whiles {x y p b lo a f hi ms m} (hs : SlM ms y m) : Shp ⟨7, a, f, 0, 0, 0, [], p⟩ lo (hi + 1) (.iface 284 (.pointer (some ⟨b, 0, none⟩))) ((lo, a, x) :: ms) ((b, #[.int .i64 p, x, y], 286) :: m) [(a, hi, f, ms)]
  | fors {s x y p b c lo f g h1 hi ms ns m m'} (hs : SlM ms x m) (hb : SlM ns y m') : Shp ⟨8, f, g, 0, 0, 0, s, p⟩ lo (hi + 1) (.iface 371 (.pointer (some ⟨b, 0, none⟩))) (ms ++ ns) ((b, #[.pointer (some ⟨c, 0, none⟩), x, y], 373) :: (c, #[.int .i64 p, sv s], 357) :: (m ++ m')) [(lo, h1, f, ms), (h1, hi, g, ns)]
  | forin {s x y u z p b c lo a g hi ns m m'} (hs : SlM [(lo, lo + 1, .iface 296 (.pointer (some ⟨c, 0, none⟩))), (lo + 1, lo + 2, z)] y m) (hb : SlM ns u m') : Shp ⟨9, lo + 1, a, g, 0, 0, [], p⟩ lo (hi + 1) (.iface 368 (.pointer (some ⟨b, 0, none⟩))) ([(lo, lo + 1, .iface 296 (.pointer (some ⟨c, 0, none⟩))), (lo + 1, lo + 2, z), (lo + 2, a, x)] ++ ns) ((b, #[y, x, u], 370) :: (c, #[.int .i64 p, sv s], 357) :: (m ++ m')) [(lo, lo + 2, lo + 1, [(lo, lo + 1, .iface 296 (.pointer (some ⟨c, 0, none⟩))), (lo + 1, lo + 2, z)]), (a, hi, g, ns)]
  | ret {x y p b lo a c h1 hi ks ks'} (hs : OpM lo h1 a x ks) (hb : OpM h1 hi c y ks') : Shp ⟨10, a, c, 0, 0, 0, [], p⟩ lo (hi + 1) (.iface 203 (.pointer (some ⟨b, 0, none⟩))) (ks ++ ks') [(b, #[.int .i64 p, x, y], 381)] []
  | brk {p b lo} : Shp ⟨11, 0, 0, 0, 0, 0, [], p⟩ lo (lo + 1) (.iface 204 (.pointer (some ⟨b, 0, none⟩))) [] [(b, #[.int .i64 p], 288)] []
/-- the value v is node n of the arena N -/
inductive TrA (w : World) (P : Nat → Prop) (N : List Nd) : Nat → Nat → Value → Prop
  | mk (lo n : Nat) (v : Value) (d : Nd) (kids : List Mb) (mem : Bks) (ls : List Ls) (hd : (N.getD n nd0).cut = d) (hm : Mm w P mem) (hl : ∀ L ∈ ls, Lst N L.1 L.2.1 L.2.2.1 L.2.2.2 ∧ lo ≤ L.1 ∧ L.2.1 < n) (hk : ∀ x, x ∈ kids → TrA w P N x.1 x.2.1 x.2.2) (hb : ∀ x ∈ kids, lo ≤ x.1 ∧ x.2.1 < n) (hz : ∀ x ∈ kids, (N.getD x.2.1 nd0).next = 0 ∨ ∃ L ∈ ls, x ∈ L.2.2.2) (hn : lo < n) (sh : Shp d lo n v kids mem ls) : TrA w P N lo n v
theorem TrA.up {w w' : World} {P P' : Nat → Prop} {N N' : List Nd} {lo n : Nat} {v : Value} (h : TrA w P N lo n v) (hw : ∀ k, P k → P' k ∧ w'.heap[k]? = w.heap[k]?) :
    (∀ i, lo < i → i < n → N'.getD i nd0 = N.getD i nd0) → (N'.getD n nd0).cut = (N.getD n nd0).cut → TrA w' P' N' lo n v := by
  induction h with
  | mk lo n v d kids mem ls hd hm hl hk hb hz hn sh ih =>
    intro g1 g2
    refine .mk lo n v d kids mem ls (g2.trans hd) (fun x hx => ⟨(hw _ (hm x hx).1).1, ?_⟩) (fun L hL => ?_) (fun x hx => ?_) hb (fun x hx => ?_) hn sh
    · show w'.heap[x.1]? = _
      rw [(hw _ (hm x hx).1).2]
      exact (hm x hx).2
    · obtain ⟨a1, a2, a3⟩ := hl L hL
      exact ⟨a1.up fun i b1 b2 => g1 i (by omega) (by omega), a2, a3⟩
    · have := hb x hx
      have hx2 : x.1 < x.2.1 := by
        cases hk x hx with
        | mk _ _ _ _ _ _ _ _ _ _ _ _ _ hn _ => exact hn
      exact ih x hx (fun i b1 b2 => g1 i (by omega) (by omega)) (by rw [g1 _ (by omega) (by omega)])
    · have := hb x hx
      have hx2 : x.1 < x.2.1 := by
        cases hk x hx with
        | mk _ _ _ _ _ _ _ _ _ _ _ _ _ hn _ => exact hn
      rw [g1 _ (by omega) (by omega)]
      exact hz x hx
theorem TrA.lt {w : World} {P : Nat → Prop} {N : List Nd} {lo n : Nat} {v : Value} (h : TrA w P N lo n v) : lo < n := by
  cases h with
  | mk _ _ _ _ _ _ _ _ _ _ _ _ _ hn _ => exact hn
/-- it is no nil -/
theorem TrA.ptr {w : World} {P : Nat → Prop} {N : List Nd} {lo n : Nat} {v : Value} (h : TrA w P N lo n v) : ∃ t b, v = .iface t (.pointer (some ⟨b, 0, none⟩)) := by
  cases h with
  | mk _ _ _ _ _ _ _ _ _ _ _ _ _ hn sh => cases sh <;> exact ⟨_, _, rfl⟩
end Go.Proofs.Qxb6500574aGreatDoor
