/-
  THE WALKS of syntaxm: what every function of the parser does: the law, by steps.
-/
import Derived.Test.Qxb6500574aGreatDoorZQ5
import Derived.Test.Qxb6500574aGreatDoorZK3
import Derived.Deep.LoopGhost
namespace Go.Proofs.Qxb6500574aGreatDoor
open Go Go.RowKit
set_option linter.unusedVariables false
set_option linter.unusedSimpArgs false
/-- the parser's functions, so many steps -/
structure PCz (T : List Tok) (n : Nat) : Prop where
  e : ∀ {w W : World} {A : PzP} {s : PSt} {room : Nat} {lv : Int}, PzK w A T s W → PzN s 0 → (lv + room = 13 ∧ 1 ≤ lv) → parM T n 0 room [1] s ≠ x99 → Calls Tryz.prog 249 #[.pointer (some ⟨A.b, 0, none⟩), .int .i64 lv] W (PzR T w A (parM T n 0 room [1] s))
  a : ∀ {w W : World} {A : PzP} {s : PSt} {room : Nat} {lv : Int}, PzK w A T s W → PzN s 0 → (lv + room = 13 ∧ 1 ≤ lv) → 1 ≤ room → parM T n 0 room [2] s ≠ x99 → Calls Tryz.prog 281 #[.pointer (some ⟨A.b, 0, none⟩), .int .i64 lv] W (PzR T w A (parM T n 0 room [2] s))
  l : ∀ {w W : World} {A : PzP} {s : PSt} {room : Nat} {lv : Int} (r : Nat) {r' : Int}, PzK w A T s W → PzN s 0 → (lv + room = 13 ∧ 1 ≤ lv) → 1 ≤ r → r ≤ 5 → r' = r → (r = 2 ∨ 1 ≤ room) → parM T n 0 room [r + 2] s ≠ x99 → Calls Tryz.prog 304 #[.pointer (some ⟨A.b, 0, none⟩), .int .i64 lv, .int .i64 r'] W (PzR T w A (parM T n 0 room [r + 2] s))
  u : ∀ {w W : World} {A : PzP} {s : PSt} {room : Nat} {lv : Int}, PzK w A T s W → PzN s 0 → (lv + room = 13 ∧ 1 ≤ lv) → parM T n 2 room [] s ≠ x99 → Calls Tryz.prog 314 #[.pointer (some ⟨A.b, 0, none⟩), .int .i64 lv] W (PzR T w A (parM T n 2 room [] s))
  p : ∀ {w W : World} {A : PzP} {s : PSt} {room : Nat} {lv : Int}, PzK w A T s W → PzN s 0 → (lv + room = 13 ∧ 1 ≤ lv) → parM T n 3 room [] s ≠ x99 → Calls Tryz.prog 252 #[.pointer (some ⟨A.b, 0, none⟩), .int .i64 lv] W (PzR T w A (parM T n 3 room [] s))
  pr : ∀ {w W : World} {A : PzP} {s : PSt} {room : Nat} {lv : Int}, PzK w A T s W → PzN s 0 → (lv + room = 13 ∧ 1 ≤ lv) → 1 ≤ room → parM T n 5 room [] s ≠ x99 → Calls Tryz.prog 282 #[.pointer (some ⟨A.b, 0, none⟩), .int .i64 lv] W (PzR T w A (parM T n 5 room [] s))
  li : ∀ {w W : World} {A : PzP} {s : PSt} {room : Nat} {lv : Int} {x0 x1 : Nat} {cl : Bs} {mx : Int}, PzK w A T s W → PzN s 0 → (lv + room = 13 ∧ 1 ≤ lv) → 5 ≤ x0 → x0 ≤ 46 → cl = symS x0 → ((x1 = 0 ∧ mx = 1073741824) ∨ (x1 = 4 ∧ mx = 3)) → parM T n 6 room [x0, x1, 0, 0, 0] s ≠ x99 → Calls Tryz.prog 283 #[.pointer (some ⟨A.b, 0, none⟩), .int .i64 lv, sv cl, .int .i64 mx] W (PzR T w A (parM T n 6 room [x0, x1, 0, 0, 0] s))
  fn : ∀ {w W : World} {A : PzP} {s : PSt} {room pl : Nat} {lv pl' : Int}, PzK w A T s W → PzN s 0 → (lv + room = 13 ∧ 1 ≤ lv) → 1 ≤ room → (curT T s).k = 39 → pl' = pl → parM T n 7 room [pl] s ≠ x99 → Calls Tryz.prog 279 #[.pointer (some ⟨A.b, 0, none⟩), .int .i64 lv, .int .i64 pl'] W (PzR T w A (parM T n 7 room [pl] s))
  b : ∀ {w W : World} {A : PzP} {s : PSt} {room : Nat} {lv : Int}, PzK w A T s W → PzN s 0 → (lv + room = 13 ∧ 1 ≤ lv) → parM T n 9 room [] s ≠ x99 → Calls Tryz.prog 106 #[.pointer (some ⟨A.b, 0, none⟩), .int .i64 lv] W (PzR T w A (parM T n 9 room [] s))
  st : ∀ {w W : World} {A : PzP} {s : PSt} {room : Nat} {lv : Int}, PzK w A T s W → PzN s 0 → (lv + room = 13 ∧ 1 ≤ lv) → 1 ≤ room → parM T n 11 room [] s ≠ x99 → Calls Tryz.prog 186 #[.pointer (some ⟨A.b, 0, none⟩), .int .i64 lv] W (PzR T w A (parM T n 11 room [] s))
  lo : ∀ {w W : World} {A : PzP} {s : PSt} {room : Nat} {lv : Int}, PzK w A T s W → PzN s 0 → (lv + room = 13 ∧ 1 ≤ lv) → 1 ≤ room → (curT T s).k = 15 → parM T n 12 room [] s.nxt ≠ x99 → Calls Tryz.prog 246 #[.pointer (some ⟨A.b, 0, none⟩), .int .i64 lv] W (PzR T w A (parM T n 12 room [] s.nxt))
  i : ∀ {w W : World} {A : PzP} {s : PSt} {room : Nat} {lv : Int}, PzK w A T s W → PzN s 0 → (lv + room = 13 ∧ 1 ≤ lv) → 1 ≤ room → 2 ≤ (curT T s).k → parM T n 13 room [] s ≠ x99 → Calls Tryz.prog 247 #[.pointer (some ⟨A.b, 0, none⟩), .int .i64 lv] W (PzR T w A (parM T n 13 room [] s))
  f : ∀ {w W : World} {A : PzP} {s : PSt} {room : Nat} {lv : Int}, PzK w A T s W → PzN s 0 → (lv + room = 13 ∧ 1 ≤ lv) → 1 ≤ room → (curT T s).k = 11 → parM T n 14 room [] s.nxt ≠ x99 → Calls Tryz.prog 248 #[.pointer (some ⟨A.b, 0, none⟩), .int .i64 lv] W (PzR T w A (parM T n 14 room [] s.nxt))
  bo : ∀ {w W : World} {A : PzP} {s : PSt} {room x : Nat} {lv x' : Int}, PzK w A T s W → PzN s 0 → (lv + room = 13 ∧ 1 ≤ lv) → 1 ≤ room → x ≤ 4 → x' = x → parM T n 15 room [x] s ≠ x99 → Calls Tryz.prog 250 #[.pointer (some ⟨A.b, 0, none⟩), .int .i64 lv, .int .i64 x'] W (PzR T w A (parM T n 15 room [x] s))
theorem PCz.zero (T : List Tok) : PCz T 0 := by
  constructor <;> intros <;> exact absurd rfl ‹parM T 0 _ _ _ _ ≠ x99›
theorem PBd99 {R : PR} {f : List Nat → PSt → PR} (h : PBd R f ≠ x99) : R ≠ x99 := fun e => h (by rw [e]; rfl)
end Go.Proofs.Qxb6500574aGreatDoor
