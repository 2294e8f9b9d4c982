/-
  THE WALK of the parser layer: the whole parser's state between two calls.
-/
import Derived.Test.Qxb6500574aGreatDoorWCp
import Derived.Test.Qxb6500574aGreatDoorWPa21
import Derived.Test.Qxb6500574aGreatDoorWTk
import Derived.Test.Qxb6500574aGreatDoorURg
namespace Go.Proofs.Qxb6500574aGreatDoor
open Go Go.RowKit
set_option linter.unusedVariables false
set_option linter.unusedSimpArgs false
open Go.Lib
/-- labels of the parser's own blocks -/
def QS (l : Nat) : Prop := l = 1040 ∨ l = 1041 ∨ l = 1042 ∨ l = 1043 ∨ l = 1045 ∨ l = 1046
/-- the parser in memory: T its tokens, A its arena -/
structure SyRep (w : World) (o : Nat → Nat) (sx : Nat) (num : Value) (T : List Tok) (A : List Nd) : Prop where
  ex : ∃ sl sn : Sl, Blk w o 1040 sx #[num, sl.v T.length, sn.v A.length] 81 ∧ Row w o 1041 132 5 sl T.length (T.flatMap tokC) ∧ Row w o 1042 134 8 sn A.length (A.flatMap ndV)
  k : TabL w o 1 keywordL
  g : TabL w o 2 signL
  b : TabB w o
  ow : Ow w o
/-- what Check asks -/
structure SyOk (T : List Tok) (A : List Nd) : Prop where
  t : T = [] ∨ TkA T 2048 0
  a : A = [] ∨ (NK A ∧ A.getD 0 nd0 = nd0)
  la : A.length ≤ 2049
theorem scan_tg {s : Bs} (h : s.length ≤ 2048) : TG (scanP s) := by
  have A := scan_tka s
  refine ⟨scan_tok s, fun i hi h0 h1 => ?_, by have := A.len; omega, A.e14⟩
  have := (A.all i hi).1
  apply Decidable.byContradiction
  intro hc
  have := this.2 (by omega)
  omega
theorem TkA.wide {T : List Tok} {L L' lo : Nat} (h : TkA T L lo) (hl : L ≤ L') : TkA T L' lo := ⟨h.n1, fun i hi => by
  obtain ⟨a1, a2, a3, a4, a5⟩ := h.all i hi
  exact ⟨a1, a2, a3, Nat.le_trans a4 hl, a5⟩⟩
theorem Stp.imp {Q Q' : Nat → Prop} {w w' : World} {o o' : Nat → Nat} (h : Stp Q w o w' o') (g : ∀ l, Q l → Q' l) : Stp Q' w o w' o' := ⟨h.fr.weaken (fun _ _ x => g _ x), h.ext, h.hi⟩
/-- a new block that gets a label -/
theorem Stp.label {w : World} {o : Nat → Nat} (Q : Nat → Prop) (b : Obj) (lab : Nat) : Stp Q w o (w.alloc b) (upd o w.heap.size lab) :=
  ⟨((Fr.refl _ _).alloc b), fun k hk => upd_ne o lab (by omega), fun h k hk => by
    have e : (w.alloc b).heap.size = w.heap.size + 1 := by simp
    rw [e] at hk
    rw [upd_ne o lab (by omega)]
    exact h k (by omega)⟩
/-- the whole arena -/
theorem ful_all {N : List Nd} (h1 : 1 ≤ N.length) (h0 : N.getD 0 nd0 = nd0) : [nd0] ++ fulN N 0 (N.length - 1) = N := by
  cases N with
  | nil => simp at h1
  | cons d r =>
    have hd : d = nd0 := h0
    subst hd
    show nd0 :: fulN (nd0 :: r) 0 (r.length + 1 - 1) = nd0 :: r
    congr 1
    unfold fulN
    apply List.ext_getElem?
    intro j
    rw [List.getElem?_map]
    by_cases hj : j < r.length
    · rw [List.getElem?_range' (by omega)]
      simp only [Option.map_some]
      rw [show 0 + 1 + 1 * j = j + 1 by omega, List.getElem?_eq_getElem hj, List.getD_eq_getElem?_getD, List.getElem?_cons_succ, List.getElem?_eq_getElem hj]
      rfl
    · rw [List.getElem?_eq_none (by simp; omega), List.getElem?_eq_none (by omega)]
      rfl
end Go.Proofs.Qxb6500574aGreatDoor
