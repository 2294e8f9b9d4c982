/-
  THE WALK of comp: lay: its frame (written by tools/gen_ly.py).
-/
import Derived.Test.Qxb6500574aGreatDoorWLy0
import Derived.Test.Qxb6500574aGreatDoorVLoop0
namespace Go.Proofs.Qxb6500574aGreatDoor
open Go Go.RowKit
set_option linter.unusedVariables false
set_option linter.unusedSimpArgs false
open Go.Lib
structure Fr41 (cb gF x np : Nat) (a : Act) : Prop where
  size : a.tmps.size = 161
  t0 : a.tmps[0]? = some (.pointer (some ⟨cb, 0, none⟩))
  t4 : a.tmps[4]? = some (.pointer (some ⟨gF, x * 11, none⟩))
  t31 : a.tmps[31]? = some (.int .i64 np)
  t32 : a.tmps[32]? = some (.int .i64 x)
  df : a.defers = []
set_option maxRecDepth 100000 in
theorem List.range161 {α : Type} (u : Nat → α) : (List.range 161).map u = u 0 :: u 1 :: u 2 :: u 3 :: u 4 :: u 5 :: u 6 :: u 7 :: u 8 :: u 9 :: u 10 :: u 11 :: u 12 :: u 13 :: u 14 :: u 15 :: u 16 :: u 17 :: u 18 :: u 19 :: u 20 :: u 21 :: u 22 :: u 23 :: u 24 :: u 25 :: u 26 :: u 27 :: u 28 :: u 29 :: u 30 :: u 31 :: u 32 :: u 33 :: u 34 :: u 35 :: u 36 :: u 37 :: u 38 :: u 39 :: u 40 :: u 41 :: u 42 :: u 43 :: u 44 :: u 45 :: u 46 :: u 47 :: u 48 :: u 49 :: u 50 :: u 51 :: u 52 :: u 53 :: u 54 :: u 55 :: u 56 :: u 57 :: u 58 :: u 59 :: u 60 :: u 61 :: u 62 :: u 63 :: u 64 :: u 65 :: u 66 :: u 67 :: u 68 :: u 69 :: u 70 :: u 71 :: u 72 :: u 73 :: u 74 :: u 75 :: u 76 :: u 77 :: u 78 :: u 79 :: u 80 :: u 81 :: u 82 :: u 83 :: u 84 :: u 85 :: u 86 :: u 87 :: u 88 :: u 89 :: u 90 :: u 91 :: u 92 :: u 93 :: u 94 :: u 95 :: u 96 :: u 97 :: u 98 :: u 99 :: u 100 :: u 101 :: u 102 :: u 103 :: u 104 :: u 105 :: u 106 :: u 107 :: u 108 :: u 109 :: u 110 :: u 111 :: u 112 :: u 113 :: u 114 :: u 115 :: u 116 :: u 117 :: u 118 :: u 119 :: u 120 :: u 121 :: u 122 :: u 123 :: u 124 :: u 125 :: u 126 :: u 127 :: u 128 :: u 129 :: u 130 :: u 131 :: u 132 :: u 133 :: u 134 :: u 135 :: u 136 :: u 137 :: u 138 :: u 139 :: u 140 :: u 141 :: u 142 :: u 143 :: u 144 :: u 145 :: u 146 :: u 147 :: u 148 :: u 149 :: u 150 :: u 151 :: u 152 :: u 153 :: u 154 :: u 155 :: u 156 :: u 157 :: u 158 :: u 159 :: u 160 :: [] := rfl
set_option maxRecDepth 100000 in
theorem Fr41.form {cb gF x np : Nat} {a : Act} (H : Fr41 cb gF x np a) : ∃ u : Nat → Value, a = { tmps := List.toArray (.pointer (some ⟨cb, 0, none⟩) :: u 1 :: u 2 :: u 3 :: .pointer (some ⟨gF, x * 11, none⟩) :: u 5 :: u 6 :: u 7 :: u 8 :: u 9 :: u 10 :: u 11 :: u 12 :: u 13 :: u 14 :: u 15 :: u 16 :: u 17 :: u 18 :: u 19 :: u 20 :: u 21 :: u 22 :: u 23 :: u 24 :: u 25 :: u 26 :: u 27 :: u 28 :: u 29 :: u 30 :: .int .i64 np :: .int .i64 x :: u 33 :: u 34 :: u 35 :: u 36 :: u 37 :: u 38 :: u 39 :: u 40 :: u 41 :: u 42 :: u 43 :: u 44 :: u 45 :: u 46 :: u 47 :: u 48 :: u 49 :: u 50 :: u 51 :: u 52 :: u 53 :: u 54 :: u 55 :: u 56 :: u 57 :: u 58 :: u 59 :: u 60 :: u 61 :: u 62 :: u 63 :: u 64 :: u 65 :: u 66 :: u 67 :: u 68 :: u 69 :: u 70 :: u 71 :: u 72 :: u 73 :: u 74 :: u 75 :: u 76 :: u 77 :: u 78 :: u 79 :: u 80 :: u 81 :: u 82 :: u 83 :: u 84 :: u 85 :: u 86 :: u 87 :: u 88 :: u 89 :: u 90 :: u 91 :: u 92 :: u 93 :: u 94 :: u 95 :: u 96 :: u 97 :: u 98 :: u 99 :: u 100 :: u 101 :: u 102 :: u 103 :: u 104 :: u 105 :: u 106 :: u 107 :: u 108 :: u 109 :: u 110 :: u 111 :: u 112 :: u 113 :: u 114 :: u 115 :: u 116 :: u 117 :: u 118 :: u 119 :: u 120 :: u 121 :: u 122 :: u 123 :: u 124 :: u 125 :: u 126 :: u 127 :: u 128 :: u 129 :: u 130 :: u 131 :: u 132 :: u 133 :: u 134 :: u 135 :: u 136 :: u 137 :: u 138 :: u 139 :: u 140 :: u 141 :: u 142 :: u 143 :: u 144 :: u 145 :: u 146 :: u 147 :: u 148 :: u 149 :: u 150 :: u 151 :: u 152 :: u 153 :: u 154 :: u 155 :: u 156 :: u 157 :: u 158 :: u 159 :: u 160 :: []), defers := [] } := by
  obtain ⟨tmps, defers⟩ := a
  obtain ⟨h1, h2, h3, h4, h6, h5⟩ := H
  simp only at h1 h2 h3 h4 h5 h6
  subst h5
  refine ⟨fun i => tmps.getD i undef, ?_⟩
  congr 1
  apply Array.ext'
  have e : tmps.toList = (List.range 161).map (fun i => tmps.getD i undef) := by
    apply List.ext_getElem
    · simpa using h1
    · intro i a1 a2
      simp at a1
      simp [Array.getD, a1]
  rw [e]
  have g0 : tmps.getD 0 undef = .pointer (some ⟨cb, 0, none⟩) := by simp [Array.getD_eq_getD_getElem?, h2]
  have g4 : tmps.getD 4 undef = .pointer (some ⟨gF, x * 11, none⟩) := by simp [Array.getD_eq_getD_getElem?, h3]
  have g31 : tmps.getD 31 undef = .int .i64 np := by simp [Array.getD_eq_getD_getElem?, h4]
  have g32 : tmps.getD 32 undef = .int .i64 x := by simp [Array.getD_eq_getD_getElem?, h6]
  rw [← g0, ← g4, ← g31, ← g32]
  exact List.range161 (fun i => tmps.getD i undef)
/-- a round's body: what is laid of one state -/
def lyY (c : Option Code) : Code := codeIn (codeL (codeR (codeR (codeIn (codeIn (codeR (codeL (codeR (codeR (codeR (c.getD .skip))))))))))) 
def lyU (c : Option Code) : Code := codeL (codeR (codeR (codeR (lyY c))))
def lyK (c : Option Code) : Code := codeL (codeR (codeR (codeR (codeR (codeR (lyY c))))))
def lyD (c : Option Code) : Code := codeR (codeR (codeR (codeR (codeR (codeR (codeR (lyY c)))))))
section
variable {w w1 : World} {o o1 : Nat → Nat} {C : CC} {N : List Nd} {c : CmD} {x : Nat} {xs : List (FnD × FnL)} {L : FnL}
theorem FnAt.stP (F : FnAt w o C c x xs L) (t : Stp QP w o w1 o1) : FnAt w1 o1 C c x xs L :=
  ⟨F.rep.st t (by unfold QP; omega) (by unfold QP; omega) (fun x j => by unfold QP labF; omega), F.len, F.all, F.at_, F.ok⟩
/-- so many bytes are laid behind those that stood there -/
def LyI (w : World) (o : Nat → Nat) (C : CC) (N : List Nd) (c : CmD) (l : Bs) (w1 : World) : Prop := ∃ o1 s, CRep w1 o1 { C with bf := s, bl := C.bl ++ l } N c ∧ Stp QP w o w1 o1
theorem LyI.put {l : Bs} (h : LyI w o C N c l w1) (l2 : Bs) {kb m cap : Nat} {b : Obj} {T' : TypeId} (hk : kb = w1.heap.size) (hb : Has (w1.alloc b) w1.heap.size (l2.flatMap bCells).toArray T') (hm : l2.length = m) (hp : 0 < m) (hl : C.bl.length + l.length + m ≤ 1000000) :
    Calls Tryz.prog 66 #[.pointer (some ⟨C.cb, 0, none⟩), .slice (some ⟨kb, 0, none⟩) m cap] (w1.alloc b) fun e w' => e = .returned (.tuple #[]) ∧ LyI w o C N c (l ++ l2) w' := by
  subst hk
  obtain ⟨o1, s, R, S⟩ := h
  refine (put_any (R.alloc b) l2 hb hm hp (by simp only [List.length_append]; omega)).mono ?_
  rintro e w2 ⟨rfl, o2, s2, R2, S2⟩
  refine ⟨rfl, o2, s2, ?_, S.trans (((Stp.refl _ _ _).alloc _).trans S2)⟩
  simp only [List.append_assoc] at R2
  exact R2
end
end Go.Proofs.Qxb6500574aGreatDoor
