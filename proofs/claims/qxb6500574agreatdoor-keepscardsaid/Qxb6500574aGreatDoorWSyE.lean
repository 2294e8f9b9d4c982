/-
  moon: THE SAYINGS 32, 33, 36 (written by tools/gen_say.py). Plain; no memory, no walk.
-/
import Derived.Test.Qxb6500574aGreatDoorWSy3
namespace Go.Proofs.Qxb6500574aGreatDoor
set_option linter.unusedVariables false
set_option linter.unusedSimpArgs false
section
set_option maxRecDepth 100000
theorem s32_p0 : ∀ f p R, scanN (f + ([108, 111, 99, 97, 108, 32, 116, 32, 61, 32, 123, 125, 32, 116, 91] : Bs).length) p ([108, 111, 99, 97, 108, 32, 116, 32, 61, 32, 123, 125, 32, 116, 91] ++ R) = [⟨15, p + 0, [108, 111, 99, 97, 108], 0, 0⟩, ⟨2, p + 6, [116], 0, 0⟩, ⟨38, p + 8, [], 0, 0⟩, ⟨41, p + 10, [], 0, 0⟩, ⟨42, p + 11, [], 0, 0⟩, ⟨2, p + 13, [116], 0, 0⟩, ⟨43, p + 14, [], 0, 0⟩] ++ scanN (f + 4) (p + ([108, 111, 99, 97, 108, 32, 116, 32, 61, 32, 123, 125, 32, 116, 91] : Bs).length) R := by
  intro f p R
  kernel_rfl
theorem s32_p1 : ∀ f p R, scanN (f + ([93, 32, 61, 32] : Bs).length) p ([93, 32, 61, 32] ++ R) = [⟨44, p + 0, [], 0, 0⟩, ⟨38, p + 2, [], 0, 0⟩] ++ scanN (f + 0) (p + ([93, 32, 61, 32] : Bs).length) R := by
  intro f p R
  kernel_rfl
theorem s32_p2 : ∀ f p R, scanN (f + ([32, 116, 46, 120, 32, 61, 32] : Bs).length) p ([32, 116, 46, 120, 32, 61, 32] ++ R) = [⟨2, p + 1, [116], 0, 0⟩, ⟨46, p + 2, [], 0, 0⟩, ⟨2, p + 3, [120], 0, 0⟩, ⟨38, p + 5, [], 0, 0⟩] ++ scanN (f + 0) (p + ([32, 116, 46, 120, 32, 61, 32] : Bs).length) R := by
  intro f p R
  kernel_rfl
theorem s32_p3 : ∀ f p R, scanN (f + ([32, 112, 114, 105, 110, 116, 40, 116, 91] : Bs).length) p ([32, 112, 114, 105, 110, 116, 40, 116, 91] ++ R) = [⟨2, p + 1, [112, 114, 105, 110, 116], 0, 0⟩, ⟨39, p + 6, [], 0, 0⟩, ⟨2, p + 7, [116], 0, 0⟩, ⟨43, p + 8, [], 0, 0⟩] ++ scanN (f + 4) (p + ([32, 112, 114, 105, 110, 116, 40, 116, 91] : Bs).length) R := by
  intro f p R
  kernel_rfl
theorem s32_e : ∀ p, scA p [93, 41, 32, 112, 114, 105, 110, 116, 40, 116, 46, 120, 41] = [⟨44, p + 0, [], 0, 0⟩, ⟨40, p + 1, [], 0, 0⟩, ⟨2, p + 3, [112, 114, 105, 110, 116], 0, 0⟩, ⟨39, p + 8, [], 0, 0⟩, ⟨2, p + 9, [116], 0, 0⟩, ⟨46, p + 10, [], 0, 0⟩, ⟨2, p + 11, [120], 0, 0⟩, ⟨40, p + 12, [], 0, 0⟩, ⟨0, p + 13, [], 0, 0⟩] := by
  intro p
  kernel_rfl
def s32_T (x L : Nat) : List Tok := [⟨15, 0 + 0, [108, 111, 99, 97, 108], 0, 0⟩, ⟨2, 0 + 6, [116], 0, 0⟩, ⟨38, 0 + 8, [], 0, 0⟩, ⟨41, 0 + 10, [], 0, 0⟩, ⟨42, 0 + 11, [], 0, 0⟩, ⟨2, 0 + 13, [116], 0, 0⟩, ⟨43, 0 + 14, [], 0, 0⟩] ++ ([⟨3, 0 + 15, [], 4607182418800017408, 0⟩] ++ ([⟨44, 0 + 15 + 1 + 0, [], 0, 0⟩, ⟨38, 0 + 15 + 1 + 2, [], 0, 0⟩] ++ ([⟨3, 0 + 15 + 1 + 4, [], x, 0⟩] ++ ([⟨2, 0 + 15 + 1 + 4 + L + 1, [116], 0, 0⟩, ⟨46, 0 + 15 + 1 + 4 + L + 2, [], 0, 0⟩, ⟨2, 0 + 15 + 1 + 4 + L + 3, [120], 0, 0⟩, ⟨38, 0 + 15 + 1 + 4 + L + 5, [], 0, 0⟩] ++ ([⟨3, 0 + 15 + 1 + 4 + L + 7, [], 4611686018427387904, 0⟩] ++ ([⟨2, 0 + 15 + 1 + 4 + L + 7 + 1 + 1, [112, 114, 105, 110, 116], 0, 0⟩, ⟨39, 0 + 15 + 1 + 4 + L + 7 + 1 + 6, [], 0, 0⟩, ⟨2, 0 + 15 + 1 + 4 + L + 7 + 1 + 7, [116], 0, 0⟩, ⟨43, 0 + 15 + 1 + 4 + L + 7 + 1 + 8, [], 0, 0⟩] ++ ([⟨3, 0 + 15 + 1 + 4 + L + 7 + 1 + 9, [], 4607182418800017408, 0⟩] ++ ([⟨44, 0 + 15 + 1 + 4 + L + 7 + 1 + 9 + 1 + 0, [], 0, 0⟩, ⟨40, 0 + 15 + 1 + 4 + L + 7 + 1 + 9 + 1 + 1, [], 0, 0⟩, ⟨2, 0 + 15 + 1 + 4 + L + 7 + 1 + 9 + 1 + 3, [112, 114, 105, 110, 116], 0, 0⟩, ⟨39, 0 + 15 + 1 + 4 + L + 7 + 1 + 9 + 1 + 8, [], 0, 0⟩, ⟨2, 0 + 15 + 1 + 4 + L + 7 + 1 + 9 + 1 + 9, [116], 0, 0⟩, ⟨46, 0 + 15 + 1 + 4 + L + 7 + 1 + 9 + 1 + 10, [], 0, 0⟩, ⟨2, 0 + 15 + 1 + 4 + L + 7 + 1 + 9 + 1 + 11, [120], 0, 0⟩, ⟨40, 0 + 15 + 1 + 4 + L + 7 + 1 + 9 + 1 + 12, [], 0, 0⟩, ⟨0, 0 + 15 + 1 + 4 + L + 7 + 1 + 9 + 1 + 13, [], 0, 0⟩]))))))))
theorem s32_s {x : Nat} (hx : x < 9218868437227405312) : scanP (sayP 32 (fmtN x)).1 = s32_T x (fmtN x).length := by
  have e : (sayP 32 (fmtN x)).1 = [108, 111, 99, 97, 108, 32, 116, 32, 61, 32, 123, 125, 32, 116, 91] ++ ([49] ++ ([93, 32, 61, 32] ++ (fmtN x ++ ([32, 116, 46, 120, 32, 61, 32] ++ ([50] ++ ([32, 112, 114, 105, 110, 116, 40, 116, 91] ++ ([49] ++ ([93, 41, 32, 112, 114, 105, 110, 116, 40, 116, 46, 120, 41])))))))) := by
    simp only [sayP, sy32, List.append_assoc, List.cons_append, List.nil_append]
  rw [scanP_eq, e]
  rw [scA_piece s32_p0]
  rw [scA_n1 _ rfl]
  rw [scA_piece s32_p1]
  rw [scA_fmt hx _ rfl]
  rw [scA_piece s32_p2]
  rw [scA_n2 _ rfl]
  rw [scA_piece s32_p3]
  rw [scA_n1 _ rfl]
  rw [s32_e]
  rfl
theorem s32_t (x L : Nat) : treeT (s32_T x L) = treeS x (s32_T y0N L) := by kernel_rfl
theorem s32_n (L : Nat) : treeT (s32_T y0N L) ≠ none := by
  have h : (treeT (s32_T y0N L)).isSome = true := by kernel_rfl
  intro e
  rw [e] at h
  cases h
theorem s32_c {x : Nat} (L : Nat) (hx : x < 9218868437227405312) (h : x ∉ [4607182418800017408, 4611686018427387904]) : ∀ q ∈ sayNums (s32_T y0N L), q ≠ x := by
  have e : (sayNums (s32_T y0N L)).all (fun q => [4607182418800017408, 4611686018427387904, y0N].contains q) = true := by kernel_rfl
  exact nums_ne hx h e
theorem s32_r (F : Nat → Bs) (x L : Nat) : sayR F (s32_T y0N L) x 2 = some (1, 0, nilV, 0, ((([] : Bs) ++ F x ++ [10]) ++ F 4611686018427387904 ++ [10]), [((([] : Bs) ++ F x ++ [10]), 200), (((([] : Bs) ++ F x ++ [10]) ++ F 4611686018427387904 ++ [10]), 200)]) := by kernel_rfl
theorem s32_q (F : Nat → Bs) (x L : Nat) : sayR F (s32_T y0N L) x 1 = some (5, 9, nilV, 0, (([] : Bs) ++ F x ++ [10]), [((([] : Bs) ++ F x ++ [10]), 200)]) := by kernel_rfl
theorem say_32 {x : Nat} (hx : x < 9218868437227405312) : SayOk (sayP 32 (fmtN x)) := by
  by_cases hm : x ∈ [4607182418800017408, 4611686018427387904]
  · simp only [List.mem_cons, List.not_mem_nil, or_false] at hm
    rcases hm with rfl | rfl
    all_goals exact say_closed (by kernel_rfl) (by decide) (by kernel_rfl) (by kernel_rfl)
  · have hl := fmt_len x (by omega)
    refine say_open (by simp [sayP, sy32]; omega) (Nat.le_of_ble_eq_true rfl) (s32_s hx) (s32_t x _) (s32_n _) (s32_c _ hx hm) (s32_r fmtN x _) (s32_q fmtN x _) ?_ ?_ ?_ ?_
    · simp [sayP, sy32, txt_one, txt_two, txt_three, int_two, int_three, fmt_neg hx]
    · simp [sayP, sy32, txt_one, txt_two, txt_three, int_two, int_three, fmt_neg hx]
    · exact log_ok (by simp only [List.mem_cons, List.not_mem_nil, or_false, forall_eq_or_imp, forall_eq, List.length_append, List.length_cons, List.length_nil, List.length_singleton, Int.cast_ofNat_Int, txt_one, txt_two, txt_three, int_two, int_three, fmt_neg hx]; omega)
    · exact log_ok (by simp only [List.mem_cons, List.not_mem_nil, or_false, forall_eq_or_imp, forall_eq, List.length_append, List.length_cons, List.length_nil, List.length_singleton, Int.cast_ofNat_Int, txt_one, txt_two, txt_three, int_two, int_three, fmt_neg hx]; omega)
theorem s33_p0 : ∀ f p R, scanN (f + ([112, 114, 105, 110, 116, 40] : Bs).length) p ([112, 114, 105, 110, 116, 40] ++ R) = [⟨2, p + 0, [112, 114, 105, 110, 116], 0, 0⟩, ⟨39, p + 5, [], 0, 0⟩] ++ scanN (f + 4) (p + ([112, 114, 105, 110, 116, 40] : Bs).length) R := by
  intro f p R
  kernel_rfl
theorem s33_p1 : ∀ f p R, scanN (f + ([32, 97, 110, 100, 32] : Bs).length) p ([32, 97, 110, 100, 32] ++ R) = [⟨23, p + 1, [97, 110, 100], 0, 0⟩] ++ scanN (f + 2) (p + ([32, 97, 110, 100, 32] : Bs).length) R := by
  intro f p R
  kernel_rfl
theorem s33_p2 : ∀ f p R, scanN (f + ([41, 32, 112, 114, 105, 110, 116, 40, 110, 105, 108, 32, 97, 110, 100, 32] : Bs).length) p ([41, 32, 112, 114, 105, 110, 116, 40, 110, 105, 108, 32, 97, 110, 100, 32] ++ R) = [⟨40, p + 0, [], 0, 0⟩, ⟨2, p + 2, [112, 114, 105, 110, 116], 0, 0⟩, ⟨39, p + 7, [], 0, 0⟩, ⟨16, p + 8, [110, 105, 108], 0, 0⟩, ⟨23, p + 12, [97, 110, 100], 0, 0⟩] ++ scanN (f + 8) (p + ([41, 32, 112, 114, 105, 110, 116, 40, 110, 105, 108, 32, 97, 110, 100, 32] : Bs).length) R := by
  intro f p R
  kernel_rfl
theorem s33_p3 : ∀ f p R, scanN (f + ([41, 32, 112, 114, 105, 110, 116, 40, 102, 97, 108, 115, 101, 32, 111, 114, 32] : Bs).length) p ([41, 32, 112, 114, 105, 110, 116, 40, 102, 97, 108, 115, 101, 32, 111, 114, 32] ++ R) = [⟨40, p + 0, [], 0, 0⟩, ⟨2, p + 2, [112, 114, 105, 110, 116], 0, 0⟩, ⟨39, p + 7, [], 0, 0⟩, ⟨10, p + 8, [102, 97, 108, 115, 101], 0, 0⟩, ⟨22, p + 14, [111, 114], 0, 0⟩] ++ scanN (f + 9) (p + ([41, 32, 112, 114, 105, 110, 116, 40, 102, 97, 108, 115, 101, 32, 111, 114, 32] : Bs).length) R := by
  intro f p R
  kernel_rfl
theorem s33_p4 : ∀ f p R, scanN (f + ([41, 32, 112, 114, 105, 110, 116, 40] : Bs).length) p ([41, 32, 112, 114, 105, 110, 116, 40] ++ R) = [⟨40, p + 0, [], 0, 0⟩, ⟨2, p + 2, [112, 114, 105, 110, 116], 0, 0⟩, ⟨39, p + 7, [], 0, 0⟩] ++ scanN (f + 4) (p + ([41, 32, 112, 114, 105, 110, 116, 40] : Bs).length) R := by
  intro f p R
  kernel_rfl
theorem s33_p5 : ∀ f p R, scanN (f + ([32, 111, 114, 32] : Bs).length) p ([32, 111, 114, 32] ++ R) = [⟨22, p + 1, [111, 114], 0, 0⟩] ++ scanN (f + 1) (p + ([32, 111, 114, 32] : Bs).length) R := by
  intro f p R
  kernel_rfl
theorem s33_e : ∀ p, scA p [41] = [⟨40, p + 0, [], 0, 0⟩, ⟨0, p + 1, [], 0, 0⟩] := by
  intro p
  kernel_rfl
def s33_T (x L : Nat) : List Tok := [⟨2, 0 + 0, [112, 114, 105, 110, 116], 0, 0⟩, ⟨39, 0 + 5, [], 0, 0⟩] ++ ([⟨3, 0 + 6, [], 4607182418800017408, 0⟩] ++ ([⟨23, 0 + 6 + 1 + 1, [97, 110, 100], 0, 0⟩] ++ ([⟨3, 0 + 6 + 1 + 5, [], x, 0⟩] ++ ([⟨40, 0 + 6 + 1 + 5 + L + 0, [], 0, 0⟩, ⟨2, 0 + 6 + 1 + 5 + L + 2, [112, 114, 105, 110, 116], 0, 0⟩, ⟨39, 0 + 6 + 1 + 5 + L + 7, [], 0, 0⟩, ⟨16, 0 + 6 + 1 + 5 + L + 8, [110, 105, 108], 0, 0⟩, ⟨23, 0 + 6 + 1 + 5 + L + 12, [97, 110, 100], 0, 0⟩] ++ ([⟨3, 0 + 6 + 1 + 5 + L + 16, [], 4607182418800017408, 0⟩] ++ ([⟨40, 0 + 6 + 1 + 5 + L + 16 + 1 + 0, [], 0, 0⟩, ⟨2, 0 + 6 + 1 + 5 + L + 16 + 1 + 2, [112, 114, 105, 110, 116], 0, 0⟩, ⟨39, 0 + 6 + 1 + 5 + L + 16 + 1 + 7, [], 0, 0⟩, ⟨10, 0 + 6 + 1 + 5 + L + 16 + 1 + 8, [102, 97, 108, 115, 101], 0, 0⟩, ⟨22, 0 + 6 + 1 + 5 + L + 16 + 1 + 14, [111, 114], 0, 0⟩] ++ ([⟨3, 0 + 6 + 1 + 5 + L + 16 + 1 + 17, [], x, 0⟩] ++ ([⟨40, 0 + 6 + 1 + 5 + L + 16 + 1 + 17 + L + 0, [], 0, 0⟩, ⟨2, 0 + 6 + 1 + 5 + L + 16 + 1 + 17 + L + 2, [112, 114, 105, 110, 116], 0, 0⟩, ⟨39, 0 + 6 + 1 + 5 + L + 16 + 1 + 17 + L + 7, [], 0, 0⟩] ++ ([⟨3, 0 + 6 + 1 + 5 + L + 16 + 1 + 17 + L + 8, [], 4607182418800017408, 0⟩] ++ ([⟨22, 0 + 6 + 1 + 5 + L + 16 + 1 + 17 + L + 8 + 1 + 1, [111, 114], 0, 0⟩] ++ ([⟨3, 0 + 6 + 1 + 5 + L + 16 + 1 + 17 + L + 8 + 1 + 4, [], 4611686018427387904, 0⟩] ++ ([⟨40, 0 + 6 + 1 + 5 + L + 16 + 1 + 17 + L + 8 + 1 + 4 + 1 + 0, [], 0, 0⟩, ⟨0, 0 + 6 + 1 + 5 + L + 16 + 1 + 17 + L + 8 + 1 + 4 + 1 + 1, [], 0, 0⟩]))))))))))))
theorem s33_s {x : Nat} (hx : x < 9218868437227405312) : scanP (sayP 33 (fmtN x)).1 = s33_T x (fmtN x).length := by
  have e : (sayP 33 (fmtN x)).1 = [112, 114, 105, 110, 116, 40] ++ ([49] ++ ([32, 97, 110, 100, 32] ++ (fmtN x ++ ([41, 32, 112, 114, 105, 110, 116, 40, 110, 105, 108, 32, 97, 110, 100, 32] ++ ([49] ++ ([41, 32, 112, 114, 105, 110, 116, 40, 102, 97, 108, 115, 101, 32, 111, 114, 32] ++ (fmtN x ++ ([41, 32, 112, 114, 105, 110, 116, 40] ++ ([49] ++ ([32, 111, 114, 32] ++ ([50] ++ ([41])))))))))))) := by
    simp only [sayP, sy33, List.append_assoc, List.cons_append, List.nil_append]
  rw [scanP_eq, e]
  rw [scA_piece s33_p0]
  rw [scA_n1 _ rfl]
  rw [scA_piece s33_p1]
  rw [scA_fmt hx _ rfl]
  rw [scA_piece s33_p2]
  rw [scA_n1 _ rfl]
  rw [scA_piece s33_p3]
  rw [scA_fmt hx _ rfl]
  rw [scA_piece s33_p4]
  rw [scA_n1 _ rfl]
  rw [scA_piece s33_p5]
  rw [scA_n2 _ rfl]
  rw [s33_e]
  rfl
theorem s33_t (x L : Nat) : treeT (s33_T x L) = treeS x (s33_T y0N L) := by kernel_rfl
theorem s33_n (L : Nat) : treeT (s33_T y0N L) ≠ none := by
  have h : (treeT (s33_T y0N L)).isSome = true := by kernel_rfl
  intro e
  rw [e] at h
  cases h
theorem s33_c {x : Nat} (L : Nat) (hx : x < 9218868437227405312) (h : x ∉ [4607182418800017408, 4611686018427387904]) : ∀ q ∈ sayNums (s33_T y0N L), q ≠ x := by
  have e : (sayNums (s33_T y0N L)).all (fun q => [4607182418800017408, 4611686018427387904, y0N].contains q) = true := by kernel_rfl
  exact nums_ne hx h e
theorem s33_r (F : Nat → Bs) (x L : Nat) : sayR F (s33_T y0N L) x 4 = some (1, 0, nilV, 0, ((((([] : Bs) ++ F x ++ [10]) ++ [110, 105, 108] ++ [10]) ++ F x ++ [10]) ++ F 4607182418800017408 ++ [10]), [((([] : Bs) ++ F x ++ [10]), 200), (((([] : Bs) ++ F x ++ [10]) ++ [110, 105, 108] ++ [10]), 200), ((((([] : Bs) ++ F x ++ [10]) ++ [110, 105, 108] ++ [10]) ++ F x ++ [10]), 200), (((((([] : Bs) ++ F x ++ [10]) ++ [110, 105, 108] ++ [10]) ++ F x ++ [10]) ++ F 4607182418800017408 ++ [10]), 200)]) := by kernel_rfl
theorem s33_q (F : Nat → Bs) (x L : Nat) : sayR F (s33_T y0N L) x 3 = some (5, 9, nilV, 0, (((([] : Bs) ++ F x ++ [10]) ++ [110, 105, 108] ++ [10]) ++ F x ++ [10]), [((([] : Bs) ++ F x ++ [10]), 200), (((([] : Bs) ++ F x ++ [10]) ++ [110, 105, 108] ++ [10]), 200), ((((([] : Bs) ++ F x ++ [10]) ++ [110, 105, 108] ++ [10]) ++ F x ++ [10]), 200)]) := by kernel_rfl
theorem say_33 {x : Nat} (hx : x < 9218868437227405312) : SayOk (sayP 33 (fmtN x)) := by
  by_cases hm : x ∈ [4607182418800017408, 4611686018427387904]
  · simp only [List.mem_cons, List.not_mem_nil, or_false] at hm
    rcases hm with rfl | rfl
    all_goals exact say_closed (by kernel_rfl) (by decide) (by kernel_rfl) (by kernel_rfl)
  · have hl := fmt_len x (by omega)
    refine say_open (by simp [sayP, sy33]; omega) (Nat.le_of_ble_eq_true rfl) (s33_s hx) (s33_t x _) (s33_n _) (s33_c _ hx hm) (s33_r fmtN x _) (s33_q fmtN x _) ?_ ?_ ?_ ?_
    · simp [sayP, sy33, txt_one, txt_two, txt_three, int_two, int_three, fmt_neg hx]
    · simp [sayP, sy33, txt_one, txt_two, txt_three, int_two, int_three, fmt_neg hx]
    · exact log_ok (by simp only [List.mem_cons, List.not_mem_nil, or_false, forall_eq_or_imp, forall_eq, List.length_append, List.length_cons, List.length_nil, List.length_singleton, Int.cast_ofNat_Int, txt_one, txt_two, txt_three, int_two, int_three, fmt_neg hx]; omega)
    · exact log_ok (by simp only [List.mem_cons, List.not_mem_nil, or_false, forall_eq_or_imp, forall_eq, List.length_append, List.length_cons, List.length_nil, List.length_singleton, Int.cast_ofNat_Int, txt_one, txt_two, txt_three, int_two, int_three, fmt_neg hx]; omega)
theorem s36_p0 : ∀ f p R, scanN (f + ([108, 111, 99, 97, 108, 32, 102, 117, 110, 99, 116, 105, 111, 110, 32, 102, 40, 41, 32, 114, 101, 116, 117, 114, 110, 32, 101, 110, 100, 32, 108, 111, 99, 97, 108, 32, 102, 117, 110, 99, 116, 105, 111, 110, 32] : Bs).length) p ([108, 111, 99, 97, 108, 32, 102, 117, 110, 99, 116, 105, 111, 110, 32, 102, 40, 41, 32, 114, 101, 116, 117, 114, 110, 32, 101, 110, 100, 32, 108, 111, 99, 97, 108, 32, 102, 117, 110, 99, 116, 105, 111, 110, 32] ++ R) = [⟨15, p + 0, [108, 111, 99, 97, 108], 0, 0⟩, ⟨12, p + 6, [102, 117, 110, 99, 116, 105, 111, 110], 0, 0⟩, ⟨2, p + 15, [102], 0, 0⟩, ⟨39, p + 16, [], 0, 0⟩, ⟨40, p + 17, [], 0, 0⟩, ⟨18, p + 19, [114, 101, 116, 117, 114, 110], 0, 0⟩, ⟨9, p + 26, [101, 110, 100], 0, 0⟩, ⟨15, p + 30, [108, 111, 99, 97, 108], 0, 0⟩, ⟨12, p + 36, [102, 117, 110, 99, 116, 105, 111, 110], 0, 0⟩] ++ scanN (f + 29) (p + ([108, 111, 99, 97, 108, 32, 102, 117, 110, 99, 116, 105, 111, 110, 32, 102, 40, 41, 32, 114, 101, 116, 117, 114, 110, 32, 101, 110, 100, 32, 108, 111, 99, 97, 108, 32, 102, 117, 110, 99, 116, 105, 111, 110, 32] : Bs).length) R := by
  intro f p R
  kernel_rfl
theorem s36_p1 : ∀ f p R, scanN (f + ([103, 40, 41, 32, 114, 101, 116, 117, 114, 110, 32] : Bs).length) p ([103, 40, 41, 32, 114, 101, 116, 117, 114, 110, 32] ++ R) = [⟨2, p + 0, [103], 0, 0⟩, ⟨39, p + 1, [], 0, 0⟩, ⟨40, p + 2, [], 0, 0⟩, ⟨18, p + 4, [114, 101, 116, 117, 114, 110], 0, 0⟩] ++ scanN (f + 5) (p + ([103, 40, 41, 32, 114, 101, 116, 117, 114, 110, 32] : Bs).length) R := by
  intro f p R
  kernel_rfl
theorem s36_e : ∀ p, scA p [32, 101, 110, 100, 32, 112, 114, 105, 110, 116, 40, 102, 40, 41, 41, 32, 108, 111, 99, 97, 108, 32, 97, 44, 32, 98, 32, 61, 32, 103, 40, 41, 32, 112, 114, 105, 110, 116, 40, 98, 41] = [⟨9, p + 1, [101, 110, 100], 0, 0⟩, ⟨2, p + 5, [112, 114, 105, 110, 116], 0, 0⟩, ⟨39, p + 10, [], 0, 0⟩, ⟨2, p + 11, [102], 0, 0⟩, ⟨39, p + 12, [], 0, 0⟩, ⟨40, p + 13, [], 0, 0⟩, ⟨40, p + 14, [], 0, 0⟩, ⟨15, p + 16, [108, 111, 99, 97, 108], 0, 0⟩, ⟨2, p + 22, [97], 0, 0⟩, ⟨45, p + 23, [], 0, 0⟩, ⟨2, p + 25, [98], 0, 0⟩, ⟨38, p + 27, [], 0, 0⟩, ⟨2, p + 29, [103], 0, 0⟩, ⟨39, p + 30, [], 0, 0⟩, ⟨40, p + 31, [], 0, 0⟩, ⟨2, p + 33, [112, 114, 105, 110, 116], 0, 0⟩, ⟨39, p + 38, [], 0, 0⟩, ⟨2, p + 39, [98], 0, 0⟩, ⟨40, p + 40, [], 0, 0⟩, ⟨0, p + 41, [], 0, 0⟩] := by
  intro p
  kernel_rfl
def s36_T (x L : Nat) : List Tok := [⟨15, 0 + 0, [108, 111, 99, 97, 108], 0, 0⟩, ⟨12, 0 + 6, [102, 117, 110, 99, 116, 105, 111, 110], 0, 0⟩, ⟨2, 0 + 15, [102], 0, 0⟩, ⟨39, 0 + 16, [], 0, 0⟩, ⟨40, 0 + 17, [], 0, 0⟩, ⟨18, 0 + 19, [114, 101, 116, 117, 114, 110], 0, 0⟩, ⟨9, 0 + 26, [101, 110, 100], 0, 0⟩, ⟨15, 0 + 30, [108, 111, 99, 97, 108], 0, 0⟩, ⟨12, 0 + 36, [102, 117, 110, 99, 116, 105, 111, 110], 0, 0⟩] ++ ([⟨2, 0 + 45 + 0, [103], 0, 0⟩, ⟨39, 0 + 45 + 1, [], 0, 0⟩, ⟨40, 0 + 45 + 2, [], 0, 0⟩, ⟨18, 0 + 45 + 4, [114, 101, 116, 117, 114, 110], 0, 0⟩] ++ ([⟨3, 0 + 45 + 11, [], x, 0⟩] ++ ([⟨9, 0 + 45 + 11 + L + 1, [101, 110, 100], 0, 0⟩, ⟨2, 0 + 45 + 11 + L + 5, [112, 114, 105, 110, 116], 0, 0⟩, ⟨39, 0 + 45 + 11 + L + 10, [], 0, 0⟩, ⟨2, 0 + 45 + 11 + L + 11, [102], 0, 0⟩, ⟨39, 0 + 45 + 11 + L + 12, [], 0, 0⟩, ⟨40, 0 + 45 + 11 + L + 13, [], 0, 0⟩, ⟨40, 0 + 45 + 11 + L + 14, [], 0, 0⟩, ⟨15, 0 + 45 + 11 + L + 16, [108, 111, 99, 97, 108], 0, 0⟩, ⟨2, 0 + 45 + 11 + L + 22, [97], 0, 0⟩, ⟨45, 0 + 45 + 11 + L + 23, [], 0, 0⟩, ⟨2, 0 + 45 + 11 + L + 25, [98], 0, 0⟩, ⟨38, 0 + 45 + 11 + L + 27, [], 0, 0⟩, ⟨2, 0 + 45 + 11 + L + 29, [103], 0, 0⟩, ⟨39, 0 + 45 + 11 + L + 30, [], 0, 0⟩, ⟨40, 0 + 45 + 11 + L + 31, [], 0, 0⟩, ⟨2, 0 + 45 + 11 + L + 33, [112, 114, 105, 110, 116], 0, 0⟩, ⟨39, 0 + 45 + 11 + L + 38, [], 0, 0⟩, ⟨2, 0 + 45 + 11 + L + 39, [98], 0, 0⟩, ⟨40, 0 + 45 + 11 + L + 40, [], 0, 0⟩, ⟨0, 0 + 45 + 11 + L + 41, [], 0, 0⟩])))
theorem s36_s {x : Nat} (hx : x < 9218868437227405312) : scanP (sayP 36 (fmtN x)).1 = s36_T x (fmtN x).length := by
  have e : (sayP 36 (fmtN x)).1 = [108, 111, 99, 97, 108, 32, 102, 117, 110, 99, 116, 105, 111, 110, 32, 102, 40, 41, 32, 114, 101, 116, 117, 114, 110, 32, 101, 110, 100, 32, 108, 111, 99, 97, 108, 32, 102, 117, 110, 99, 116, 105, 111, 110, 32] ++ ([103, 40, 41, 32, 114, 101, 116, 117, 114, 110, 32] ++ (fmtN x ++ ([32, 101, 110, 100, 32, 112, 114, 105, 110, 116, 40, 102, 40, 41, 41, 32, 108, 111, 99, 97, 108, 32, 97, 44, 32, 98, 32, 61, 32, 103, 40, 41, 32, 112, 114, 105, 110, 116, 40, 98, 41]))) := by
    simp only [sayP, sy36, List.append_assoc, List.cons_append, List.nil_append]
  rw [scanP_eq, e]
  rw [scA_piece s36_p0]
  rw [scA_piece s36_p1]
  rw [scA_fmt hx _ rfl]
  rw [s36_e]
  rfl
theorem s36_t (x L : Nat) : treeT (s36_T x L) = treeS x (s36_T y0N L) := by kernel_rfl
theorem s36_n (L : Nat) : treeT (s36_T y0N L) ≠ none := by
  have h : (treeT (s36_T y0N L)).isSome = true := by kernel_rfl
  intro e
  rw [e] at h
  cases h
theorem s36_c {x : Nat} (L : Nat) (hx : x < 9218868437227405312) (h : x ∉ [4607182418800017408]) : ∀ q ∈ sayNums (s36_T y0N L), q ≠ x := by
  have e : (sayNums (s36_T y0N L)).all (fun q => [4607182418800017408, y0N].contains q) = true := by kernel_rfl
  exact nums_ne hx h e
theorem s36_r (F : Nat → Bs) (x L : Nat) : sayR F (s36_T y0N L) x 4 = some (1, 0, nilV, 0, ((([] : Bs) ++ [110, 105, 108] ++ [10]) ++ [110, 105, 108] ++ [10]), [((([] : Bs) ++ [110, 105, 108] ++ [10]), 200), (((([] : Bs) ++ [110, 105, 108] ++ [10]) ++ [110, 105, 108] ++ [10]), 200)]) := by kernel_rfl
theorem s36_q (F : Nat → Bs) (x L : Nat) : sayR F (s36_T y0N L) x 3 = some (5, 9, nilV, 0, (([] : Bs) ++ [110, 105, 108] ++ [10]), [((([] : Bs) ++ [110, 105, 108] ++ [10]), 200)]) := by kernel_rfl
theorem say_36 {x : Nat} (hx : x < 9218868437227405312) : SayOk (sayP 36 (fmtN x)) := by
  by_cases hm : x ∈ [4607182418800017408]
  · simp only [List.mem_cons, List.not_mem_nil, or_false] at hm
    rcases hm with rfl
    all_goals exact say_closed (by kernel_rfl) (by decide) (by kernel_rfl) (by kernel_rfl)
  · have hl := fmt_len x (by omega)
    refine say_open (by simp [sayP, sy36]; omega) (Nat.le_of_ble_eq_true rfl) (s36_s hx) (s36_t x _) (s36_n _) (s36_c _ hx hm) (s36_r fmtN x _) (s36_q fmtN x _) ?_ ?_ ?_ ?_
    · simp [sayP, sy36, txt_one, txt_two, txt_three, int_two, int_three, fmt_neg hx]
    · simp [sayP, sy36, txt_one, txt_two, txt_three, int_two, int_three, fmt_neg hx]
    · exact log_ok (by simp only [List.mem_cons, List.not_mem_nil, or_false, forall_eq_or_imp, forall_eq, List.length_append, List.length_cons, List.length_nil, List.length_singleton, Int.cast_ofNat_Int, txt_one, txt_two, txt_three, int_two, int_three, fmt_neg hx]; omega)
    · exact log_ok (by simp only [List.mem_cons, List.not_mem_nil, or_false, forall_eq_or_imp, forall_eq, List.length_append, List.length_cons, List.length_nil, List.length_singleton, Int.cast_ofNat_Int, txt_one, txt_two, txt_three, int_two, int_three, fmt_neg hx]; omega)
end
end Go.Proofs.Qxb6500574aGreatDoor
