/-
  moon: THE SAYINGS 27, 29, 30, 31 (written by tools/gen_say.py). Plain; no memory, no walk.
-/
import Derived.Test.Qxb6500574aGreatDoorWSy3
namespace Go.Proofs.Qxb6500574aGreatDoor
set_option linter.unusedVariables false
set_option linter.unusedSimpArgs false
section
set_option maxRecDepth 100000
theorem s27_p0 : ∀ f p R, scanN (f + ([108, 111, 99, 97, 108, 32, 102, 117, 110, 99, 116, 105, 111, 110, 32, 102, 40, 41, 32, 114, 101, 116, 117, 114, 110, 32, 120, 32, 101, 110, 100, 32, 120, 32, 61, 32] : Bs).length) p ([108, 111, 99, 97, 108, 32, 102, 117, 110, 99, 116, 105, 111, 110, 32, 102, 40, 41, 32, 114, 101, 116, 117, 114, 110, 32, 120, 32, 101, 110, 100, 32, 120, 32, 61, 32] ++ R) = [⟨15, p + 0, [108, 111, 99, 97, 108], 0, 0⟩, ⟨12, p + 6, [102, 117, 110, 99, 116, 105, 111, 110], 0, 0⟩, ⟨2, p + 15, [102], 0, 0⟩, ⟨39, p + 16, [], 0, 0⟩, ⟨40, p + 17, [], 0, 0⟩, ⟨18, p + 19, [114, 101, 116, 117, 114, 110], 0, 0⟩, ⟨2, p + 26, [120], 0, 0⟩, ⟨9, p + 28, [101, 110, 100], 0, 0⟩, ⟨2, p + 32, [120], 0, 0⟩, ⟨38, p + 34, [], 0, 0⟩] ++ scanN (f + 18) (p + ([108, 111, 99, 97, 108, 32, 102, 117, 110, 99, 116, 105, 111, 110, 32, 102, 40, 41, 32, 114, 101, 116, 117, 114, 110, 32, 120, 32, 101, 110, 100, 32, 120, 32, 61, 32] : Bs).length) R := by
  intro f p R
  kernel_rfl
theorem s27_e : ∀ p, scA p [32, 112, 114, 105, 110, 116, 40, 102, 40, 41, 41, 32, 120, 32, 61, 32, 110, 105, 108, 32, 112, 114, 105, 110, 116, 40, 102, 40, 41, 41] = [⟨2, p + 1, [112, 114, 105, 110, 116], 0, 0⟩, ⟨39, p + 6, [], 0, 0⟩, ⟨2, p + 7, [102], 0, 0⟩, ⟨39, p + 8, [], 0, 0⟩, ⟨40, p + 9, [], 0, 0⟩, ⟨40, p + 10, [], 0, 0⟩, ⟨2, p + 12, [120], 0, 0⟩, ⟨38, p + 14, [], 0, 0⟩, ⟨16, p + 16, [110, 105, 108], 0, 0⟩, ⟨2, p + 20, [112, 114, 105, 110, 116], 0, 0⟩, ⟨39, p + 25, [], 0, 0⟩, ⟨2, p + 26, [102], 0, 0⟩, ⟨39, p + 27, [], 0, 0⟩, ⟨40, p + 28, [], 0, 0⟩, ⟨40, p + 29, [], 0, 0⟩, ⟨0, p + 30, [], 0, 0⟩] := by
  intro p
  kernel_rfl
def s27_T (x L : Nat) : List Tok := [⟨15, 0 + 0, [108, 111, 99, 97, 108], 0, 0⟩, ⟨12, 0 + 6, [102, 117, 110, 99, 116, 105, 111, 110], 0, 0⟩, ⟨2, 0 + 15, [102], 0, 0⟩, ⟨39, 0 + 16, [], 0, 0⟩, ⟨40, 0 + 17, [], 0, 0⟩, ⟨18, 0 + 19, [114, 101, 116, 117, 114, 110], 0, 0⟩, ⟨2, 0 + 26, [120], 0, 0⟩, ⟨9, 0 + 28, [101, 110, 100], 0, 0⟩, ⟨2, 0 + 32, [120], 0, 0⟩, ⟨38, 0 + 34, [], 0, 0⟩] ++ ([⟨3, 0 + 36, [], x, 0⟩] ++ ([⟨2, 0 + 36 + L + 1, [112, 114, 105, 110, 116], 0, 0⟩, ⟨39, 0 + 36 + L + 6, [], 0, 0⟩, ⟨2, 0 + 36 + L + 7, [102], 0, 0⟩, ⟨39, 0 + 36 + L + 8, [], 0, 0⟩, ⟨40, 0 + 36 + L + 9, [], 0, 0⟩, ⟨40, 0 + 36 + L + 10, [], 0, 0⟩, ⟨2, 0 + 36 + L + 12, [120], 0, 0⟩, ⟨38, 0 + 36 + L + 14, [], 0, 0⟩, ⟨16, 0 + 36 + L + 16, [110, 105, 108], 0, 0⟩, ⟨2, 0 + 36 + L + 20, [112, 114, 105, 110, 116], 0, 0⟩, ⟨39, 0 + 36 + L + 25, [], 0, 0⟩, ⟨2, 0 + 36 + L + 26, [102], 0, 0⟩, ⟨39, 0 + 36 + L + 27, [], 0, 0⟩, ⟨40, 0 + 36 + L + 28, [], 0, 0⟩, ⟨40, 0 + 36 + L + 29, [], 0, 0⟩, ⟨0, 0 + 36 + L + 30, [], 0, 0⟩]))
theorem s27_s {x : Nat} (hx : x < 9218868437227405312) : scanP (sayP 27 (fmtN x)).1 = s27_T x (fmtN x).length := by
  have e : (sayP 27 (fmtN x)).1 = [108, 111, 99, 97, 108, 32, 102, 117, 110, 99, 116, 105, 111, 110, 32, 102, 40, 41, 32, 114, 101, 116, 117, 114, 110, 32, 120, 32, 101, 110, 100, 32, 120, 32, 61, 32] ++ (fmtN x ++ ([32, 112, 114, 105, 110, 116, 40, 102, 40, 41, 41, 32, 120, 32, 61, 32, 110, 105, 108, 32, 112, 114, 105, 110, 116, 40, 102, 40, 41, 41])) := by
    simp only [sayP, sy27, List.append_assoc, List.cons_append, List.nil_append]
  rw [scanP_eq, e]
  rw [scA_piece s27_p0]
  rw [scA_fmt hx _ rfl]
  rw [s27_e]
  rfl
theorem s27_t (x L : Nat) : treeT (s27_T x L) = treeS x (s27_T y0N L) := by kernel_rfl
theorem s27_n (L : Nat) : treeT (s27_T y0N L) ≠ none := by
  have h : (treeT (s27_T y0N L)).isSome = true := by kernel_rfl
  intro e
  rw [e] at h
  cases h
theorem s27_c {x : Nat} (L : Nat) (hx : x < 9218868437227405312) (h : x ∉ [4607182418800017408]) : ∀ q ∈ sayNums (s27_T y0N L), q ≠ x := by
  have e : (sayNums (s27_T y0N L)).all (fun q => [4607182418800017408, y0N].contains q) = true := by kernel_rfl
  exact nums_ne hx h e
theorem s27_r (F : Nat → Bs) (x L : Nat) : sayR F (s27_T y0N L) x 4 = some (1, 0, nilV, 0, ((([] : Bs) ++ F x ++ [10]) ++ [110, 105, 108] ++ [10]), [((([] : Bs) ++ F x ++ [10]), 200), (((([] : Bs) ++ F x ++ [10]) ++ [110, 105, 108] ++ [10]), 200)]) := by kernel_rfl
theorem s27_q (F : Nat → Bs) (x L : Nat) : sayR F (s27_T y0N L) x 3 = some (5, 9, nilV, 0, (([] : Bs) ++ F x ++ [10]), [((([] : Bs) ++ F x ++ [10]), 200)]) := by kernel_rfl
theorem say_27 {x : Nat} (hx : x < 9218868437227405312) : SayOk (sayP 27 (fmtN x)) := by
  by_cases hm : x ∈ [4607182418800017408]
  · simp only [List.mem_cons, List.not_mem_nil, or_false] at hm
    rcases hm with rfl
    all_goals exact say_closed (by kernel_rfl) (by decide) (by kernel_rfl) (by kernel_rfl)
  · have hl := fmt_len x (by omega)
    refine say_open (by simp [sayP, sy27]; omega) (Nat.le_of_ble_eq_true rfl) (s27_s hx) (s27_t x _) (s27_n _) (s27_c _ hx hm) (s27_r fmtN x _) (s27_q fmtN x _) ?_ ?_ ?_ ?_
    · simp [sayP, sy27, txt_one, txt_two, txt_three, int_two, int_three, fmt_neg hx]
    · simp [sayP, sy27, txt_one, txt_two, txt_three, int_two, int_three, fmt_neg hx]
    · exact log_ok (by simp only [List.mem_cons, List.not_mem_nil, or_false, forall_eq_or_imp, forall_eq, List.length_append, List.length_cons, List.length_nil, List.length_singleton, Int.cast_ofNat_Int, txt_one, txt_two, txt_three, int_two, int_three, fmt_neg hx]; omega)
    · exact log_ok (by simp only [List.mem_cons, List.not_mem_nil, or_false, forall_eq_or_imp, forall_eq, List.length_append, List.length_cons, List.length_nil, List.length_singleton, Int.cast_ofNat_Int, txt_one, txt_two, txt_three, int_two, int_three, fmt_neg hx]; omega)
theorem s29_p0 : ∀ f p R, scanN (f + ([108, 111, 99, 97, 108, 32, 102, 117, 110, 99, 116, 105, 111, 110, 32, 102, 40, 97, 44, 32, 98, 44, 32, 99, 41, 32, 114, 101, 116, 117, 114, 110, 32, 97, 32, 46, 46, 32, 98, 32, 46, 46, 32] : Bs).length) p ([108, 111, 99, 97, 108, 32, 102, 117, 110, 99, 116, 105, 111, 110, 32, 102, 40, 97, 44, 32, 98, 44, 32, 99, 41, 32, 114, 101, 116, 117, 114, 110, 32, 97, 32, 46, 46, 32, 98, 32, 46, 46, 32] ++ R) = [⟨15, p + 0, [108, 111, 99, 97, 108], 0, 0⟩, ⟨12, p + 6, [102, 117, 110, 99, 116, 105, 111, 110], 0, 0⟩, ⟨2, p + 15, [102], 0, 0⟩, ⟨39, p + 16, [], 0, 0⟩, ⟨2, p + 17, [97], 0, 0⟩, ⟨45, p + 18, [], 0, 0⟩, ⟨2, p + 20, [98], 0, 0⟩, ⟨45, p + 21, [], 0, 0⟩, ⟨2, p + 23, [99], 0, 0⟩, ⟨40, p + 24, [], 0, 0⟩, ⟨18, p + 26, [114, 101, 116, 117, 114, 110], 0, 0⟩, ⟨2, p + 33, [97], 0, 0⟩, ⟨30, p + 35, [], 0, 0⟩, ⟨2, p + 38, [98], 0, 0⟩, ⟨30, p + 40, [], 0, 0⟩] ++ scanN (f + 18) (p + ([108, 111, 99, 97, 108, 32, 102, 117, 110, 99, 116, 105, 111, 110, 32, 102, 40, 97, 44, 32, 98, 44, 32, 99, 41, 32, 114, 101, 116, 117, 114, 110, 32, 97, 32, 46, 46, 32, 98, 32, 46, 46, 32] : Bs).length) R := by
  intro f p R
  kernel_rfl
theorem s29_p1 : ∀ f p R, scanN (f + ([99, 32, 101, 110, 100, 32, 112, 114, 105, 110, 116, 40, 102, 40] : Bs).length) p ([99, 32, 101, 110, 100, 32, 112, 114, 105, 110, 116, 40, 102, 40] ++ R) = [⟨2, p + 0, [99], 0, 0⟩, ⟨9, p + 2, [101, 110, 100], 0, 0⟩, ⟨2, p + 6, [112, 114, 105, 110, 116], 0, 0⟩, ⟨39, p + 11, [], 0, 0⟩, ⟨2, p + 12, [102], 0, 0⟩, ⟨39, p + 13, [], 0, 0⟩] ++ scanN (f + 6) (p + ([99, 32, 101, 110, 100, 32, 112, 114, 105, 110, 116, 40, 102, 40] : Bs).length) R := by
  intro f p R
  kernel_rfl
theorem s29_p2 : ∀ f p R, scanN (f + ([44, 32] : Bs).length) p ([44, 32] ++ R) = [⟨45, p + 0, [], 0, 0⟩] ++ scanN (f + 0) (p + ([44, 32] : Bs).length) R := by
  intro f p R
  kernel_rfl
theorem s29_p3 : ∀ f p R, scanN (f + ([44, 32] : Bs).length) p ([44, 32] ++ R) = [⟨45, p + 0, [], 0, 0⟩] ++ scanN (f + 0) (p + ([44, 32] : Bs).length) R := by
  intro f p R
  kernel_rfl
theorem s29_e : ∀ p, scA p [41, 41] = [⟨40, p + 0, [], 0, 0⟩, ⟨40, p + 1, [], 0, 0⟩, ⟨0, p + 2, [], 0, 0⟩] := by
  intro p
  kernel_rfl
def s29_T (x L : Nat) : List Tok := [⟨15, 0 + 0, [108, 111, 99, 97, 108], 0, 0⟩, ⟨12, 0 + 6, [102, 117, 110, 99, 116, 105, 111, 110], 0, 0⟩, ⟨2, 0 + 15, [102], 0, 0⟩, ⟨39, 0 + 16, [], 0, 0⟩, ⟨2, 0 + 17, [97], 0, 0⟩, ⟨45, 0 + 18, [], 0, 0⟩, ⟨2, 0 + 20, [98], 0, 0⟩, ⟨45, 0 + 21, [], 0, 0⟩, ⟨2, 0 + 23, [99], 0, 0⟩, ⟨40, 0 + 24, [], 0, 0⟩, ⟨18, 0 + 26, [114, 101, 116, 117, 114, 110], 0, 0⟩, ⟨2, 0 + 33, [97], 0, 0⟩, ⟨30, 0 + 35, [], 0, 0⟩, ⟨2, 0 + 38, [98], 0, 0⟩, ⟨30, 0 + 40, [], 0, 0⟩] ++ ([⟨2, 0 + 43 + 0, [99], 0, 0⟩, ⟨9, 0 + 43 + 2, [101, 110, 100], 0, 0⟩, ⟨2, 0 + 43 + 6, [112, 114, 105, 110, 116], 0, 0⟩, ⟨39, 0 + 43 + 11, [], 0, 0⟩, ⟨2, 0 + 43 + 12, [102], 0, 0⟩, ⟨39, 0 + 43 + 13, [], 0, 0⟩] ++ ([⟨3, 0 + 43 + 14, [], 4607182418800017408, 0⟩] ++ ([⟨45, 0 + 43 + 14 + 1 + 0, [], 0, 0⟩] ++ ([⟨3, 0 + 43 + 14 + 1 + 2, [], 4611686018427387904, 0⟩] ++ ([⟨45, 0 + 43 + 14 + 1 + 2 + 1 + 0, [], 0, 0⟩] ++ ([⟨3, 0 + 43 + 14 + 1 + 2 + 1 + 2, [], x, 0⟩] ++ ([⟨40, 0 + 43 + 14 + 1 + 2 + 1 + 2 + L + 0, [], 0, 0⟩, ⟨40, 0 + 43 + 14 + 1 + 2 + 1 + 2 + L + 1, [], 0, 0⟩, ⟨0, 0 + 43 + 14 + 1 + 2 + 1 + 2 + L + 2, [], 0, 0⟩])))))))
theorem s29_s {x : Nat} (hx : x < 9218868437227405312) : scanP (sayP 29 (fmtN x)).1 = s29_T x (fmtN x).length := by
  have e : (sayP 29 (fmtN x)).1 = [108, 111, 99, 97, 108, 32, 102, 117, 110, 99, 116, 105, 111, 110, 32, 102, 40, 97, 44, 32, 98, 44, 32, 99, 41, 32, 114, 101, 116, 117, 114, 110, 32, 97, 32, 46, 46, 32, 98, 32, 46, 46, 32] ++ ([99, 32, 101, 110, 100, 32, 112, 114, 105, 110, 116, 40, 102, 40] ++ ([49] ++ ([44, 32] ++ ([50] ++ ([44, 32] ++ (fmtN x ++ ([41, 41]))))))) := by
    simp only [sayP, sy29, List.append_assoc, List.cons_append, List.nil_append]
  rw [scanP_eq, e]
  rw [scA_piece s29_p0]
  rw [scA_piece s29_p1]
  rw [scA_n1 _ rfl]
  rw [scA_piece s29_p2]
  rw [scA_n2 _ rfl]
  rw [scA_piece s29_p3]
  rw [scA_fmt hx _ rfl]
  rw [s29_e]
  rfl
theorem s29_t (x L : Nat) : treeT (s29_T x L) = treeS x (s29_T y0N L) := by kernel_rfl
theorem s29_n (L : Nat) : treeT (s29_T y0N L) ≠ none := by
  have h : (treeT (s29_T y0N L)).isSome = true := by kernel_rfl
  intro e
  rw [e] at h
  cases h
theorem s29_c {x : Nat} (L : Nat) (hx : x < 9218868437227405312) (h : x ∉ [4607182418800017408, 4611686018427387904]) : ∀ q ∈ sayNums (s29_T y0N L), q ≠ x := by
  have e : (sayNums (s29_T y0N L)).all (fun q => [4607182418800017408, 4611686018427387904, y0N].contains q) = true := by kernel_rfl
  exact nums_ne hx h e
theorem s29_r (F : Nat → Bs) (x L : Nat) : sayR F (s29_T y0N L) x 2 = some (1, 0, nilV, 0, (([] : Bs) ++ (F 4607182418800017408 ++ (F 4611686018427387904 ++ F x)) ++ [10]), [(F 4611686018427387904 ++ F x, 40), ((F 4607182418800017408 ++ (F 4611686018427387904 ++ F x)), 40), ((([] : Bs) ++ (F 4607182418800017408 ++ (F 4611686018427387904 ++ F x)) ++ [10]), 200)]) := by kernel_rfl
theorem s29_q (F : Nat → Bs) (x L : Nat) : sayR F (s29_T y0N L) x 1 = some (5, 9, nilV, 0, ([] : Bs), [(F 4611686018427387904 ++ F x, 40), ((F 4607182418800017408 ++ (F 4611686018427387904 ++ F x)), 40)]) := by kernel_rfl
theorem say_29 {x : Nat} (hx : x < 9218868437227405312) : SayOk (sayP 29 (fmtN x)) := by
  by_cases hm : x ∈ [4607182418800017408, 4611686018427387904]
  · simp only [List.mem_cons, List.not_mem_nil, or_false] at hm
    rcases hm with rfl | rfl
    all_goals exact say_closed (by kernel_rfl) (by decide) (by kernel_rfl) (by kernel_rfl)
  · have hl := fmt_len x (by omega)
    refine say_open (by simp [sayP, sy29]; omega) (Nat.le_of_ble_eq_true rfl) (s29_s hx) (s29_t x _) (s29_n _) (s29_c _ hx hm) (s29_r fmtN x _) (s29_q fmtN x _) ?_ ?_ ?_ ?_
    · simp [sayP, sy29, txt_one, txt_two, txt_three, int_two, int_three, fmt_neg hx]
    · simp [sayP, sy29, txt_one, txt_two, txt_three, int_two, int_three, fmt_neg hx]
    · exact log_ok (by simp only [List.mem_cons, List.not_mem_nil, or_false, forall_eq_or_imp, forall_eq, List.length_append, List.length_cons, List.length_nil, List.length_singleton, Int.cast_ofNat_Int, txt_one, txt_two, txt_three, int_two, int_three, fmt_neg hx]; omega)
    · exact log_ok (by simp only [List.mem_cons, List.not_mem_nil, or_false, forall_eq_or_imp, forall_eq, List.length_append, List.length_cons, List.length_nil, List.length_singleton, Int.cast_ofNat_Int, txt_one, txt_two, txt_three, int_two, int_three, fmt_neg hx]; omega)
theorem s30_p0 : ∀ f p R, scanN (f + ([102, 111, 114, 32, 105, 32, 61, 32] : Bs).length) p ([102, 111, 114, 32, 105, 32, 61, 32] ++ R) = [⟨11, p + 0, [102, 111, 114], 0, 0⟩, ⟨2, p + 4, [105], 0, 0⟩, ⟨38, p + 6, [], 0, 0⟩] ++ scanN (f + 2) (p + ([102, 111, 114, 32, 105, 32, 61, 32] : Bs).length) R := by
  intro f p R
  kernel_rfl
theorem s30_p1 : ∀ f p R, scanN (f + ([44, 32] : Bs).length) p ([44, 32] ++ R) = [⟨45, p + 0, [], 0, 0⟩] ++ scanN (f + 0) (p + ([44, 32] : Bs).length) R := by
  intro f p R
  kernel_rfl
theorem s30_p2 : ∀ f p R, scanN (f + ([32, 100, 111, 32, 105, 102, 32, 105, 32, 61, 61, 32] : Bs).length) p ([32, 100, 111, 32, 105, 102, 32, 105, 32, 61, 61, 32] ++ R) = [⟨6, p + 1, [100, 111], 0, 0⟩, ⟨13, p + 4, [105, 102], 0, 0⟩, ⟨2, p + 7, [105], 0, 0⟩, ⟨24, p + 9, [], 0, 0⟩] ++ scanN (f + 3) (p + ([32, 100, 111, 32, 105, 102, 32, 105, 32, 61, 61, 32] : Bs).length) R := by
  intro f p R
  kernel_rfl
theorem s30_p3 : ∀ f p R, scanN (f + ([32, 116, 104, 101, 110, 32, 98, 114, 101, 97, 107, 32, 101, 110, 100, 32, 112, 114, 105, 110, 116, 40, 105, 41, 32, 101, 110, 100, 32, 112, 114, 105, 110, 116, 40] : Bs).length) p ([32, 116, 104, 101, 110, 32, 98, 114, 101, 97, 107, 32, 101, 110, 100, 32, 112, 114, 105, 110, 116, 40, 105, 41, 32, 101, 110, 100, 32, 112, 114, 105, 110, 116, 40] ++ R) = [⟨19, p + 1, [116, 104, 101, 110], 0, 0⟩, ⟨5, p + 6, [98, 114, 101, 97, 107], 0, 0⟩, ⟨9, p + 12, [101, 110, 100], 0, 0⟩, ⟨2, p + 16, [112, 114, 105, 110, 116], 0, 0⟩, ⟨39, p + 21, [], 0, 0⟩, ⟨2, p + 22, [105], 0, 0⟩, ⟨40, p + 23, [], 0, 0⟩, ⟨9, p + 25, [101, 110, 100], 0, 0⟩, ⟨2, p + 29, [112, 114, 105, 110, 116], 0, 0⟩, ⟨39, p + 34, [], 0, 0⟩] ++ scanN (f + 19) (p + ([32, 116, 104, 101, 110, 32, 98, 114, 101, 97, 107, 32, 101, 110, 100, 32, 112, 114, 105, 110, 116, 40, 105, 41, 32, 101, 110, 100, 32, 112, 114, 105, 110, 116, 40] : Bs).length) R := by
  intro f p R
  kernel_rfl
theorem s30_e : ∀ p, scA p [41] = [⟨40, p + 0, [], 0, 0⟩, ⟨0, p + 1, [], 0, 0⟩] := by
  intro p
  kernel_rfl
def s30_T (x L : Nat) : List Tok := [⟨11, 0 + 0, [102, 111, 114], 0, 0⟩, ⟨2, 0 + 4, [105], 0, 0⟩, ⟨38, 0 + 6, [], 0, 0⟩] ++ ([⟨3, 0 + 8, [], 4607182418800017408, 0⟩] ++ ([⟨45, 0 + 8 + 1 + 0, [], 0, 0⟩] ++ ([⟨3, 0 + 8 + 1 + 2, [], 4613937818241073152, 0⟩] ++ ([⟨6, 0 + 8 + 1 + 2 + 1 + 1, [100, 111], 0, 0⟩, ⟨13, 0 + 8 + 1 + 2 + 1 + 4, [105, 102], 0, 0⟩, ⟨2, 0 + 8 + 1 + 2 + 1 + 7, [105], 0, 0⟩, ⟨24, 0 + 8 + 1 + 2 + 1 + 9, [], 0, 0⟩] ++ ([⟨3, 0 + 8 + 1 + 2 + 1 + 12, [], 4611686018427387904, 0⟩] ++ ([⟨19, 0 + 8 + 1 + 2 + 1 + 12 + 1 + 1, [116, 104, 101, 110], 0, 0⟩, ⟨5, 0 + 8 + 1 + 2 + 1 + 12 + 1 + 6, [98, 114, 101, 97, 107], 0, 0⟩, ⟨9, 0 + 8 + 1 + 2 + 1 + 12 + 1 + 12, [101, 110, 100], 0, 0⟩, ⟨2, 0 + 8 + 1 + 2 + 1 + 12 + 1 + 16, [112, 114, 105, 110, 116], 0, 0⟩, ⟨39, 0 + 8 + 1 + 2 + 1 + 12 + 1 + 21, [], 0, 0⟩, ⟨2, 0 + 8 + 1 + 2 + 1 + 12 + 1 + 22, [105], 0, 0⟩, ⟨40, 0 + 8 + 1 + 2 + 1 + 12 + 1 + 23, [], 0, 0⟩, ⟨9, 0 + 8 + 1 + 2 + 1 + 12 + 1 + 25, [101, 110, 100], 0, 0⟩, ⟨2, 0 + 8 + 1 + 2 + 1 + 12 + 1 + 29, [112, 114, 105, 110, 116], 0, 0⟩, ⟨39, 0 + 8 + 1 + 2 + 1 + 12 + 1 + 34, [], 0, 0⟩] ++ ([⟨3, 0 + 8 + 1 + 2 + 1 + 12 + 1 + 35, [], x, 0⟩] ++ ([⟨40, 0 + 8 + 1 + 2 + 1 + 12 + 1 + 35 + L + 0, [], 0, 0⟩, ⟨0, 0 + 8 + 1 + 2 + 1 + 12 + 1 + 35 + L + 1, [], 0, 0⟩]))))))))
theorem s30_s {x : Nat} (hx : x < 9218868437227405312) : scanP (sayP 30 (fmtN x)).1 = s30_T x (fmtN x).length := by
  have e : (sayP 30 (fmtN x)).1 = [102, 111, 114, 32, 105, 32, 61, 32] ++ ([49] ++ ([44, 32] ++ ([51] ++ ([32, 100, 111, 32, 105, 102, 32, 105, 32, 61, 61, 32] ++ ([50] ++ ([32, 116, 104, 101, 110, 32, 98, 114, 101, 97, 107, 32, 101, 110, 100, 32, 112, 114, 105, 110, 116, 40, 105, 41, 32, 101, 110, 100, 32, 112, 114, 105, 110, 116, 40] ++ (fmtN x ++ ([41])))))))) := by
    simp only [sayP, sy30, List.append_assoc, List.cons_append, List.nil_append]
  rw [scanP_eq, e]
  rw [scA_piece s30_p0]
  rw [scA_n1 _ rfl]
  rw [scA_piece s30_p1]
  rw [scA_n3 _ rfl]
  rw [scA_piece s30_p2]
  rw [scA_n2 _ rfl]
  rw [scA_piece s30_p3]
  rw [scA_fmt hx _ rfl]
  rw [s30_e]
  rfl
theorem s30_t (x L : Nat) : treeT (s30_T x L) = treeS x (s30_T y0N L) := by kernel_rfl
theorem s30_n (L : Nat) : treeT (s30_T y0N L) ≠ none := by
  have h : (treeT (s30_T y0N L)).isSome = true := by kernel_rfl
  intro e
  rw [e] at h
  cases h
theorem s30_c {x : Nat} (L : Nat) (hx : x < 9218868437227405312) (h : x ∉ [4607182418800017408, 4613937818241073152, 4611686018427387904]) : ∀ q ∈ sayNums (s30_T y0N L), q ≠ x := by
  have e : (sayNums (s30_T y0N L)).all (fun q => [4607182418800017408, 4613937818241073152, 4611686018427387904, y0N].contains q) = true := by kernel_rfl
  exact nums_ne hx h e
theorem s30_r (F : Nat → Bs) (x L : Nat) : sayR F (s30_T y0N L) x 3 = some (1, 0, nilV, 0, ((([] : Bs) ++ F 4607182418800017408 ++ [10]) ++ F x ++ [10]), [((([] : Bs) ++ F 4607182418800017408 ++ [10]), 200), (((([] : Bs) ++ F 4607182418800017408 ++ [10]) ++ F x ++ [10]), 200)]) := by kernel_rfl
theorem s30_q (F : Nat → Bs) (x L : Nat) : sayR F (s30_T y0N L) x 2 = some (5, 9, nilV, 0, (([] : Bs) ++ F 4607182418800017408 ++ [10]), [((([] : Bs) ++ F 4607182418800017408 ++ [10]), 200)]) := by kernel_rfl
theorem say_30 {x : Nat} (hx : x < 9218868437227405312) : SayOk (sayP 30 (fmtN x)) := by
  by_cases hm : x ∈ [4607182418800017408, 4613937818241073152, 4611686018427387904]
  · simp only [List.mem_cons, List.not_mem_nil, or_false] at hm
    rcases hm with rfl | rfl | rfl
    all_goals exact say_closed (by kernel_rfl) (by decide) (by kernel_rfl) (by kernel_rfl)
  · have hl := fmt_len x (by omega)
    refine say_open (by simp [sayP, sy30]; omega) (Nat.le_of_ble_eq_true rfl) (s30_s hx) (s30_t x _) (s30_n _) (s30_c _ hx hm) (s30_r fmtN x _) (s30_q fmtN x _) ?_ ?_ ?_ ?_
    · simp [sayP, sy30, txt_one, txt_two, txt_three, int_two, int_three, fmt_neg hx]
    · simp [sayP, sy30, txt_one, txt_two, txt_three, int_two, int_three, fmt_neg hx]
    · exact log_ok (by simp only [List.mem_cons, List.not_mem_nil, or_false, forall_eq_or_imp, forall_eq, List.length_append, List.length_cons, List.length_nil, List.length_singleton, Int.cast_ofNat_Int, txt_one, txt_two, txt_three, int_two, int_three, fmt_neg hx]; omega)
    · exact log_ok (by simp only [List.mem_cons, List.not_mem_nil, or_false, forall_eq_or_imp, forall_eq, List.length_append, List.length_cons, List.length_nil, List.length_singleton, Int.cast_ofNat_Int, txt_one, txt_two, txt_three, int_two, int_three, fmt_neg hx]; omega)
theorem s31_p0 : ∀ f p R, scanN (f + ([102, 111, 114, 32, 107, 44, 32, 118, 32, 105, 110, 32, 123] : Bs).length) p ([102, 111, 114, 32, 107, 44, 32, 118, 32, 105, 110, 32, 123] ++ R) = [⟨11, p + 0, [102, 111, 114], 0, 0⟩, ⟨2, p + 4, [107], 0, 0⟩, ⟨45, p + 5, [], 0, 0⟩, ⟨2, p + 7, [118], 0, 0⟩, ⟨14, p + 9, [105, 110], 0, 0⟩, ⟨41, p + 12, [], 0, 0⟩] ++ scanN (f + 3) (p + ([102, 111, 114, 32, 107, 44, 32, 118, 32, 105, 110, 32, 123] : Bs).length) R := by
  intro f p R
  kernel_rfl
theorem s31_p1 : ∀ f p R, scanN (f + ([44, 32] : Bs).length) p ([44, 32] ++ R) = [⟨45, p + 0, [], 0, 0⟩] ++ scanN (f + 0) (p + ([44, 32] : Bs).length) R := by
  intro f p R
  kernel_rfl
theorem s31_p2 : ∀ f p R, scanN (f + ([44, 32] : Bs).length) p ([44, 32] ++ R) = [⟨45, p + 0, [], 0, 0⟩] ++ scanN (f + 0) (p + ([44, 32] : Bs).length) R := by
  intro f p R
  kernel_rfl
theorem s31_p3 : ∀ f p R, scanN (f + ([125, 32, 100, 111, 32, 105, 102, 32, 107, 32, 61, 61, 32] : Bs).length) p ([125, 32, 100, 111, 32, 105, 102, 32, 107, 32, 61, 61, 32] ++ R) = [⟨42, p + 0, [], 0, 0⟩, ⟨6, p + 2, [100, 111], 0, 0⟩, ⟨13, p + 5, [105, 102], 0, 0⟩, ⟨2, p + 8, [107], 0, 0⟩, ⟨24, p + 10, [], 0, 0⟩] ++ scanN (f + 3) (p + ([125, 32, 100, 111, 32, 105, 102, 32, 107, 32, 61, 61, 32] : Bs).length) R := by
  intro f p R
  kernel_rfl
theorem s31_p4 : ∀ f p R, scanN (f + ([32, 116, 104, 101, 110, 32, 98, 114, 101, 97, 107, 32, 101, 110, 100, 32, 112, 114, 105, 110, 116, 40, 118, 41, 32, 101, 110, 100, 32, 112, 114, 105, 110, 116, 40] : Bs).length) p ([32, 116, 104, 101, 110, 32, 98, 114, 101, 97, 107, 32, 101, 110, 100, 32, 112, 114, 105, 110, 116, 40, 118, 41, 32, 101, 110, 100, 32, 112, 114, 105, 110, 116, 40] ++ R) = [⟨19, p + 1, [116, 104, 101, 110], 0, 0⟩, ⟨5, p + 6, [98, 114, 101, 97, 107], 0, 0⟩, ⟨9, p + 12, [101, 110, 100], 0, 0⟩, ⟨2, p + 16, [112, 114, 105, 110, 116], 0, 0⟩, ⟨39, p + 21, [], 0, 0⟩, ⟨2, p + 22, [118], 0, 0⟩, ⟨40, p + 23, [], 0, 0⟩, ⟨9, p + 25, [101, 110, 100], 0, 0⟩, ⟨2, p + 29, [112, 114, 105, 110, 116], 0, 0⟩, ⟨39, p + 34, [], 0, 0⟩] ++ scanN (f + 19) (p + ([32, 116, 104, 101, 110, 32, 98, 114, 101, 97, 107, 32, 101, 110, 100, 32, 112, 114, 105, 110, 116, 40, 118, 41, 32, 101, 110, 100, 32, 112, 114, 105, 110, 116, 40] : Bs).length) R := by
  intro f p R
  kernel_rfl
theorem s31_e : ∀ p, scA p [41] = [⟨40, p + 0, [], 0, 0⟩, ⟨0, p + 1, [], 0, 0⟩] := by
  intro p
  kernel_rfl
def s31_T (x L : Nat) : List Tok := [⟨11, 0 + 0, [102, 111, 114], 0, 0⟩, ⟨2, 0 + 4, [107], 0, 0⟩, ⟨45, 0 + 5, [], 0, 0⟩, ⟨2, 0 + 7, [118], 0, 0⟩, ⟨14, 0 + 9, [105, 110], 0, 0⟩, ⟨41, 0 + 12, [], 0, 0⟩] ++ ([⟨3, 0 + 13, [], 4607182418800017408, 0⟩] ++ ([⟨45, 0 + 13 + 1 + 0, [], 0, 0⟩] ++ ([⟨3, 0 + 13 + 1 + 2, [], 4611686018427387904, 0⟩] ++ ([⟨45, 0 + 13 + 1 + 2 + 1 + 0, [], 0, 0⟩] ++ ([⟨3, 0 + 13 + 1 + 2 + 1 + 2, [], 4613937818241073152, 0⟩] ++ ([⟨42, 0 + 13 + 1 + 2 + 1 + 2 + 1 + 0, [], 0, 0⟩, ⟨6, 0 + 13 + 1 + 2 + 1 + 2 + 1 + 2, [100, 111], 0, 0⟩, ⟨13, 0 + 13 + 1 + 2 + 1 + 2 + 1 + 5, [105, 102], 0, 0⟩, ⟨2, 0 + 13 + 1 + 2 + 1 + 2 + 1 + 8, [107], 0, 0⟩, ⟨24, 0 + 13 + 1 + 2 + 1 + 2 + 1 + 10, [], 0, 0⟩] ++ ([⟨3, 0 + 13 + 1 + 2 + 1 + 2 + 1 + 13, [], 4611686018427387904, 0⟩] ++ ([⟨19, 0 + 13 + 1 + 2 + 1 + 2 + 1 + 13 + 1 + 1, [116, 104, 101, 110], 0, 0⟩, ⟨5, 0 + 13 + 1 + 2 + 1 + 2 + 1 + 13 + 1 + 6, [98, 114, 101, 97, 107], 0, 0⟩, ⟨9, 0 + 13 + 1 + 2 + 1 + 2 + 1 + 13 + 1 + 12, [101, 110, 100], 0, 0⟩, ⟨2, 0 + 13 + 1 + 2 + 1 + 2 + 1 + 13 + 1 + 16, [112, 114, 105, 110, 116], 0, 0⟩, ⟨39, 0 + 13 + 1 + 2 + 1 + 2 + 1 + 13 + 1 + 21, [], 0, 0⟩, ⟨2, 0 + 13 + 1 + 2 + 1 + 2 + 1 + 13 + 1 + 22, [118], 0, 0⟩, ⟨40, 0 + 13 + 1 + 2 + 1 + 2 + 1 + 13 + 1 + 23, [], 0, 0⟩, ⟨9, 0 + 13 + 1 + 2 + 1 + 2 + 1 + 13 + 1 + 25, [101, 110, 100], 0, 0⟩, ⟨2, 0 + 13 + 1 + 2 + 1 + 2 + 1 + 13 + 1 + 29, [112, 114, 105, 110, 116], 0, 0⟩, ⟨39, 0 + 13 + 1 + 2 + 1 + 2 + 1 + 13 + 1 + 34, [], 0, 0⟩] ++ ([⟨3, 0 + 13 + 1 + 2 + 1 + 2 + 1 + 13 + 1 + 35, [], x, 0⟩] ++ ([⟨40, 0 + 13 + 1 + 2 + 1 + 2 + 1 + 13 + 1 + 35 + L + 0, [], 0, 0⟩, ⟨0, 0 + 13 + 1 + 2 + 1 + 2 + 1 + 13 + 1 + 35 + L + 1, [], 0, 0⟩]))))))))))
theorem s31_s {x : Nat} (hx : x < 9218868437227405312) : scanP (sayP 31 (fmtN x)).1 = s31_T x (fmtN x).length := by
  have e : (sayP 31 (fmtN x)).1 = [102, 111, 114, 32, 107, 44, 32, 118, 32, 105, 110, 32, 123] ++ ([49] ++ ([44, 32] ++ ([50] ++ ([44, 32] ++ ([51] ++ ([125, 32, 100, 111, 32, 105, 102, 32, 107, 32, 61, 61, 32] ++ ([50] ++ ([32, 116, 104, 101, 110, 32, 98, 114, 101, 97, 107, 32, 101, 110, 100, 32, 112, 114, 105, 110, 116, 40, 118, 41, 32, 101, 110, 100, 32, 112, 114, 105, 110, 116, 40] ++ (fmtN x ++ ([41])))))))))) := by
    simp only [sayP, sy31, List.append_assoc, List.cons_append, List.nil_append]
  rw [scanP_eq, e]
  rw [scA_piece s31_p0]
  rw [scA_n1 _ rfl]
  rw [scA_piece s31_p1]
  rw [scA_n2 _ rfl]
  rw [scA_piece s31_p2]
  rw [scA_n3 _ rfl]
  rw [scA_piece s31_p3]
  rw [scA_n2 _ rfl]
  rw [scA_piece s31_p4]
  rw [scA_fmt hx _ rfl]
  rw [s31_e]
  rfl
theorem s31_t (x L : Nat) : treeT (s31_T x L) = treeS x (s31_T y0N L) := by kernel_rfl
theorem s31_n (L : Nat) : treeT (s31_T y0N L) ≠ none := by
  have h : (treeT (s31_T y0N L)).isSome = true := by kernel_rfl
  intro e
  rw [e] at h
  cases h
theorem s31_c {x : Nat} (L : Nat) (hx : x < 9218868437227405312) (h : x ∉ [4607182418800017408, 4611686018427387904, 4613937818241073152]) : ∀ q ∈ sayNums (s31_T y0N L), q ≠ x := by
  have e : (sayNums (s31_T y0N L)).all (fun q => [4607182418800017408, 4611686018427387904, 4613937818241073152, y0N].contains q) = true := by kernel_rfl
  exact nums_ne hx h e
theorem s31_r (F : Nat → Bs) (x L : Nat) : sayR F (s31_T y0N L) x 3 = some (1, 0, nilV, 0, ((([] : Bs) ++ F 4607182418800017408 ++ [10]) ++ F x ++ [10]), [((([] : Bs) ++ F 4607182418800017408 ++ [10]), 200), (((([] : Bs) ++ F 4607182418800017408 ++ [10]) ++ F x ++ [10]), 200)]) := by kernel_rfl
theorem s31_q (F : Nat → Bs) (x L : Nat) : sayR F (s31_T y0N L) x 2 = some (5, 9, nilV, 0, (([] : Bs) ++ F 4607182418800017408 ++ [10]), [((([] : Bs) ++ F 4607182418800017408 ++ [10]), 200)]) := by kernel_rfl
theorem say_31 {x : Nat} (hx : x < 9218868437227405312) : SayOk (sayP 31 (fmtN x)) := by
  by_cases hm : x ∈ [4607182418800017408, 4611686018427387904, 4613937818241073152]
  · simp only [List.mem_cons, List.not_mem_nil, or_false] at hm
    rcases hm with rfl | rfl | rfl
    all_goals exact say_closed (by kernel_rfl) (by decide) (by kernel_rfl) (by kernel_rfl)
  · have hl := fmt_len x (by omega)
    refine say_open (by simp [sayP, sy31]; omega) (Nat.le_of_ble_eq_true rfl) (s31_s hx) (s31_t x _) (s31_n _) (s31_c _ hx hm) (s31_r fmtN x _) (s31_q fmtN x _) ?_ ?_ ?_ ?_
    · simp [sayP, sy31, txt_one, txt_two, txt_three, int_two, int_three, fmt_neg hx]
    · simp [sayP, sy31, txt_one, txt_two, txt_three, int_two, int_three, fmt_neg hx]
    · exact log_ok (by simp only [List.mem_cons, List.not_mem_nil, or_false, forall_eq_or_imp, forall_eq, List.length_append, List.length_cons, List.length_nil, List.length_singleton, Int.cast_ofNat_Int, txt_one, txt_two, txt_three, int_two, int_three, fmt_neg hx]; omega)
    · exact log_ok (by simp only [List.mem_cons, List.not_mem_nil, or_false, forall_eq_or_imp, forall_eq, List.length_append, List.length_cons, List.length_nil, List.length_singleton, Int.cast_ofNat_Int, txt_one, txt_two, txt_three, int_two, int_three, fmt_neg hx]; omega)
end
end Go.Proofs.Qxb6500574aGreatDoor
