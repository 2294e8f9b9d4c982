/-
  moon: THE SAYINGS 1, 2, 3, 4, 5, 8 (written by tools/gen_say.py). Plain; no memory, no walk.
-/
import Derived.Test.Qxb6500574aGreatDoorWSy3
namespace Go.Proofs.Qxb6500574aGreatDoor
set_option linter.unusedVariables false
set_option linter.unusedSimpArgs false
section
set_option maxRecDepth 100000
theorem s1_p0 : ∀ f p R, scanN (f + ([112, 114, 105, 110, 116, 40] : Bs).length) p ([112, 114, 105, 110, 116, 40] ++ R) = [⟨2, p + 0, [112, 114, 105, 110, 116], 0, 0⟩, ⟨39, p + 5, [], 0, 0⟩] ++ scanN (f + 4) (p + ([112, 114, 105, 110, 116, 40] : Bs).length) R := by
  intro f p R
  kernel_rfl
theorem s1_e : ∀ p, scA p [41] = [⟨40, p + 0, [], 0, 0⟩, ⟨0, p + 1, [], 0, 0⟩] := by
  intro p
  kernel_rfl
def s1_T (x L : Nat) : List Tok := [⟨2, 0 + 0, [112, 114, 105, 110, 116], 0, 0⟩, ⟨39, 0 + 5, [], 0, 0⟩] ++ ([⟨3, 0 + 6, [], x, 0⟩] ++ ([⟨40, 0 + 6 + L + 0, [], 0, 0⟩, ⟨0, 0 + 6 + L + 1, [], 0, 0⟩]))
theorem s1_s {x : Nat} (hx : x < 9218868437227405312) : scanP (sayP 1 (fmtN x)).1 = s1_T x (fmtN x).length := by
  have e : (sayP 1 (fmtN x)).1 = [112, 114, 105, 110, 116, 40] ++ (fmtN x ++ ([41])) := by
    simp only [sayP, sy1, List.append_assoc, List.cons_append, List.nil_append]
  rw [scanP_eq, e]
  rw [scA_piece s1_p0]
  rw [scA_fmt hx _ rfl]
  rw [s1_e]
  rfl
theorem s1_t (x L : Nat) : treeT (s1_T x L) = treeS x (s1_T y0N L) := by kernel_rfl
theorem s1_n (L : Nat) : treeT (s1_T y0N L) ≠ none := by
  have h : (treeT (s1_T y0N L)).isSome = true := by kernel_rfl
  intro e
  rw [e] at h
  cases h
theorem s1_c {x : Nat} (L : Nat) (hx : x < 9218868437227405312) (h : x ∉ [4607182418800017408]) : ∀ q ∈ sayNums (s1_T y0N L), q ≠ x := by
  have e : (sayNums (s1_T y0N L)).all (fun q => [4607182418800017408, y0N].contains q) = true := by kernel_rfl
  exact nums_ne hx h e
theorem s1_r (F : Nat → Bs) (x L : Nat) : sayR F (s1_T y0N L) x 1 = some (1, 0, nilV, 0, (([] : Bs) ++ F x ++ [10]), [((([] : Bs) ++ F x ++ [10]), 200)]) := by kernel_rfl
theorem s1_q (F : Nat → Bs) (x L : Nat) : sayR F (s1_T y0N L) x 0 = some (5, 9, nilV, 0, ([] : Bs), []) := by kernel_rfl
theorem say_1 {x : Nat} (hx : x < 9218868437227405312) : SayOk (sayP 1 (fmtN x)) := by
  by_cases hm : x ∈ [4607182418800017408]
  · simp only [List.mem_cons, List.not_mem_nil, or_false] at hm
    rcases hm with rfl
    all_goals exact say_closed (by kernel_rfl) (by decide) (by kernel_rfl) (by kernel_rfl)
  · have hl := fmt_len x (by omega)
    refine say_open (by simp [sayP, sy1]; omega) (Nat.le_of_ble_eq_true rfl) (s1_s hx) (s1_t x _) (s1_n _) (s1_c _ hx hm) (s1_r fmtN x _) (s1_q fmtN x _) ?_ ?_ ?_ ?_
    · simp [sayP, sy1, txt_one, txt_two, txt_three, int_two, int_three, fmt_neg hx]
    · simp [sayP, sy1, txt_one, txt_two, txt_three, int_two, int_three, fmt_neg hx]
    · exact log_ok (by simp only [List.mem_cons, List.not_mem_nil, or_false, forall_eq_or_imp, forall_eq, List.length_append, List.length_cons, List.length_nil, List.length_singleton, Int.cast_ofNat_Int, txt_one, txt_two, txt_three, int_two, int_three, fmt_neg hx]; omega)
    · exact fun a ha => by cases ha
theorem s2_p0 : ∀ f p R, scanN (f + ([108, 111, 99, 97, 108, 32, 97, 32, 61, 32] : Bs).length) p ([108, 111, 99, 97, 108, 32, 97, 32, 61, 32] ++ R) = [⟨15, p + 0, [108, 111, 99, 97, 108], 0, 0⟩, ⟨2, p + 6, [97], 0, 0⟩, ⟨38, p + 8, [], 0, 0⟩] ++ scanN (f + 4) (p + ([108, 111, 99, 97, 108, 32, 97, 32, 61, 32] : Bs).length) R := by
  intro f p R
  kernel_rfl
theorem s2_e : ∀ p, scA p [32, 108, 111, 99, 97, 108, 32, 97, 32, 61, 32, 97, 32, 112, 114, 105, 110, 116, 40, 97, 41] = [⟨15, p + 1, [108, 111, 99, 97, 108], 0, 0⟩, ⟨2, p + 7, [97], 0, 0⟩, ⟨38, p + 9, [], 0, 0⟩, ⟨2, p + 11, [97], 0, 0⟩, ⟨2, p + 13, [112, 114, 105, 110, 116], 0, 0⟩, ⟨39, p + 18, [], 0, 0⟩, ⟨2, p + 19, [97], 0, 0⟩, ⟨40, p + 20, [], 0, 0⟩, ⟨0, p + 21, [], 0, 0⟩] := by
  intro p
  kernel_rfl
def s2_T (x L : Nat) : List Tok := [⟨15, 0 + 0, [108, 111, 99, 97, 108], 0, 0⟩, ⟨2, 0 + 6, [97], 0, 0⟩, ⟨38, 0 + 8, [], 0, 0⟩] ++ ([⟨3, 0 + 10, [], x, 0⟩] ++ ([⟨15, 0 + 10 + L + 1, [108, 111, 99, 97, 108], 0, 0⟩, ⟨2, 0 + 10 + L + 7, [97], 0, 0⟩, ⟨38, 0 + 10 + L + 9, [], 0, 0⟩, ⟨2, 0 + 10 + L + 11, [97], 0, 0⟩, ⟨2, 0 + 10 + L + 13, [112, 114, 105, 110, 116], 0, 0⟩, ⟨39, 0 + 10 + L + 18, [], 0, 0⟩, ⟨2, 0 + 10 + L + 19, [97], 0, 0⟩, ⟨40, 0 + 10 + L + 20, [], 0, 0⟩, ⟨0, 0 + 10 + L + 21, [], 0, 0⟩]))
theorem s2_s {x : Nat} (hx : x < 9218868437227405312) : scanP (sayP 2 (fmtN x)).1 = s2_T x (fmtN x).length := by
  have e : (sayP 2 (fmtN x)).1 = [108, 111, 99, 97, 108, 32, 97, 32, 61, 32] ++ (fmtN x ++ ([32, 108, 111, 99, 97, 108, 32, 97, 32, 61, 32, 97, 32, 112, 114, 105, 110, 116, 40, 97, 41])) := by
    simp only [sayP, sy2, List.append_assoc, List.cons_append, List.nil_append]
  rw [scanP_eq, e]
  rw [scA_piece s2_p0]
  rw [scA_fmt hx _ rfl]
  rw [s2_e]
  rfl
theorem s2_t (x L : Nat) : treeT (s2_T x L) = treeS x (s2_T y0N L) := by kernel_rfl
theorem s2_n (L : Nat) : treeT (s2_T y0N L) ≠ none := by
  have h : (treeT (s2_T y0N L)).isSome = true := by kernel_rfl
  intro e
  rw [e] at h
  cases h
theorem s2_c {x : Nat} (L : Nat) (hx : x < 9218868437227405312) (h : x ∉ [4607182418800017408]) : ∀ q ∈ sayNums (s2_T y0N L), q ≠ x := by
  have e : (sayNums (s2_T y0N L)).all (fun q => [4607182418800017408, y0N].contains q) = true := by kernel_rfl
  exact nums_ne hx h e
theorem s2_r (F : Nat → Bs) (x L : Nat) : sayR F (s2_T y0N L) x 1 = some (1, 0, nilV, 0, (([] : Bs) ++ F x ++ [10]), [((([] : Bs) ++ F x ++ [10]), 200)]) := by kernel_rfl
theorem s2_q (F : Nat → Bs) (x L : Nat) : sayR F (s2_T y0N L) x 0 = some (5, 9, nilV, 0, ([] : Bs), []) := by kernel_rfl
theorem say_2 {x : Nat} (hx : x < 9218868437227405312) : SayOk (sayP 2 (fmtN x)) := by
  by_cases hm : x ∈ [4607182418800017408]
  · simp only [List.mem_cons, List.not_mem_nil, or_false] at hm
    rcases hm with rfl
    all_goals exact say_closed (by kernel_rfl) (by decide) (by kernel_rfl) (by kernel_rfl)
  · have hl := fmt_len x (by omega)
    refine say_open (by simp [sayP, sy2]; omega) (Nat.le_of_ble_eq_true rfl) (s2_s hx) (s2_t x _) (s2_n _) (s2_c _ hx hm) (s2_r fmtN x _) (s2_q fmtN x _) ?_ ?_ ?_ ?_
    · simp [sayP, sy2, txt_one, txt_two, txt_three, int_two, int_three, fmt_neg hx]
    · simp [sayP, sy2, txt_one, txt_two, txt_three, int_two, int_three, fmt_neg hx]
    · exact log_ok (by simp only [List.mem_cons, List.not_mem_nil, or_false, forall_eq_or_imp, forall_eq, List.length_append, List.length_cons, List.length_nil, List.length_singleton, Int.cast_ofNat_Int, txt_one, txt_two, txt_three, int_two, int_three, fmt_neg hx]; omega)
    · exact fun a ha => by cases ha
theorem s3_p0 : ∀ f p R, scanN (f + ([108, 111, 99, 97, 108, 32, 97, 32, 61, 32] : Bs).length) p ([108, 111, 99, 97, 108, 32, 97, 32, 61, 32] ++ R) = [⟨15, p + 0, [108, 111, 99, 97, 108], 0, 0⟩, ⟨2, p + 6, [97], 0, 0⟩, ⟨38, p + 8, [], 0, 0⟩] ++ scanN (f + 4) (p + ([108, 111, 99, 97, 108, 32, 97, 32, 61, 32] : Bs).length) R := by
  intro f p R
  kernel_rfl
theorem s3_p1 : ∀ f p R, scanN (f + ([32, 108, 111, 99, 97, 108, 32, 97, 32, 61, 32] : Bs).length) p ([32, 108, 111, 99, 97, 108, 32, 97, 32, 61, 32] ++ R) = [⟨15, p + 1, [108, 111, 99, 97, 108], 0, 0⟩, ⟨2, p + 7, [97], 0, 0⟩, ⟨38, p + 9, [], 0, 0⟩] ++ scanN (f + 4) (p + ([32, 108, 111, 99, 97, 108, 32, 97, 32, 61, 32] : Bs).length) R := by
  intro f p R
  kernel_rfl
theorem s3_e : ∀ p, scA p [32, 112, 114, 105, 110, 116, 40, 97, 41] = [⟨2, p + 1, [112, 114, 105, 110, 116], 0, 0⟩, ⟨39, p + 6, [], 0, 0⟩, ⟨2, p + 7, [97], 0, 0⟩, ⟨40, p + 8, [], 0, 0⟩, ⟨0, p + 9, [], 0, 0⟩] := by
  intro p
  kernel_rfl
def s3_T (x L : Nat) : List Tok := [⟨15, 0 + 0, [108, 111, 99, 97, 108], 0, 0⟩, ⟨2, 0 + 6, [97], 0, 0⟩, ⟨38, 0 + 8, [], 0, 0⟩] ++ ([⟨3, 0 + 10, [], 0, 0⟩] ++ ([⟨15, 0 + 10 + 1 + 1, [108, 111, 99, 97, 108], 0, 0⟩, ⟨2, 0 + 10 + 1 + 7, [97], 0, 0⟩, ⟨38, 0 + 10 + 1 + 9, [], 0, 0⟩] ++ ([⟨3, 0 + 10 + 1 + 11, [], x, 0⟩] ++ ([⟨2, 0 + 10 + 1 + 11 + L + 1, [112, 114, 105, 110, 116], 0, 0⟩, ⟨39, 0 + 10 + 1 + 11 + L + 6, [], 0, 0⟩, ⟨2, 0 + 10 + 1 + 11 + L + 7, [97], 0, 0⟩, ⟨40, 0 + 10 + 1 + 11 + L + 8, [], 0, 0⟩, ⟨0, 0 + 10 + 1 + 11 + L + 9, [], 0, 0⟩]))))
theorem s3_s {x : Nat} (hx : x < 9218868437227405312) : scanP (sayP 3 (fmtN x)).1 = s3_T x (fmtN x).length := by
  have e : (sayP 3 (fmtN x)).1 = [108, 111, 99, 97, 108, 32, 97, 32, 61, 32] ++ ([48] ++ ([32, 108, 111, 99, 97, 108, 32, 97, 32, 61, 32] ++ (fmtN x ++ ([32, 112, 114, 105, 110, 116, 40, 97, 41])))) := by
    simp only [sayP, sy3, List.append_assoc, List.cons_append, List.nil_append]
  rw [scanP_eq, e]
  rw [scA_piece s3_p0]
  rw [scA_n0 _ rfl]
  rw [scA_piece s3_p1]
  rw [scA_fmt hx _ rfl]
  rw [s3_e]
  rfl
theorem s3_t (x L : Nat) : treeT (s3_T x L) = treeS x (s3_T y0N L) := by kernel_rfl
theorem s3_n (L : Nat) : treeT (s3_T y0N L) ≠ none := by
  have h : (treeT (s3_T y0N L)).isSome = true := by kernel_rfl
  intro e
  rw [e] at h
  cases h
theorem s3_c {x : Nat} (L : Nat) (hx : x < 9218868437227405312) (h : x ∉ [0, 4607182418800017408]) : ∀ q ∈ sayNums (s3_T y0N L), q ≠ x := by
  have e : (sayNums (s3_T y0N L)).all (fun q => [0, 4607182418800017408, y0N].contains q) = true := by kernel_rfl
  exact nums_ne hx h e
theorem s3_r (F : Nat → Bs) (x L : Nat) : sayR F (s3_T y0N L) x 1 = some (1, 0, nilV, 0, (([] : Bs) ++ F x ++ [10]), [((([] : Bs) ++ F x ++ [10]), 200)]) := by kernel_rfl
theorem s3_q (F : Nat → Bs) (x L : Nat) : sayR F (s3_T y0N L) x 0 = some (5, 9, nilV, 0, ([] : Bs), []) := by kernel_rfl
theorem say_3 {x : Nat} (hx : x < 9218868437227405312) : SayOk (sayP 3 (fmtN x)) := by
  by_cases hm : x ∈ [0, 4607182418800017408]
  · simp only [List.mem_cons, List.not_mem_nil, or_false] at hm
    rcases hm with rfl | rfl
    all_goals exact say_closed (by kernel_rfl) (by decide) (by kernel_rfl) (by kernel_rfl)
  · have hl := fmt_len x (by omega)
    refine say_open (by simp [sayP, sy3]; omega) (Nat.le_of_ble_eq_true rfl) (s3_s hx) (s3_t x _) (s3_n _) (s3_c _ hx hm) (s3_r fmtN x _) (s3_q fmtN x _) ?_ ?_ ?_ ?_
    · simp [sayP, sy3, txt_one, txt_two, txt_three, int_two, int_three, fmt_neg hx]
    · simp [sayP, sy3, txt_one, txt_two, txt_three, int_two, int_three, fmt_neg hx]
    · exact log_ok (by simp only [List.mem_cons, List.not_mem_nil, or_false, forall_eq_or_imp, forall_eq, List.length_append, List.length_cons, List.length_nil, List.length_singleton, Int.cast_ofNat_Int, txt_one, txt_two, txt_three, int_two, int_three, fmt_neg hx]; omega)
    · exact fun a ha => by cases ha
theorem s4_p0 : ∀ f p R, scanN (f + ([108, 111, 99, 97, 108, 32, 97, 32, 61, 32] : Bs).length) p ([108, 111, 99, 97, 108, 32, 97, 32, 61, 32] ++ R) = [⟨15, p + 0, [108, 111, 99, 97, 108], 0, 0⟩, ⟨2, p + 6, [97], 0, 0⟩, ⟨38, p + 8, [], 0, 0⟩] ++ scanN (f + 4) (p + ([108, 111, 99, 97, 108, 32, 97, 32, 61, 32] : Bs).length) R := by
  intro f p R
  kernel_rfl
theorem s4_p1 : ∀ f p R, scanN (f + ([32, 105, 102, 32, 116, 114, 117, 101, 32, 116, 104, 101, 110, 32, 108, 111, 99, 97, 108, 32, 97, 32, 61, 32] : Bs).length) p ([32, 105, 102, 32, 116, 114, 117, 101, 32, 116, 104, 101, 110, 32, 108, 111, 99, 97, 108, 32, 97, 32, 61, 32] ++ R) = [⟨13, p + 1, [105, 102], 0, 0⟩, ⟨20, p + 4, [116, 114, 117, 101], 0, 0⟩, ⟨19, p + 9, [116, 104, 101, 110], 0, 0⟩, ⟨15, p + 14, [108, 111, 99, 97, 108], 0, 0⟩, ⟨2, p + 20, [97], 0, 0⟩, ⟨38, p + 22, [], 0, 0⟩] ++ scanN (f + 11) (p + ([32, 105, 102, 32, 116, 114, 117, 101, 32, 116, 104, 101, 110, 32, 108, 111, 99, 97, 108, 32, 97, 32, 61, 32] : Bs).length) R := by
  intro f p R
  kernel_rfl
theorem s4_e : ∀ p, scA p [32, 101, 110, 100, 32, 112, 114, 105, 110, 116, 40, 97, 32, 46, 46, 32, 34, 34, 41] = [⟨9, p + 1, [101, 110, 100], 0, 0⟩, ⟨2, p + 5, [112, 114, 105, 110, 116], 0, 0⟩, ⟨39, p + 10, [], 0, 0⟩, ⟨2, p + 11, [97], 0, 0⟩, ⟨30, p + 13, [], 0, 0⟩, ⟨4, p + 16, [], 0, 0⟩, ⟨40, p + 18, [], 0, 0⟩, ⟨0, p + 19, [], 0, 0⟩] := by
  intro p
  kernel_rfl
def s4_T (x L : Nat) : List Tok := [⟨15, 0 + 0, [108, 111, 99, 97, 108], 0, 0⟩, ⟨2, 0 + 6, [97], 0, 0⟩, ⟨38, 0 + 8, [], 0, 0⟩] ++ ([⟨3, 0 + 10, [], x, 0⟩] ++ ([⟨13, 0 + 10 + L + 1, [105, 102], 0, 0⟩, ⟨20, 0 + 10 + L + 4, [116, 114, 117, 101], 0, 0⟩, ⟨19, 0 + 10 + L + 9, [116, 104, 101, 110], 0, 0⟩, ⟨15, 0 + 10 + L + 14, [108, 111, 99, 97, 108], 0, 0⟩, ⟨2, 0 + 10 + L + 20, [97], 0, 0⟩, ⟨38, 0 + 10 + L + 22, [], 0, 0⟩] ++ ([⟨3, 0 + 10 + L + 24, [], 0, 0⟩] ++ ([⟨9, 0 + 10 + L + 24 + 1 + 1, [101, 110, 100], 0, 0⟩, ⟨2, 0 + 10 + L + 24 + 1 + 5, [112, 114, 105, 110, 116], 0, 0⟩, ⟨39, 0 + 10 + L + 24 + 1 + 10, [], 0, 0⟩, ⟨2, 0 + 10 + L + 24 + 1 + 11, [97], 0, 0⟩, ⟨30, 0 + 10 + L + 24 + 1 + 13, [], 0, 0⟩, ⟨4, 0 + 10 + L + 24 + 1 + 16, [], 0, 0⟩, ⟨40, 0 + 10 + L + 24 + 1 + 18, [], 0, 0⟩, ⟨0, 0 + 10 + L + 24 + 1 + 19, [], 0, 0⟩]))))
theorem s4_s {x : Nat} (hx : x < 9218868437227405312) : scanP (sayP 4 (fmtN x)).1 = s4_T x (fmtN x).length := by
  have e : (sayP 4 (fmtN x)).1 = [108, 111, 99, 97, 108, 32, 97, 32, 61, 32] ++ (fmtN x ++ ([32, 105, 102, 32, 116, 114, 117, 101, 32, 116, 104, 101, 110, 32, 108, 111, 99, 97, 108, 32, 97, 32, 61, 32] ++ ([48] ++ ([32, 101, 110, 100, 32, 112, 114, 105, 110, 116, 40, 97, 32, 46, 46, 32, 34, 34, 41])))) := by
    simp only [sayP, sy4, List.append_assoc, List.cons_append, List.nil_append]
  rw [scanP_eq, e]
  rw [scA_piece s4_p0]
  rw [scA_fmt hx _ rfl]
  rw [scA_piece s4_p1]
  rw [scA_n0 _ rfl]
  rw [s4_e]
  rfl
theorem s4_t (x L : Nat) : treeT (s4_T x L) = treeS x (s4_T y0N L) := by kernel_rfl
theorem s4_n (L : Nat) : treeT (s4_T y0N L) ≠ none := by
  have h : (treeT (s4_T y0N L)).isSome = true := by kernel_rfl
  intro e
  rw [e] at h
  cases h
theorem s4_c {x : Nat} (L : Nat) (hx : x < 9218868437227405312) (h : x ∉ [0, 4607182418800017408]) : ∀ q ∈ sayNums (s4_T y0N L), q ≠ x := by
  have e : (sayNums (s4_T y0N L)).all (fun q => [0, 4607182418800017408, y0N].contains q) = true := by kernel_rfl
  exact nums_ne hx h e
theorem s4_r (F : Nat → Bs) (x L : Nat) : sayR F (s4_T y0N L) x 1 = some (1, 0, nilV, 0, (([] : Bs) ++ (F x ++ []) ++ [10]), [((F x ++ []), 40), ((([] : Bs) ++ (F x ++ []) ++ [10]), 200)]) := by kernel_rfl
theorem s4_q (F : Nat → Bs) (x L : Nat) : sayR F (s4_T y0N L) x 0 = some (5, 9, nilV, 0, ([] : Bs), [((F x ++ []), 40)]) := by kernel_rfl
theorem say_4 {x : Nat} (hx : x < 9218868437227405312) : SayOk (sayP 4 (fmtN x)) := by
  by_cases hm : x ∈ [0, 4607182418800017408]
  · simp only [List.mem_cons, List.not_mem_nil, or_false] at hm
    rcases hm with rfl | rfl
    all_goals exact say_closed (by kernel_rfl) (by decide) (by kernel_rfl) (by kernel_rfl)
  · have hl := fmt_len x (by omega)
    refine say_open (by simp [sayP, sy4]; omega) (Nat.le_of_ble_eq_true rfl) (s4_s hx) (s4_t x _) (s4_n _) (s4_c _ hx hm) (s4_r fmtN x _) (s4_q fmtN x _) ?_ ?_ ?_ ?_
    · simp [sayP, sy4, txt_one, txt_two, txt_three, int_two, int_three, fmt_neg hx]
    · simp [sayP, sy4, txt_one, txt_two, txt_three, int_two, int_three, fmt_neg hx]
    · exact log_ok (by simp only [List.mem_cons, List.not_mem_nil, or_false, forall_eq_or_imp, forall_eq, List.length_append, List.length_cons, List.length_nil, List.length_singleton, Int.cast_ofNat_Int, txt_one, txt_two, txt_three, int_two, int_three, fmt_neg hx]; omega)
    · exact log_ok (by simp only [List.mem_cons, List.not_mem_nil, or_false, forall_eq_or_imp, forall_eq, List.length_append, List.length_cons, List.length_nil, List.length_singleton, Int.cast_ofNat_Int, txt_one, txt_two, txt_three, int_two, int_three, fmt_neg hx]; omega)
theorem s5_p0 : ∀ f p R, scanN (f + ([108, 111, 99, 97, 108, 32, 103, 32, 105, 102, 32, 116, 114, 117, 101, 32, 116, 104, 101, 110, 32, 108, 111, 99, 97, 108, 32, 120, 32, 61, 32] : Bs).length) p ([108, 111, 99, 97, 108, 32, 103, 32, 105, 102, 32, 116, 114, 117, 101, 32, 116, 104, 101, 110, 32, 108, 111, 99, 97, 108, 32, 120, 32, 61, 32] ++ R) = [⟨15, p + 0, [108, 111, 99, 97, 108], 0, 0⟩, ⟨2, p + 6, [103], 0, 0⟩, ⟨13, p + 8, [105, 102], 0, 0⟩, ⟨20, p + 11, [116, 114, 117, 101], 0, 0⟩, ⟨19, p + 16, [116, 104, 101, 110], 0, 0⟩, ⟨15, p + 21, [108, 111, 99, 97, 108], 0, 0⟩, ⟨2, p + 27, [120], 0, 0⟩, ⟨38, p + 29, [], 0, 0⟩] ++ scanN (f + 15) (p + ([108, 111, 99, 97, 108, 32, 103, 32, 105, 102, 32, 116, 114, 117, 101, 32, 116, 104, 101, 110, 32, 108, 111, 99, 97, 108, 32, 120, 32, 61, 32] : Bs).length) R := by
  intro f p R
  kernel_rfl
theorem s5_p1 : ∀ f p R, scanN (f + ([32, 103, 32, 61, 32, 102, 117, 110, 99, 116, 105, 111, 110, 40, 41, 32, 114, 101, 116, 117, 114, 110, 32, 120, 32, 101, 110, 100, 32, 101, 110, 100, 32, 108, 111, 99, 97, 108, 32, 121, 32] : Bs).length) p ([32, 103, 32, 61, 32, 102, 117, 110, 99, 116, 105, 111, 110, 40, 41, 32, 114, 101, 116, 117, 114, 110, 32, 120, 32, 101, 110, 100, 32, 101, 110, 100, 32, 108, 111, 99, 97, 108, 32, 121, 32] ++ R) = [⟨2, p + 1, [103], 0, 0⟩, ⟨38, p + 3, [], 0, 0⟩, ⟨12, p + 5, [102, 117, 110, 99, 116, 105, 111, 110], 0, 0⟩, ⟨39, p + 13, [], 0, 0⟩, ⟨40, p + 14, [], 0, 0⟩, ⟨18, p + 16, [114, 101, 116, 117, 114, 110], 0, 0⟩, ⟨2, p + 23, [120], 0, 0⟩, ⟨9, p + 25, [101, 110, 100], 0, 0⟩, ⟨9, p + 29, [101, 110, 100], 0, 0⟩, ⟨15, p + 33, [108, 111, 99, 97, 108], 0, 0⟩, ⟨2, p + 39, [121], 0, 0⟩] ++ scanN (f + 20) (p + ([32, 103, 32, 61, 32, 102, 117, 110, 99, 116, 105, 111, 110, 40, 41, 32, 114, 101, 116, 117, 114, 110, 32, 120, 32, 101, 110, 100, 32, 101, 110, 100, 32, 108, 111, 99, 97, 108, 32, 121, 32] : Bs).length) R := by
  intro f p R
  kernel_rfl
theorem s5_p2 : ∀ f p R, scanN (f + ([61, 32] : Bs).length) p ([61, 32] ++ R) = [⟨38, p + 0, [], 0, 0⟩] ++ scanN (f + 0) (p + ([61, 32] : Bs).length) R := by
  intro f p R
  kernel_rfl
theorem s5_e : ∀ p, scA p [32, 112, 114, 105, 110, 116, 40, 103, 40, 41, 41] = [⟨2, p + 1, [112, 114, 105, 110, 116], 0, 0⟩, ⟨39, p + 6, [], 0, 0⟩, ⟨2, p + 7, [103], 0, 0⟩, ⟨39, p + 8, [], 0, 0⟩, ⟨40, p + 9, [], 0, 0⟩, ⟨40, p + 10, [], 0, 0⟩, ⟨0, p + 11, [], 0, 0⟩] := by
  intro p
  kernel_rfl
def s5_T (x L : Nat) : List Tok := [⟨15, 0 + 0, [108, 111, 99, 97, 108], 0, 0⟩, ⟨2, 0 + 6, [103], 0, 0⟩, ⟨13, 0 + 8, [105, 102], 0, 0⟩, ⟨20, 0 + 11, [116, 114, 117, 101], 0, 0⟩, ⟨19, 0 + 16, [116, 104, 101, 110], 0, 0⟩, ⟨15, 0 + 21, [108, 111, 99, 97, 108], 0, 0⟩, ⟨2, 0 + 27, [120], 0, 0⟩, ⟨38, 0 + 29, [], 0, 0⟩] ++ ([⟨3, 0 + 31, [], x, 0⟩] ++ ([⟨2, 0 + 31 + L + 1, [103], 0, 0⟩, ⟨38, 0 + 31 + L + 3, [], 0, 0⟩, ⟨12, 0 + 31 + L + 5, [102, 117, 110, 99, 116, 105, 111, 110], 0, 0⟩, ⟨39, 0 + 31 + L + 13, [], 0, 0⟩, ⟨40, 0 + 31 + L + 14, [], 0, 0⟩, ⟨18, 0 + 31 + L + 16, [114, 101, 116, 117, 114, 110], 0, 0⟩, ⟨2, 0 + 31 + L + 23, [120], 0, 0⟩, ⟨9, 0 + 31 + L + 25, [101, 110, 100], 0, 0⟩, ⟨9, 0 + 31 + L + 29, [101, 110, 100], 0, 0⟩, ⟨15, 0 + 31 + L + 33, [108, 111, 99, 97, 108], 0, 0⟩, ⟨2, 0 + 31 + L + 39, [121], 0, 0⟩] ++ ([⟨38, 0 + 31 + L + 41 + 0, [], 0, 0⟩] ++ ([⟨3, 0 + 31 + L + 41 + 2, [], 0, 0⟩] ++ ([⟨2, 0 + 31 + L + 41 + 2 + 1 + 1, [112, 114, 105, 110, 116], 0, 0⟩, ⟨39, 0 + 31 + L + 41 + 2 + 1 + 6, [], 0, 0⟩, ⟨2, 0 + 31 + L + 41 + 2 + 1 + 7, [103], 0, 0⟩, ⟨39, 0 + 31 + L + 41 + 2 + 1 + 8, [], 0, 0⟩, ⟨40, 0 + 31 + L + 41 + 2 + 1 + 9, [], 0, 0⟩, ⟨40, 0 + 31 + L + 41 + 2 + 1 + 10, [], 0, 0⟩, ⟨0, 0 + 31 + L + 41 + 2 + 1 + 11, [], 0, 0⟩])))))
theorem s5_s {x : Nat} (hx : x < 9218868437227405312) : scanP (sayP 5 (fmtN x)).1 = s5_T x (fmtN x).length := by
  have e : (sayP 5 (fmtN x)).1 = [108, 111, 99, 97, 108, 32, 103, 32, 105, 102, 32, 116, 114, 117, 101, 32, 116, 104, 101, 110, 32, 108, 111, 99, 97, 108, 32, 120, 32, 61, 32] ++ (fmtN x ++ ([32, 103, 32, 61, 32, 102, 117, 110, 99, 116, 105, 111, 110, 40, 41, 32, 114, 101, 116, 117, 114, 110, 32, 120, 32, 101, 110, 100, 32, 101, 110, 100, 32, 108, 111, 99, 97, 108, 32, 121, 32] ++ ([61, 32] ++ ([48] ++ ([32, 112, 114, 105, 110, 116, 40, 103, 40, 41, 41]))))) := by
    simp only [sayP, sy5, List.append_assoc, List.cons_append, List.nil_append]
  rw [scanP_eq, e]
  rw [scA_piece s5_p0]
  rw [scA_fmt hx _ rfl]
  rw [scA_piece s5_p1]
  rw [scA_piece s5_p2]
  rw [scA_n0 _ rfl]
  rw [s5_e]
  rfl
theorem s5_t (x L : Nat) : treeT (s5_T x L) = treeS x (s5_T y0N L) := by kernel_rfl
theorem s5_n (L : Nat) : treeT (s5_T y0N L) ≠ none := by
  have h : (treeT (s5_T y0N L)).isSome = true := by kernel_rfl
  intro e
  rw [e] at h
  cases h
theorem s5_c {x : Nat} (L : Nat) (hx : x < 9218868437227405312) (h : x ∉ [0, 4607182418800017408]) : ∀ q ∈ sayNums (s5_T y0N L), q ≠ x := by
  have e : (sayNums (s5_T y0N L)).all (fun q => [0, 4607182418800017408, y0N].contains q) = true := by kernel_rfl
  exact nums_ne hx h e
theorem s5_r (F : Nat → Bs) (x L : Nat) : sayR F (s5_T y0N L) x 2 = some (1, 0, nilV, 0, (([] : Bs) ++ F x ++ [10]), [((([] : Bs) ++ F x ++ [10]), 200)]) := by kernel_rfl
theorem s5_q (F : Nat → Bs) (x L : Nat) : sayR F (s5_T y0N L) x 1 = some (5, 9, nilV, 0, ([] : Bs), []) := by kernel_rfl
theorem say_5 {x : Nat} (hx : x < 9218868437227405312) : SayOk (sayP 5 (fmtN x)) := by
  by_cases hm : x ∈ [0, 4607182418800017408]
  · simp only [List.mem_cons, List.not_mem_nil, or_false] at hm
    rcases hm with rfl | rfl
    all_goals exact say_closed (by kernel_rfl) (by decide) (by kernel_rfl) (by kernel_rfl)
  · have hl := fmt_len x (by omega)
    refine say_open (by simp [sayP, sy5]; omega) (Nat.le_of_ble_eq_true rfl) (s5_s hx) (s5_t x _) (s5_n _) (s5_c _ hx hm) (s5_r fmtN x _) (s5_q fmtN x _) ?_ ?_ ?_ ?_
    · simp [sayP, sy5, txt_one, txt_two, txt_three, int_two, int_three, fmt_neg hx]
    · simp [sayP, sy5, txt_one, txt_two, txt_three, int_two, int_three, fmt_neg hx]
    · exact log_ok (by simp only [List.mem_cons, List.not_mem_nil, or_false, forall_eq_or_imp, forall_eq, List.length_append, List.length_cons, List.length_nil, List.length_singleton, Int.cast_ofNat_Int, txt_one, txt_two, txt_three, int_two, int_three, fmt_neg hx]; omega)
    · exact fun a ha => by cases ha
theorem s8_p0 : ∀ f p R, scanN (f + ([108, 111, 99, 97, 108, 32, 103, 32, 102, 111, 114, 32, 107, 44, 32, 118, 32, 105, 110, 32, 123] : Bs).length) p ([108, 111, 99, 97, 108, 32, 103, 32, 102, 111, 114, 32, 107, 44, 32, 118, 32, 105, 110, 32, 123] ++ R) = [⟨15, p + 0, [108, 111, 99, 97, 108], 0, 0⟩, ⟨2, p + 6, [103], 0, 0⟩, ⟨11, p + 8, [102, 111, 114], 0, 0⟩, ⟨2, p + 12, [107], 0, 0⟩, ⟨45, p + 13, [], 0, 0⟩, ⟨2, p + 15, [118], 0, 0⟩, ⟨14, p + 17, [105, 110], 0, 0⟩, ⟨41, p + 20, [], 0, 0⟩] ++ scanN (f + 7) (p + ([108, 111, 99, 97, 108, 32, 103, 32, 102, 111, 114, 32, 107, 44, 32, 118, 32, 105, 110, 32, 123] : Bs).length) R := by
  intro f p R
  kernel_rfl
theorem s8_p1 : ∀ f p R, scanN (f + ([44, 32] : Bs).length) p ([44, 32] ++ R) = [⟨45, p + 0, [], 0, 0⟩] ++ scanN (f + 0) (p + ([44, 32] : Bs).length) R := by
  intro f p R
  kernel_rfl
theorem s8_p2 : ∀ f p R, scanN (f + ([125, 32, 100, 111, 32, 103, 32, 61, 32, 103, 32, 111, 114, 32, 102, 117, 110, 99, 116, 105, 111, 110, 40, 41, 32, 114, 101, 116, 117, 114, 110, 32, 118, 32, 101, 110, 100, 32, 101, 110, 100, 32] : Bs).length) p ([125, 32, 100, 111, 32, 103, 32, 61, 32, 103, 32, 111, 114, 32, 102, 117, 110, 99, 116, 105, 111, 110, 40, 41, 32, 114, 101, 116, 117, 114, 110, 32, 118, 32, 101, 110, 100, 32, 101, 110, 100, 32] ++ R) = [⟨42, p + 0, [], 0, 0⟩, ⟨6, p + 2, [100, 111], 0, 0⟩, ⟨2, p + 5, [103], 0, 0⟩, ⟨38, p + 7, [], 0, 0⟩, ⟨2, p + 9, [103], 0, 0⟩, ⟨22, p + 11, [111, 114], 0, 0⟩, ⟨12, p + 14, [102, 117, 110, 99, 116, 105, 111, 110], 0, 0⟩, ⟨39, p + 22, [], 0, 0⟩, ⟨40, p + 23, [], 0, 0⟩, ⟨18, p + 25, [114, 101, 116, 117, 114, 110], 0, 0⟩, ⟨2, p + 32, [118], 0, 0⟩, ⟨9, p + 34, [101, 110, 100], 0, 0⟩, ⟨9, p + 38, [101, 110, 100], 0, 0⟩] ++ scanN (f + 18) (p + ([125, 32, 100, 111, 32, 103, 32, 61, 32, 103, 32, 111, 114, 32, 102, 117, 110, 99, 116, 105, 111, 110, 40, 41, 32, 114, 101, 116, 117, 114, 110, 32, 118, 32, 101, 110, 100, 32, 101, 110, 100, 32] : Bs).length) R := by
  intro f p R
  kernel_rfl
theorem s8_e : ∀ p, scA p [112, 114, 105, 110, 116, 40, 103, 40, 41, 41] = [⟨2, p + 0, [112, 114, 105, 110, 116], 0, 0⟩, ⟨39, p + 5, [], 0, 0⟩, ⟨2, p + 6, [103], 0, 0⟩, ⟨39, p + 7, [], 0, 0⟩, ⟨40, p + 8, [], 0, 0⟩, ⟨40, p + 9, [], 0, 0⟩, ⟨0, p + 10, [], 0, 0⟩] := by
  intro p
  kernel_rfl
def s8_T (x L : Nat) : List Tok := [⟨15, 0 + 0, [108, 111, 99, 97, 108], 0, 0⟩, ⟨2, 0 + 6, [103], 0, 0⟩, ⟨11, 0 + 8, [102, 111, 114], 0, 0⟩, ⟨2, 0 + 12, [107], 0, 0⟩, ⟨45, 0 + 13, [], 0, 0⟩, ⟨2, 0 + 15, [118], 0, 0⟩, ⟨14, 0 + 17, [105, 110], 0, 0⟩, ⟨41, 0 + 20, [], 0, 0⟩] ++ ([⟨3, 0 + 21, [], x, 0⟩] ++ ([⟨45, 0 + 21 + L + 0, [], 0, 0⟩] ++ ([⟨3, 0 + 21 + L + 2, [], 0, 0⟩] ++ ([⟨42, 0 + 21 + L + 2 + 1 + 0, [], 0, 0⟩, ⟨6, 0 + 21 + L + 2 + 1 + 2, [100, 111], 0, 0⟩, ⟨2, 0 + 21 + L + 2 + 1 + 5, [103], 0, 0⟩, ⟨38, 0 + 21 + L + 2 + 1 + 7, [], 0, 0⟩, ⟨2, 0 + 21 + L + 2 + 1 + 9, [103], 0, 0⟩, ⟨22, 0 + 21 + L + 2 + 1 + 11, [111, 114], 0, 0⟩, ⟨12, 0 + 21 + L + 2 + 1 + 14, [102, 117, 110, 99, 116, 105, 111, 110], 0, 0⟩, ⟨39, 0 + 21 + L + 2 + 1 + 22, [], 0, 0⟩, ⟨40, 0 + 21 + L + 2 + 1 + 23, [], 0, 0⟩, ⟨18, 0 + 21 + L + 2 + 1 + 25, [114, 101, 116, 117, 114, 110], 0, 0⟩, ⟨2, 0 + 21 + L + 2 + 1 + 32, [118], 0, 0⟩, ⟨9, 0 + 21 + L + 2 + 1 + 34, [101, 110, 100], 0, 0⟩, ⟨9, 0 + 21 + L + 2 + 1 + 38, [101, 110, 100], 0, 0⟩] ++ ([⟨2, 0 + 21 + L + 2 + 1 + 42 + 0, [112, 114, 105, 110, 116], 0, 0⟩, ⟨39, 0 + 21 + L + 2 + 1 + 42 + 5, [], 0, 0⟩, ⟨2, 0 + 21 + L + 2 + 1 + 42 + 6, [103], 0, 0⟩, ⟨39, 0 + 21 + L + 2 + 1 + 42 + 7, [], 0, 0⟩, ⟨40, 0 + 21 + L + 2 + 1 + 42 + 8, [], 0, 0⟩, ⟨40, 0 + 21 + L + 2 + 1 + 42 + 9, [], 0, 0⟩, ⟨0, 0 + 21 + L + 2 + 1 + 42 + 10, [], 0, 0⟩])))))
theorem s8_s {x : Nat} (hx : x < 9218868437227405312) : scanP (sayP 8 (fmtN x)).1 = s8_T x (fmtN x).length := by
  have e : (sayP 8 (fmtN x)).1 = [108, 111, 99, 97, 108, 32, 103, 32, 102, 111, 114, 32, 107, 44, 32, 118, 32, 105, 110, 32, 123] ++ (fmtN x ++ ([44, 32] ++ ([48] ++ ([125, 32, 100, 111, 32, 103, 32, 61, 32, 103, 32, 111, 114, 32, 102, 117, 110, 99, 116, 105, 111, 110, 40, 41, 32, 114, 101, 116, 117, 114, 110, 32, 118, 32, 101, 110, 100, 32, 101, 110, 100, 32] ++ ([112, 114, 105, 110, 116, 40, 103, 40, 41, 41]))))) := by
    simp only [sayP, sy8, List.append_assoc, List.cons_append, List.nil_append]
  rw [scanP_eq, e]
  rw [scA_piece s8_p0]
  rw [scA_fmt hx _ rfl]
  rw [scA_piece s8_p1]
  rw [scA_n0 _ rfl]
  rw [scA_piece s8_p2]
  rw [s8_e]
  rfl
theorem s8_t (x L : Nat) : treeT (s8_T x L) = treeS x (s8_T y0N L) := by kernel_rfl
theorem s8_n (L : Nat) : treeT (s8_T y0N L) ≠ none := by
  have h : (treeT (s8_T y0N L)).isSome = true := by kernel_rfl
  intro e
  rw [e] at h
  cases h
theorem s8_c {x : Nat} (L : Nat) (hx : x < 9218868437227405312) (h : x ∉ [0, 4607182418800017408]) : ∀ q ∈ sayNums (s8_T y0N L), q ≠ x := by
  have e : (sayNums (s8_T y0N L)).all (fun q => [0, 4607182418800017408, y0N].contains q) = true := by kernel_rfl
  exact nums_ne hx h e
theorem s8_r (F : Nat → Bs) (x L : Nat) : sayR F (s8_T y0N L) x 4 = some (1, 0, nilV, 0, (([] : Bs) ++ F x ++ [10]), [((([] : Bs) ++ F x ++ [10]), 200)]) := by kernel_rfl
theorem s8_q (F : Nat → Bs) (x L : Nat) : sayR F (s8_T y0N L) x 3 = some (5, 9, nilV, 0, ([] : Bs), []) := by kernel_rfl
theorem say_8 {x : Nat} (hx : x < 9218868437227405312) : SayOk (sayP 8 (fmtN x)) := by
  by_cases hm : x ∈ [0, 4607182418800017408]
  · simp only [List.mem_cons, List.not_mem_nil, or_false] at hm
    rcases hm with rfl | rfl
    all_goals exact say_closed (by kernel_rfl) (by decide) (by kernel_rfl) (by kernel_rfl)
  · have hl := fmt_len x (by omega)
    refine say_open (by simp [sayP, sy8]; omega) (Nat.le_of_ble_eq_true rfl) (s8_s hx) (s8_t x _) (s8_n _) (s8_c _ hx hm) (s8_r fmtN x _) (s8_q fmtN x _) ?_ ?_ ?_ ?_
    · simp [sayP, sy8, txt_one, txt_two, txt_three, int_two, int_three, fmt_neg hx]
    · simp [sayP, sy8, txt_one, txt_two, txt_three, int_two, int_three, fmt_neg hx]
    · exact log_ok (by simp only [List.mem_cons, List.not_mem_nil, or_false, forall_eq_or_imp, forall_eq, List.length_append, List.length_cons, List.length_nil, List.length_singleton, Int.cast_ofNat_Int, txt_one, txt_two, txt_three, int_two, int_three, fmt_neg hx]; omega)
    · exact fun a ha => by cases ha
end
end Go.Proofs.Qxb6500574aGreatDoor
