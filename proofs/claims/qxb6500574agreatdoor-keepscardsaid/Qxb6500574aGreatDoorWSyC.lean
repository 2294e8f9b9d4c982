/-
  moon: THE SAYINGS 17, 18, 20, 23, 25 (written by tools/gen_say.py). Plain; no memory, no walk.
-/
import Derived.Test.Qxb6500574aGreatDoorWSy3
namespace Go.Proofs.Qxb6500574aGreatDoor
set_option linter.unusedVariables false
set_option linter.unusedSimpArgs false
section
set_option maxRecDepth 100000
theorem s17_p0 : ∀ f p R, scanN (f + ([108, 111, 99, 97, 108, 32, 102, 117, 110, 99, 116, 105, 111, 110, 32, 102, 40, 110, 41, 32, 105, 102, 32, 110, 32, 61, 61, 32] : Bs).length) p ([108, 111, 99, 97, 108, 32, 102, 117, 110, 99, 116, 105, 111, 110, 32, 102, 40, 110, 41, 32, 105, 102, 32, 110, 32, 61, 61, 32] ++ R) = [⟨15, p + 0, [108, 111, 99, 97, 108], 0, 0⟩, ⟨12, p + 6, [102, 117, 110, 99, 116, 105, 111, 110], 0, 0⟩, ⟨2, p + 15, [102], 0, 0⟩, ⟨39, p + 16, [], 0, 0⟩, ⟨2, p + 17, [110], 0, 0⟩, ⟨40, p + 18, [], 0, 0⟩, ⟨13, p + 20, [105, 102], 0, 0⟩, ⟨2, p + 23, [110], 0, 0⟩, ⟨24, p + 25, [], 0, 0⟩] ++ scanN (f + 13) (p + ([108, 111, 99, 97, 108, 32, 102, 117, 110, 99, 116, 105, 111, 110, 32, 102, 40, 110, 41, 32, 105, 102, 32, 110, 32, 61, 61, 32] : Bs).length) R := by
  intro f p R
  kernel_rfl
theorem s17_p1 : ∀ f p R, scanN (f + ([32, 116, 104, 101, 110, 32, 114, 101, 116, 117, 114, 110, 32] : Bs).length) p ([32, 116, 104, 101, 110, 32, 114, 101, 116, 117, 114, 110, 32] ++ R) = [⟨19, p + 1, [116, 104, 101, 110], 0, 0⟩, ⟨18, p + 6, [114, 101, 116, 117, 114, 110], 0, 0⟩] ++ scanN (f + 8) (p + ([32, 116, 104, 101, 110, 32, 114, 101, 116, 117, 114, 110, 32] : Bs).length) R := by
  intro f p R
  kernel_rfl
theorem s17_p2 : ∀ f p R, scanN (f + ([32, 101, 110, 100, 32, 114, 101, 116, 117, 114, 110, 32, 102, 40, 110, 32, 45, 32] : Bs).length) p ([32, 101, 110, 100, 32, 114, 101, 116, 117, 114, 110, 32, 102, 40, 110, 32, 45, 32] ++ R) = [⟨9, p + 1, [101, 110, 100], 0, 0⟩, ⟨18, p + 5, [114, 101, 116, 117, 114, 110], 0, 0⟩, ⟨2, p + 12, [102], 0, 0⟩, ⟨39, p + 13, [], 0, 0⟩, ⟨2, p + 14, [110], 0, 0⟩, ⟨32, p + 16, [], 0, 0⟩] ++ scanN (f + 7) (p + ([32, 101, 110, 100, 32, 114, 101, 116, 117, 114, 110, 32, 102, 40, 110, 32, 45, 32] : Bs).length) R := by
  intro f p R
  kernel_rfl
theorem s17_p3 : ∀ f p R, scanN (f + ([41, 32, 101, 110, 100, 32, 112, 114, 105, 110, 116, 40, 102, 40] : Bs).length) p ([41, 32, 101, 110, 100, 32, 112, 114, 105, 110, 116, 40, 102, 40] ++ R) = [⟨40, p + 0, [], 0, 0⟩, ⟨9, p + 2, [101, 110, 100], 0, 0⟩, ⟨2, p + 6, [112, 114, 105, 110, 116], 0, 0⟩, ⟨39, p + 11, [], 0, 0⟩, ⟨2, p + 12, [102], 0, 0⟩, ⟨39, p + 13, [], 0, 0⟩] ++ scanN (f + 6) (p + ([41, 32, 101, 110, 100, 32, 112, 114, 105, 110, 116, 40, 102, 40] : Bs).length) R := by
  intro f p R
  kernel_rfl
theorem s17_e : ∀ p, scA p [41, 41] = [⟨40, p + 0, [], 0, 0⟩, ⟨40, p + 1, [], 0, 0⟩, ⟨0, p + 2, [], 0, 0⟩] := by
  intro p
  kernel_rfl
def s17_T (x L : Nat) : List Tok := [⟨15, 0 + 0, [108, 111, 99, 97, 108], 0, 0⟩, ⟨12, 0 + 6, [102, 117, 110, 99, 116, 105, 111, 110], 0, 0⟩, ⟨2, 0 + 15, [102], 0, 0⟩, ⟨39, 0 + 16, [], 0, 0⟩, ⟨2, 0 + 17, [110], 0, 0⟩, ⟨40, 0 + 18, [], 0, 0⟩, ⟨13, 0 + 20, [105, 102], 0, 0⟩, ⟨2, 0 + 23, [110], 0, 0⟩, ⟨24, 0 + 25, [], 0, 0⟩] ++ ([⟨3, 0 + 28, [], 0, 0⟩] ++ ([⟨19, 0 + 28 + 1 + 1, [116, 104, 101, 110], 0, 0⟩, ⟨18, 0 + 28 + 1 + 6, [114, 101, 116, 117, 114, 110], 0, 0⟩] ++ ([⟨3, 0 + 28 + 1 + 13, [], x, 0⟩] ++ ([⟨9, 0 + 28 + 1 + 13 + L + 1, [101, 110, 100], 0, 0⟩, ⟨18, 0 + 28 + 1 + 13 + L + 5, [114, 101, 116, 117, 114, 110], 0, 0⟩, ⟨2, 0 + 28 + 1 + 13 + L + 12, [102], 0, 0⟩, ⟨39, 0 + 28 + 1 + 13 + L + 13, [], 0, 0⟩, ⟨2, 0 + 28 + 1 + 13 + L + 14, [110], 0, 0⟩, ⟨32, 0 + 28 + 1 + 13 + L + 16, [], 0, 0⟩] ++ ([⟨3, 0 + 28 + 1 + 13 + L + 18, [], 4607182418800017408, 0⟩] ++ ([⟨40, 0 + 28 + 1 + 13 + L + 18 + 1 + 0, [], 0, 0⟩, ⟨9, 0 + 28 + 1 + 13 + L + 18 + 1 + 2, [101, 110, 100], 0, 0⟩, ⟨2, 0 + 28 + 1 + 13 + L + 18 + 1 + 6, [112, 114, 105, 110, 116], 0, 0⟩, ⟨39, 0 + 28 + 1 + 13 + L + 18 + 1 + 11, [], 0, 0⟩, ⟨2, 0 + 28 + 1 + 13 + L + 18 + 1 + 12, [102], 0, 0⟩, ⟨39, 0 + 28 + 1 + 13 + L + 18 + 1 + 13, [], 0, 0⟩] ++ ([⟨3, 0 + 28 + 1 + 13 + L + 18 + 1 + 14, [], 4611686018427387904, 0⟩] ++ ([⟨40, 0 + 28 + 1 + 13 + L + 18 + 1 + 14 + 1 + 0, [], 0, 0⟩, ⟨40, 0 + 28 + 1 + 13 + L + 18 + 1 + 14 + 1 + 1, [], 0, 0⟩, ⟨0, 0 + 28 + 1 + 13 + L + 18 + 1 + 14 + 1 + 2, [], 0, 0⟩]))))))))
theorem s17_s {x : Nat} (hx : x < 9218868437227405312) : scanP (sayP 17 (fmtN x)).1 = s17_T x (fmtN x).length := by
  have e : (sayP 17 (fmtN x)).1 = [108, 111, 99, 97, 108, 32, 102, 117, 110, 99, 116, 105, 111, 110, 32, 102, 40, 110, 41, 32, 105, 102, 32, 110, 32, 61, 61, 32] ++ ([48] ++ ([32, 116, 104, 101, 110, 32, 114, 101, 116, 117, 114, 110, 32] ++ (fmtN x ++ ([32, 101, 110, 100, 32, 114, 101, 116, 117, 114, 110, 32, 102, 40, 110, 32, 45, 32] ++ ([49] ++ ([41, 32, 101, 110, 100, 32, 112, 114, 105, 110, 116, 40, 102, 40] ++ ([50] ++ ([41, 41])))))))) := by
    simp only [sayP, sy17, List.append_assoc, List.cons_append, List.nil_append]
  rw [scanP_eq, e]
  rw [scA_piece s17_p0]
  rw [scA_n0 _ rfl]
  rw [scA_piece s17_p1]
  rw [scA_fmt hx _ rfl]
  rw [scA_piece s17_p2]
  rw [scA_n1 _ rfl]
  rw [scA_piece s17_p3]
  rw [scA_n2 _ rfl]
  rw [s17_e]
  rfl
theorem s17_t (x L : Nat) : treeT (s17_T x L) = treeS x (s17_T y0N L) := by kernel_rfl
theorem s17_n (L : Nat) : treeT (s17_T y0N L) ≠ none := by
  have h : (treeT (s17_T y0N L)).isSome = true := by kernel_rfl
  intro e
  rw [e] at h
  cases h
theorem s17_c {x : Nat} (L : Nat) (hx : x < 9218868437227405312) (h : x ∉ [0, 4607182418800017408, 4611686018427387904]) : ∀ q ∈ sayNums (s17_T y0N L), q ≠ x := by
  have e : (sayNums (s17_T y0N L)).all (fun q => [0, 4607182418800017408, 4611686018427387904, y0N].contains q) = true := by kernel_rfl
  exact nums_ne hx h e
theorem s17_r (F : Nat → Bs) (x L : Nat) : sayR F (s17_T y0N L) x 4 = some (1, 0, nilV, 0, (([] : Bs) ++ F x ++ [10]), [((([] : Bs) ++ F x ++ [10]), 200)]) := by kernel_rfl
theorem s17_q (F : Nat → Bs) (x L : Nat) : sayR F (s17_T y0N L) x 3 = some (5, 9, nilV, 0, ([] : Bs), []) := by kernel_rfl
theorem say_17 {x : Nat} (hx : x < 9218868437227405312) : SayOk (sayP 17 (fmtN x)) := by
  by_cases hm : x ∈ [0, 4607182418800017408, 4611686018427387904]
  · simp only [List.mem_cons, List.not_mem_nil, or_false] at hm
    rcases hm with rfl | rfl | rfl
    all_goals exact say_closed (by kernel_rfl) (by decide) (by kernel_rfl) (by kernel_rfl)
  · have hl := fmt_len x (by omega)
    refine say_open (by simp [sayP, sy17]; omega) (Nat.le_of_ble_eq_true rfl) (s17_s hx) (s17_t x _) (s17_n _) (s17_c _ hx hm) (s17_r fmtN x _) (s17_q fmtN x _) ?_ ?_ ?_ ?_
    · simp [sayP, sy17, txt_one, txt_two, txt_three, int_two, int_three, fmt_neg hx]
    · simp [sayP, sy17, txt_one, txt_two, txt_three, int_two, int_three, fmt_neg hx]
    · exact log_ok (by simp only [List.mem_cons, List.not_mem_nil, or_false, forall_eq_or_imp, forall_eq, List.length_append, List.length_cons, List.length_nil, List.length_singleton, Int.cast_ofNat_Int, txt_one, txt_two, txt_three, int_two, int_three, fmt_neg hx]; omega)
    · exact fun a ha => by cases ha
theorem s18_p0 : ∀ f p R, scanN (f + ([105, 102, 32, 102, 97, 108, 115, 101, 32, 116, 104, 101, 110, 32, 101, 108, 115, 101, 32, 101, 110, 100, 32, 119, 104, 105, 108, 101, 32, 102, 97, 108, 115, 101, 32, 100, 111, 32, 101, 110, 100, 32] : Bs).length) p ([105, 102, 32, 102, 97, 108, 115, 101, 32, 116, 104, 101, 110, 32, 101, 108, 115, 101, 32, 101, 110, 100, 32, 119, 104, 105, 108, 101, 32, 102, 97, 108, 115, 101, 32, 100, 111, 32, 101, 110, 100, 32] ++ R) = [⟨13, p + 0, [105, 102], 0, 0⟩, ⟨10, p + 3, [102, 97, 108, 115, 101], 0, 0⟩, ⟨19, p + 9, [116, 104, 101, 110], 0, 0⟩, ⟨7, p + 14, [101, 108, 115, 101], 0, 0⟩, ⟨9, p + 19, [101, 110, 100], 0, 0⟩, ⟨21, p + 23, [119, 104, 105, 108, 101], 0, 0⟩, ⟨10, p + 29, [102, 97, 108, 115, 101], 0, 0⟩, ⟨6, p + 35, [100, 111], 0, 0⟩, ⟨9, p + 38, [101, 110, 100], 0, 0⟩] ++ scanN (f + 24) (p + ([105, 102, 32, 102, 97, 108, 115, 101, 32, 116, 104, 101, 110, 32, 101, 108, 115, 101, 32, 101, 110, 100, 32, 119, 104, 105, 108, 101, 32, 102, 97, 108, 115, 101, 32, 100, 111, 32, 101, 110, 100, 32] : Bs).length) R := by
  intro f p R
  kernel_rfl
theorem s18_p1 : ∀ f p R, scanN (f + ([102, 111, 114, 32, 105, 32, 61, 32] : Bs).length) p ([102, 111, 114, 32, 105, 32, 61, 32] ++ R) = [⟨11, p + 0, [102, 111, 114], 0, 0⟩, ⟨2, p + 4, [105], 0, 0⟩, ⟨38, p + 6, [], 0, 0⟩] ++ scanN (f + 2) (p + ([102, 111, 114, 32, 105, 32, 61, 32] : Bs).length) R := by
  intro f p R
  kernel_rfl
theorem s18_p2 : ∀ f p R, scanN (f + ([44, 32] : Bs).length) p ([44, 32] ++ R) = [⟨45, p + 0, [], 0, 0⟩] ++ scanN (f + 0) (p + ([44, 32] : Bs).length) R := by
  intro f p R
  kernel_rfl
theorem s18_p3 : ∀ f p R, scanN (f + ([32, 100, 111, 32, 101, 110, 100, 32, 102, 111, 114, 32, 107, 44, 32, 118, 32, 105, 110, 32, 123, 125, 32, 100, 111, 32, 101, 110, 100, 32, 112, 114, 105, 110, 116, 40] : Bs).length) p ([32, 100, 111, 32, 101, 110, 100, 32, 102, 111, 114, 32, 107, 44, 32, 118, 32, 105, 110, 32, 123, 125, 32, 100, 111, 32, 101, 110, 100, 32, 112, 114, 105, 110, 116, 40] ++ R) = [⟨6, p + 1, [100, 111], 0, 0⟩, ⟨9, p + 4, [101, 110, 100], 0, 0⟩, ⟨11, p + 8, [102, 111, 114], 0, 0⟩, ⟨2, p + 12, [107], 0, 0⟩, ⟨45, p + 13, [], 0, 0⟩, ⟨2, p + 15, [118], 0, 0⟩, ⟨14, p + 17, [105, 110], 0, 0⟩, ⟨41, p + 20, [], 0, 0⟩, ⟨42, p + 21, [], 0, 0⟩, ⟨6, p + 23, [100, 111], 0, 0⟩, ⟨9, p + 26, [101, 110, 100], 0, 0⟩, ⟨2, p + 30, [112, 114, 105, 110, 116], 0, 0⟩, ⟨39, p + 35, [], 0, 0⟩] ++ scanN (f + 13) (p + ([32, 100, 111, 32, 101, 110, 100, 32, 102, 111, 114, 32, 107, 44, 32, 118, 32, 105, 110, 32, 123, 125, 32, 100, 111, 32, 101, 110, 100, 32, 112, 114, 105, 110, 116, 40] : Bs).length) R := by
  intro f p R
  kernel_rfl
theorem s18_e : ∀ p, scA p [41] = [⟨40, p + 0, [], 0, 0⟩, ⟨0, p + 1, [], 0, 0⟩] := by
  intro p
  kernel_rfl
def s18_T (x L : Nat) : List Tok := [⟨13, 0 + 0, [105, 102], 0, 0⟩, ⟨10, 0 + 3, [102, 97, 108, 115, 101], 0, 0⟩, ⟨19, 0 + 9, [116, 104, 101, 110], 0, 0⟩, ⟨7, 0 + 14, [101, 108, 115, 101], 0, 0⟩, ⟨9, 0 + 19, [101, 110, 100], 0, 0⟩, ⟨21, 0 + 23, [119, 104, 105, 108, 101], 0, 0⟩, ⟨10, 0 + 29, [102, 97, 108, 115, 101], 0, 0⟩, ⟨6, 0 + 35, [100, 111], 0, 0⟩, ⟨9, 0 + 38, [101, 110, 100], 0, 0⟩] ++ ([⟨11, 0 + 42 + 0, [102, 111, 114], 0, 0⟩, ⟨2, 0 + 42 + 4, [105], 0, 0⟩, ⟨38, 0 + 42 + 6, [], 0, 0⟩] ++ ([⟨3, 0 + 42 + 8, [], 4607182418800017408, 0⟩] ++ ([⟨45, 0 + 42 + 8 + 1 + 0, [], 0, 0⟩] ++ ([⟨3, 0 + 42 + 8 + 1 + 2, [], 0, 0⟩] ++ ([⟨6, 0 + 42 + 8 + 1 + 2 + 1 + 1, [100, 111], 0, 0⟩, ⟨9, 0 + 42 + 8 + 1 + 2 + 1 + 4, [101, 110, 100], 0, 0⟩, ⟨11, 0 + 42 + 8 + 1 + 2 + 1 + 8, [102, 111, 114], 0, 0⟩, ⟨2, 0 + 42 + 8 + 1 + 2 + 1 + 12, [107], 0, 0⟩, ⟨45, 0 + 42 + 8 + 1 + 2 + 1 + 13, [], 0, 0⟩, ⟨2, 0 + 42 + 8 + 1 + 2 + 1 + 15, [118], 0, 0⟩, ⟨14, 0 + 42 + 8 + 1 + 2 + 1 + 17, [105, 110], 0, 0⟩, ⟨41, 0 + 42 + 8 + 1 + 2 + 1 + 20, [], 0, 0⟩, ⟨42, 0 + 42 + 8 + 1 + 2 + 1 + 21, [], 0, 0⟩, ⟨6, 0 + 42 + 8 + 1 + 2 + 1 + 23, [100, 111], 0, 0⟩, ⟨9, 0 + 42 + 8 + 1 + 2 + 1 + 26, [101, 110, 100], 0, 0⟩, ⟨2, 0 + 42 + 8 + 1 + 2 + 1 + 30, [112, 114, 105, 110, 116], 0, 0⟩, ⟨39, 0 + 42 + 8 + 1 + 2 + 1 + 35, [], 0, 0⟩] ++ ([⟨3, 0 + 42 + 8 + 1 + 2 + 1 + 36, [], x, 0⟩] ++ ([⟨40, 0 + 42 + 8 + 1 + 2 + 1 + 36 + L + 0, [], 0, 0⟩, ⟨0, 0 + 42 + 8 + 1 + 2 + 1 + 36 + L + 1, [], 0, 0⟩])))))))
theorem s18_s {x : Nat} (hx : x < 9218868437227405312) : scanP (sayP 18 (fmtN x)).1 = s18_T x (fmtN x).length := by
  have e : (sayP 18 (fmtN x)).1 = [105, 102, 32, 102, 97, 108, 115, 101, 32, 116, 104, 101, 110, 32, 101, 108, 115, 101, 32, 101, 110, 100, 32, 119, 104, 105, 108, 101, 32, 102, 97, 108, 115, 101, 32, 100, 111, 32, 101, 110, 100, 32] ++ ([102, 111, 114, 32, 105, 32, 61, 32] ++ ([49] ++ ([44, 32] ++ ([48] ++ ([32, 100, 111, 32, 101, 110, 100, 32, 102, 111, 114, 32, 107, 44, 32, 118, 32, 105, 110, 32, 123, 125, 32, 100, 111, 32, 101, 110, 100, 32, 112, 114, 105, 110, 116, 40] ++ (fmtN x ++ ([41]))))))) := by
    simp only [sayP, sy18, List.append_assoc, List.cons_append, List.nil_append]
  rw [scanP_eq, e]
  rw [scA_piece s18_p0]
  rw [scA_piece s18_p1]
  rw [scA_n1 _ rfl]
  rw [scA_piece s18_p2]
  rw [scA_n0 _ rfl]
  rw [scA_piece s18_p3]
  rw [scA_fmt hx _ rfl]
  rw [s18_e]
  rfl
theorem s18_t (x L : Nat) : treeT (s18_T x L) = treeS x (s18_T y0N L) := by kernel_rfl
theorem s18_n (L : Nat) : treeT (s18_T y0N L) ≠ none := by
  have h : (treeT (s18_T y0N L)).isSome = true := by kernel_rfl
  intro e
  rw [e] at h
  cases h
theorem s18_c {x : Nat} (L : Nat) (hx : x < 9218868437227405312) (h : x ∉ [4607182418800017408, 0]) : ∀ q ∈ sayNums (s18_T y0N L), q ≠ x := by
  have e : (sayNums (s18_T y0N L)).all (fun q => [4607182418800017408, 0, y0N].contains q) = true := by kernel_rfl
  exact nums_ne hx h e
theorem s18_r (F : Nat → Bs) (x L : Nat) : sayR F (s18_T y0N L) x 1 = some (1, 0, nilV, 0, (([] : Bs) ++ F x ++ [10]), [((([] : Bs) ++ F x ++ [10]), 200)]) := by kernel_rfl
theorem s18_q (F : Nat → Bs) (x L : Nat) : sayR F (s18_T y0N L) x 0 = some (5, 9, nilV, 0, ([] : Bs), []) := by kernel_rfl
theorem say_18 {x : Nat} (hx : x < 9218868437227405312) : SayOk (sayP 18 (fmtN x)) := by
  by_cases hm : x ∈ [4607182418800017408, 0]
  · simp only [List.mem_cons, List.not_mem_nil, or_false] at hm
    rcases hm with rfl | rfl
    all_goals exact say_closed (by kernel_rfl) (by decide) (by kernel_rfl) (by kernel_rfl)
  · have hl := fmt_len x (by omega)
    refine say_open (by simp [sayP, sy18]; omega) (Nat.le_of_ble_eq_true rfl) (s18_s hx) (s18_t x _) (s18_n _) (s18_c _ hx hm) (s18_r fmtN x _) (s18_q fmtN x _) ?_ ?_ ?_ ?_
    · simp [sayP, sy18, txt_one, txt_two, txt_three, int_two, int_three, fmt_neg hx]
    · simp [sayP, sy18, txt_one, txt_two, txt_three, int_two, int_three, fmt_neg hx]
    · exact log_ok (by simp only [List.mem_cons, List.not_mem_nil, or_false, forall_eq_or_imp, forall_eq, List.length_append, List.length_cons, List.length_nil, List.length_singleton, Int.cast_ofNat_Int, txt_one, txt_two, txt_three, int_two, int_three, fmt_neg hx]; omega)
    · exact fun a ha => by cases ha
theorem s20_p0 : ∀ f p R, scanN (f + ([108, 111, 99, 97, 108, 32, 97, 32, 61, 32] : Bs).length) p ([108, 111, 99, 97, 108, 32, 97, 32, 61, 32] ++ R) = [⟨15, p + 0, [108, 111, 99, 97, 108], 0, 0⟩, ⟨2, p + 6, [97], 0, 0⟩, ⟨38, p + 8, [], 0, 0⟩] ++ scanN (f + 4) (p + ([108, 111, 99, 97, 108, 32, 97, 32, 61, 32] : Bs).length) R := by
  intro f p R
  kernel_rfl
theorem s20_p1 : ∀ f p R, scanN (f + ([32, 108, 111, 99, 97, 108, 32, 102, 117, 110, 99, 116, 105, 111, 110, 32, 102, 40, 41, 32, 97, 32, 61, 32] : Bs).length) p ([32, 108, 111, 99, 97, 108, 32, 102, 117, 110, 99, 116, 105, 111, 110, 32, 102, 40, 41, 32, 97, 32, 61, 32] ++ R) = [⟨15, p + 1, [108, 111, 99, 97, 108], 0, 0⟩, ⟨12, p + 7, [102, 117, 110, 99, 116, 105, 111, 110], 0, 0⟩, ⟨2, p + 16, [102], 0, 0⟩, ⟨39, p + 17, [], 0, 0⟩, ⟨40, p + 18, [], 0, 0⟩, ⟨2, p + 20, [97], 0, 0⟩, ⟨38, p + 22, [], 0, 0⟩] ++ scanN (f + 11) (p + ([32, 108, 111, 99, 97, 108, 32, 102, 117, 110, 99, 116, 105, 111, 110, 32, 102, 40, 41, 32, 97, 32, 61, 32] : Bs).length) R := by
  intro f p R
  kernel_rfl
theorem s20_p2 : ∀ f p R, scanN (f + ([32, 101, 110, 100, 32, 108, 111, 99, 97, 108, 32, 102, 117, 110, 99, 116, 105, 111, 110, 32, 103, 40, 41, 32, 114, 101, 116, 117, 114, 110, 32, 97, 32, 101, 110, 100, 32, 102, 40, 41, 32] : Bs).length) p ([32, 101, 110, 100, 32, 108, 111, 99, 97, 108, 32, 102, 117, 110, 99, 116, 105, 111, 110, 32, 103, 40, 41, 32, 114, 101, 116, 117, 114, 110, 32, 97, 32, 101, 110, 100, 32, 102, 40, 41, 32] ++ R) = [⟨9, p + 1, [101, 110, 100], 0, 0⟩, ⟨15, p + 5, [108, 111, 99, 97, 108], 0, 0⟩, ⟨12, p + 11, [102, 117, 110, 99, 116, 105, 111, 110], 0, 0⟩, ⟨2, p + 20, [103], 0, 0⟩, ⟨39, p + 21, [], 0, 0⟩, ⟨40, p + 22, [], 0, 0⟩, ⟨18, p + 24, [114, 101, 116, 117, 114, 110], 0, 0⟩, ⟨2, p + 31, [97], 0, 0⟩, ⟨9, p + 33, [101, 110, 100], 0, 0⟩, ⟨2, p + 37, [102], 0, 0⟩, ⟨39, p + 38, [], 0, 0⟩, ⟨40, p + 39, [], 0, 0⟩] ++ scanN (f + 20) (p + ([32, 101, 110, 100, 32, 108, 111, 99, 97, 108, 32, 102, 117, 110, 99, 116, 105, 111, 110, 32, 103, 40, 41, 32, 114, 101, 116, 117, 114, 110, 32, 97, 32, 101, 110, 100, 32, 102, 40, 41, 32] : Bs).length) R := by
  intro f p R
  kernel_rfl
theorem s20_e : ∀ p, scA p [112, 114, 105, 110, 116, 40, 103, 40, 41, 41] = [⟨2, p + 0, [112, 114, 105, 110, 116], 0, 0⟩, ⟨39, p + 5, [], 0, 0⟩, ⟨2, p + 6, [103], 0, 0⟩, ⟨39, p + 7, [], 0, 0⟩, ⟨40, p + 8, [], 0, 0⟩, ⟨40, p + 9, [], 0, 0⟩, ⟨0, p + 10, [], 0, 0⟩] := by
  intro p
  kernel_rfl
def s20_T (x L : Nat) : List Tok := [⟨15, 0 + 0, [108, 111, 99, 97, 108], 0, 0⟩, ⟨2, 0 + 6, [97], 0, 0⟩, ⟨38, 0 + 8, [], 0, 0⟩] ++ ([⟨3, 0 + 10, [], 0, 0⟩] ++ ([⟨15, 0 + 10 + 1 + 1, [108, 111, 99, 97, 108], 0, 0⟩, ⟨12, 0 + 10 + 1 + 7, [102, 117, 110, 99, 116, 105, 111, 110], 0, 0⟩, ⟨2, 0 + 10 + 1 + 16, [102], 0, 0⟩, ⟨39, 0 + 10 + 1 + 17, [], 0, 0⟩, ⟨40, 0 + 10 + 1 + 18, [], 0, 0⟩, ⟨2, 0 + 10 + 1 + 20, [97], 0, 0⟩, ⟨38, 0 + 10 + 1 + 22, [], 0, 0⟩] ++ ([⟨3, 0 + 10 + 1 + 24, [], x, 0⟩] ++ ([⟨9, 0 + 10 + 1 + 24 + L + 1, [101, 110, 100], 0, 0⟩, ⟨15, 0 + 10 + 1 + 24 + L + 5, [108, 111, 99, 97, 108], 0, 0⟩, ⟨12, 0 + 10 + 1 + 24 + L + 11, [102, 117, 110, 99, 116, 105, 111, 110], 0, 0⟩, ⟨2, 0 + 10 + 1 + 24 + L + 20, [103], 0, 0⟩, ⟨39, 0 + 10 + 1 + 24 + L + 21, [], 0, 0⟩, ⟨40, 0 + 10 + 1 + 24 + L + 22, [], 0, 0⟩, ⟨18, 0 + 10 + 1 + 24 + L + 24, [114, 101, 116, 117, 114, 110], 0, 0⟩, ⟨2, 0 + 10 + 1 + 24 + L + 31, [97], 0, 0⟩, ⟨9, 0 + 10 + 1 + 24 + L + 33, [101, 110, 100], 0, 0⟩, ⟨2, 0 + 10 + 1 + 24 + L + 37, [102], 0, 0⟩, ⟨39, 0 + 10 + 1 + 24 + L + 38, [], 0, 0⟩, ⟨40, 0 + 10 + 1 + 24 + L + 39, [], 0, 0⟩] ++ ([⟨2, 0 + 10 + 1 + 24 + L + 41 + 0, [112, 114, 105, 110, 116], 0, 0⟩, ⟨39, 0 + 10 + 1 + 24 + L + 41 + 5, [], 0, 0⟩, ⟨2, 0 + 10 + 1 + 24 + L + 41 + 6, [103], 0, 0⟩, ⟨39, 0 + 10 + 1 + 24 + L + 41 + 7, [], 0, 0⟩, ⟨40, 0 + 10 + 1 + 24 + L + 41 + 8, [], 0, 0⟩, ⟨40, 0 + 10 + 1 + 24 + L + 41 + 9, [], 0, 0⟩, ⟨0, 0 + 10 + 1 + 24 + L + 41 + 10, [], 0, 0⟩])))))
theorem s20_s {x : Nat} (hx : x < 9218868437227405312) : scanP (sayP 20 (fmtN x)).1 = s20_T x (fmtN x).length := by
  have e : (sayP 20 (fmtN x)).1 = [108, 111, 99, 97, 108, 32, 97, 32, 61, 32] ++ ([48] ++ ([32, 108, 111, 99, 97, 108, 32, 102, 117, 110, 99, 116, 105, 111, 110, 32, 102, 40, 41, 32, 97, 32, 61, 32] ++ (fmtN x ++ ([32, 101, 110, 100, 32, 108, 111, 99, 97, 108, 32, 102, 117, 110, 99, 116, 105, 111, 110, 32, 103, 40, 41, 32, 114, 101, 116, 117, 114, 110, 32, 97, 32, 101, 110, 100, 32, 102, 40, 41, 32] ++ ([112, 114, 105, 110, 116, 40, 103, 40, 41, 41]))))) := by
    simp only [sayP, sy20, List.append_assoc, List.cons_append, List.nil_append]
  rw [scanP_eq, e]
  rw [scA_piece s20_p0]
  rw [scA_n0 _ rfl]
  rw [scA_piece s20_p1]
  rw [scA_fmt hx _ rfl]
  rw [scA_piece s20_p2]
  rw [s20_e]
  rfl
theorem s20_t (x L : Nat) : treeT (s20_T x L) = treeS x (s20_T y0N L) := by kernel_rfl
theorem s20_n (L : Nat) : treeT (s20_T y0N L) ≠ none := by
  have h : (treeT (s20_T y0N L)).isSome = true := by kernel_rfl
  intro e
  rw [e] at h
  cases h
theorem s20_c {x : Nat} (L : Nat) (hx : x < 9218868437227405312) (h : x ∉ [0, 4607182418800017408]) : ∀ q ∈ sayNums (s20_T y0N L), q ≠ x := by
  have e : (sayNums (s20_T y0N L)).all (fun q => [0, 4607182418800017408, y0N].contains q) = true := by kernel_rfl
  exact nums_ne hx h e
theorem s20_r (F : Nat → Bs) (x L : Nat) : sayR F (s20_T y0N L) x 3 = some (1, 0, nilV, 0, (([] : Bs) ++ F x ++ [10]), [((([] : Bs) ++ F x ++ [10]), 200)]) := by kernel_rfl
theorem s20_q (F : Nat → Bs) (x L : Nat) : sayR F (s20_T y0N L) x 2 = some (5, 9, nilV, 0, ([] : Bs), []) := by kernel_rfl
theorem say_20 {x : Nat} (hx : x < 9218868437227405312) : SayOk (sayP 20 (fmtN x)) := by
  by_cases hm : x ∈ [0, 4607182418800017408]
  · simp only [List.mem_cons, List.not_mem_nil, or_false] at hm
    rcases hm with rfl | rfl
    all_goals exact say_closed (by kernel_rfl) (by decide) (by kernel_rfl) (by kernel_rfl)
  · have hl := fmt_len x (by omega)
    refine say_open (by simp [sayP, sy20]; omega) (Nat.le_of_ble_eq_true rfl) (s20_s hx) (s20_t x _) (s20_n _) (s20_c _ hx hm) (s20_r fmtN x _) (s20_q fmtN x _) ?_ ?_ ?_ ?_
    · simp [sayP, sy20, txt_one, txt_two, txt_three, int_two, int_three, fmt_neg hx]
    · simp [sayP, sy20, txt_one, txt_two, txt_three, int_two, int_three, fmt_neg hx]
    · exact log_ok (by simp only [List.mem_cons, List.not_mem_nil, or_false, forall_eq_or_imp, forall_eq, List.length_append, List.length_cons, List.length_nil, List.length_singleton, Int.cast_ofNat_Int, txt_one, txt_two, txt_three, int_two, int_three, fmt_neg hx]; omega)
    · exact fun a ha => by cases ha
theorem s23_p0 : ∀ f p R, scanN (f + ([112, 114, 105, 110, 116, 40] : Bs).length) p ([112, 114, 105, 110, 116, 40] ++ R) = [⟨2, p + 0, [112, 114, 105, 110, 116], 0, 0⟩, ⟨39, p + 5, [], 0, 0⟩] ++ scanN (f + 4) (p + ([112, 114, 105, 110, 116, 40] : Bs).length) R := by
  intro f p R
  kernel_rfl
theorem s23_e : ∀ p, scA p [41, 32, 112, 114, 105, 110, 116, 40, 110, 111, 116, 32, 110, 105, 108, 41, 32, 112, 114, 105, 110, 116, 40, 35, 34, 97, 98, 99, 34, 41] = [⟨40, p + 0, [], 0, 0⟩, ⟨2, p + 2, [112, 114, 105, 110, 116], 0, 0⟩, ⟨39, p + 7, [], 0, 0⟩, ⟨17, p + 8, [110, 111, 116], 0, 0⟩, ⟨16, p + 12, [110, 105, 108], 0, 0⟩, ⟨40, p + 15, [], 0, 0⟩, ⟨2, p + 17, [112, 114, 105, 110, 116], 0, 0⟩, ⟨39, p + 22, [], 0, 0⟩, ⟨37, p + 23, [], 0, 0⟩, ⟨4, p + 24, [97, 98, 99], 0, 0⟩, ⟨40, p + 29, [], 0, 0⟩, ⟨0, p + 30, [], 0, 0⟩] := by
  intro p
  kernel_rfl
def s23_T (x L : Nat) : List Tok := [⟨2, 0 + 0, [112, 114, 105, 110, 116], 0, 0⟩, ⟨39, 0 + 5, [], 0, 0⟩] ++ ([⟨32, 0 + 6, [], 0, 0⟩] ++ ([⟨3, 0 + 6 + 1, [], x, 0⟩] ++ ([⟨40, 0 + 6 + 1 + L + 0, [], 0, 0⟩, ⟨2, 0 + 6 + 1 + L + 2, [112, 114, 105, 110, 116], 0, 0⟩, ⟨39, 0 + 6 + 1 + L + 7, [], 0, 0⟩, ⟨17, 0 + 6 + 1 + L + 8, [110, 111, 116], 0, 0⟩, ⟨16, 0 + 6 + 1 + L + 12, [110, 105, 108], 0, 0⟩, ⟨40, 0 + 6 + 1 + L + 15, [], 0, 0⟩, ⟨2, 0 + 6 + 1 + L + 17, [112, 114, 105, 110, 116], 0, 0⟩, ⟨39, 0 + 6 + 1 + L + 22, [], 0, 0⟩, ⟨37, 0 + 6 + 1 + L + 23, [], 0, 0⟩, ⟨4, 0 + 6 + 1 + L + 24, [97, 98, 99], 0, 0⟩, ⟨40, 0 + 6 + 1 + L + 29, [], 0, 0⟩, ⟨0, 0 + 6 + 1 + L + 30, [], 0, 0⟩])))
theorem s23_s {x : Nat} (hx : x < 9218868437227405312) : scanP (sayP 23 (fmtN x)).1 = s23_T x (fmtN x).length := by
  have e : (sayP 23 (fmtN x)).1 = [112, 114, 105, 110, 116, 40] ++ ([45] ++ (fmtN x ++ ([41, 32, 112, 114, 105, 110, 116, 40, 110, 111, 116, 32, 110, 105, 108, 41, 32, 112, 114, 105, 110, 116, 40, 35, 34, 97, 98, 99, 34, 41]))) := by
    simp only [sayP, sy23, List.append_assoc, List.cons_append, List.nil_append]
  rw [scanP_eq, e]
  rw [scA_piece s23_p0]
  rw [scA_minus hx]
  rw [scA_fmt hx _ rfl]
  rw [s23_e]
  rfl
theorem s23_t (x L : Nat) : treeT (s23_T x L) = treeS x (s23_T y0N L) := by kernel_rfl
theorem s23_n (L : Nat) : treeT (s23_T y0N L) ≠ none := by
  have h : (treeT (s23_T y0N L)).isSome = true := by kernel_rfl
  intro e
  rw [e] at h
  cases h
theorem s23_c {x : Nat} (L : Nat) (hx : x < 9218868437227405312) (h : x ∉ [4607182418800017408]) : ∀ q ∈ sayNums (s23_T y0N L), q ≠ x := by
  have e : (sayNums (s23_T y0N L)).all (fun q => [4607182418800017408, y0N].contains q) = true := by kernel_rfl
  exact nums_ne hx h e
theorem s23_r (F : Nat → Bs) (x L : Nat) : sayR F (s23_T y0N L) x 3 = some (1, 0, nilV, 0, (((([] : Bs) ++ F (negN x) ++ [10]) ++ [116, 114, 117, 101] ++ [10]) ++ F (fromIntN ((3 : Nat) : Int)) ++ [10]), [((([] : Bs) ++ F (negN x) ++ [10]), 200), (((([] : Bs) ++ F (negN x) ++ [10]) ++ [116, 114, 117, 101] ++ [10]), 200), ((((([] : Bs) ++ F (negN x) ++ [10]) ++ [116, 114, 117, 101] ++ [10]) ++ F (fromIntN ((3 : Nat) : Int)) ++ [10]), 200)]) := by kernel_rfl
theorem s23_q (F : Nat → Bs) (x L : Nat) : sayR F (s23_T y0N L) x 2 = some (5, 9, nilV, 0, ((([] : Bs) ++ F (negN x) ++ [10]) ++ [116, 114, 117, 101] ++ [10]), [((([] : Bs) ++ F (negN x) ++ [10]), 200), (((([] : Bs) ++ F (negN x) ++ [10]) ++ [116, 114, 117, 101] ++ [10]), 200)]) := by kernel_rfl
theorem say_23 {x : Nat} (hx : x < 9218868437227405312) : SayOk (sayP 23 (fmtN x)) := by
  by_cases hm : x ∈ [4607182418800017408]
  · simp only [List.mem_cons, List.not_mem_nil, or_false] at hm
    rcases hm with rfl
    all_goals exact say_closed (by kernel_rfl) (by decide) (by kernel_rfl) (by kernel_rfl)
  · have hl := fmt_len x (by omega)
    refine say_open (by simp [sayP, sy23]; omega) (Nat.le_of_ble_eq_true rfl) (s23_s hx) (s23_t x _) (s23_n _) (s23_c _ hx hm) (s23_r fmtN x _) (s23_q fmtN x _) ?_ ?_ ?_ ?_
    · simp [sayP, sy23, txt_one, txt_two, txt_three, int_two, int_three, fmt_neg hx]
    · simp [sayP, sy23, txt_one, txt_two, txt_three, int_two, int_three, fmt_neg hx]
    · exact log_ok (by simp only [List.mem_cons, List.not_mem_nil, or_false, forall_eq_or_imp, forall_eq, List.length_append, List.length_cons, List.length_nil, List.length_singleton, Int.cast_ofNat_Int, txt_one, txt_two, txt_three, int_two, int_three, fmt_neg hx]; omega)
    · exact log_ok (by simp only [List.mem_cons, List.not_mem_nil, or_false, forall_eq_or_imp, forall_eq, List.length_append, List.length_cons, List.length_nil, List.length_singleton, Int.cast_ofNat_Int, txt_one, txt_two, txt_three, int_two, int_three, fmt_neg hx]; omega)
theorem s25_p0 : ∀ f p R, scanN (f + ([105, 102, 32, 102, 97, 108, 115, 101, 32, 116, 104, 101, 110, 32, 112, 114, 105, 110, 116, 40] : Bs).length) p ([105, 102, 32, 102, 97, 108, 115, 101, 32, 116, 104, 101, 110, 32, 112, 114, 105, 110, 116, 40] ++ R) = [⟨13, p + 0, [105, 102], 0, 0⟩, ⟨10, p + 3, [102, 97, 108, 115, 101], 0, 0⟩, ⟨19, p + 9, [116, 104, 101, 110], 0, 0⟩, ⟨2, p + 14, [112, 114, 105, 110, 116], 0, 0⟩, ⟨39, p + 19, [], 0, 0⟩] ++ scanN (f + 12) (p + ([105, 102, 32, 102, 97, 108, 115, 101, 32, 116, 104, 101, 110, 32, 112, 114, 105, 110, 116, 40] : Bs).length) R := by
  intro f p R
  kernel_rfl
theorem s25_p1 : ∀ f p R, scanN (f + ([41, 32, 101, 108, 115, 101, 105, 102, 32, 102, 97, 108, 115, 101, 32, 116, 104, 101, 110, 32, 112, 114, 105, 110, 116, 40] : Bs).length) p ([41, 32, 101, 108, 115, 101, 105, 102, 32, 102, 97, 108, 115, 101, 32, 116, 104, 101, 110, 32, 112, 114, 105, 110, 116, 40] ++ R) = [⟨40, p + 0, [], 0, 0⟩, ⟨8, p + 2, [101, 108, 115, 101, 105, 102], 0, 0⟩, ⟨10, p + 9, [102, 97, 108, 115, 101], 0, 0⟩, ⟨19, p + 15, [116, 104, 101, 110], 0, 0⟩, ⟨2, p + 20, [112, 114, 105, 110, 116], 0, 0⟩, ⟨39, p + 25, [], 0, 0⟩] ++ scanN (f + 16) (p + ([41, 32, 101, 108, 115, 101, 105, 102, 32, 102, 97, 108, 115, 101, 32, 116, 104, 101, 110, 32, 112, 114, 105, 110, 116, 40] : Bs).length) R := by
  intro f p R
  kernel_rfl
theorem s25_p2 : ∀ f p R, scanN (f + ([41, 32, 101, 108, 115, 101, 32, 112, 114, 105, 110, 116, 40] : Bs).length) p ([41, 32, 101, 108, 115, 101, 32, 112, 114, 105, 110, 116, 40] ++ R) = [⟨40, p + 0, [], 0, 0⟩, ⟨7, p + 2, [101, 108, 115, 101], 0, 0⟩, ⟨2, p + 7, [112, 114, 105, 110, 116], 0, 0⟩, ⟨39, p + 12, [], 0, 0⟩] ++ scanN (f + 7) (p + ([41, 32, 101, 108, 115, 101, 32, 112, 114, 105, 110, 116, 40] : Bs).length) R := by
  intro f p R
  kernel_rfl
theorem s25_p3 : ∀ f p R, scanN (f + ([41, 32, 101, 110, 100, 32, 105, 102, 32, 116, 114, 117, 101, 32, 116, 104, 101, 110, 32, 101, 108, 115, 101, 32, 112, 114, 105, 110, 116, 40] : Bs).length) p ([41, 32, 101, 110, 100, 32, 105, 102, 32, 116, 114, 117, 101, 32, 116, 104, 101, 110, 32, 101, 108, 115, 101, 32, 112, 114, 105, 110, 116, 40] ++ R) = [⟨40, p + 0, [], 0, 0⟩, ⟨9, p + 2, [101, 110, 100], 0, 0⟩, ⟨13, p + 6, [105, 102], 0, 0⟩, ⟨20, p + 9, [116, 114, 117, 101], 0, 0⟩, ⟨19, p + 14, [116, 104, 101, 110], 0, 0⟩, ⟨7, p + 19, [101, 108, 115, 101], 0, 0⟩, ⟨2, p + 24, [112, 114, 105, 110, 116], 0, 0⟩, ⟨39, p + 29, [], 0, 0⟩] ++ scanN (f + 16) (p + ([41, 32, 101, 110, 100, 32, 105, 102, 32, 116, 114, 117, 101, 32, 116, 104, 101, 110, 32, 101, 108, 115, 101, 32, 112, 114, 105, 110, 116, 40] : Bs).length) R := by
  intro f p R
  kernel_rfl
theorem s25_e : ∀ p, scA p [41, 32, 101, 110, 100] = [⟨40, p + 0, [], 0, 0⟩, ⟨9, p + 2, [101, 110, 100], 0, 0⟩, ⟨0, p + 5, [], 0, 0⟩] := by
  intro p
  kernel_rfl
def s25_T (x L : Nat) : List Tok := [⟨13, 0 + 0, [105, 102], 0, 0⟩, ⟨10, 0 + 3, [102, 97, 108, 115, 101], 0, 0⟩, ⟨19, 0 + 9, [116, 104, 101, 110], 0, 0⟩, ⟨2, 0 + 14, [112, 114, 105, 110, 116], 0, 0⟩, ⟨39, 0 + 19, [], 0, 0⟩] ++ ([⟨3, 0 + 20, [], 0, 0⟩] ++ ([⟨40, 0 + 20 + 1 + 0, [], 0, 0⟩, ⟨8, 0 + 20 + 1 + 2, [101, 108, 115, 101, 105, 102], 0, 0⟩, ⟨10, 0 + 20 + 1 + 9, [102, 97, 108, 115, 101], 0, 0⟩, ⟨19, 0 + 20 + 1 + 15, [116, 104, 101, 110], 0, 0⟩, ⟨2, 0 + 20 + 1 + 20, [112, 114, 105, 110, 116], 0, 0⟩, ⟨39, 0 + 20 + 1 + 25, [], 0, 0⟩] ++ ([⟨3, 0 + 20 + 1 + 26, [], 4607182418800017408, 0⟩] ++ ([⟨40, 0 + 20 + 1 + 26 + 1 + 0, [], 0, 0⟩, ⟨7, 0 + 20 + 1 + 26 + 1 + 2, [101, 108, 115, 101], 0, 0⟩, ⟨2, 0 + 20 + 1 + 26 + 1 + 7, [112, 114, 105, 110, 116], 0, 0⟩, ⟨39, 0 + 20 + 1 + 26 + 1 + 12, [], 0, 0⟩] ++ ([⟨3, 0 + 20 + 1 + 26 + 1 + 13, [], x, 0⟩] ++ ([⟨40, 0 + 20 + 1 + 26 + 1 + 13 + L + 0, [], 0, 0⟩, ⟨9, 0 + 20 + 1 + 26 + 1 + 13 + L + 2, [101, 110, 100], 0, 0⟩, ⟨13, 0 + 20 + 1 + 26 + 1 + 13 + L + 6, [105, 102], 0, 0⟩, ⟨20, 0 + 20 + 1 + 26 + 1 + 13 + L + 9, [116, 114, 117, 101], 0, 0⟩, ⟨19, 0 + 20 + 1 + 26 + 1 + 13 + L + 14, [116, 104, 101, 110], 0, 0⟩, ⟨7, 0 + 20 + 1 + 26 + 1 + 13 + L + 19, [101, 108, 115, 101], 0, 0⟩, ⟨2, 0 + 20 + 1 + 26 + 1 + 13 + L + 24, [112, 114, 105, 110, 116], 0, 0⟩, ⟨39, 0 + 20 + 1 + 26 + 1 + 13 + L + 29, [], 0, 0⟩] ++ ([⟨3, 0 + 20 + 1 + 26 + 1 + 13 + L + 30, [], 4611686018427387904, 0⟩] ++ ([⟨40, 0 + 20 + 1 + 26 + 1 + 13 + L + 30 + 1 + 0, [], 0, 0⟩, ⟨9, 0 + 20 + 1 + 26 + 1 + 13 + L + 30 + 1 + 2, [101, 110, 100], 0, 0⟩, ⟨0, 0 + 20 + 1 + 26 + 1 + 13 + L + 30 + 1 + 5, [], 0, 0⟩]))))))))
theorem s25_s {x : Nat} (hx : x < 9218868437227405312) : scanP (sayP 25 (fmtN x)).1 = s25_T x (fmtN x).length := by
  have e : (sayP 25 (fmtN x)).1 = [105, 102, 32, 102, 97, 108, 115, 101, 32, 116, 104, 101, 110, 32, 112, 114, 105, 110, 116, 40] ++ ([48] ++ ([41, 32, 101, 108, 115, 101, 105, 102, 32, 102, 97, 108, 115, 101, 32, 116, 104, 101, 110, 32, 112, 114, 105, 110, 116, 40] ++ ([49] ++ ([41, 32, 101, 108, 115, 101, 32, 112, 114, 105, 110, 116, 40] ++ (fmtN x ++ ([41, 32, 101, 110, 100, 32, 105, 102, 32, 116, 114, 117, 101, 32, 116, 104, 101, 110, 32, 101, 108, 115, 101, 32, 112, 114, 105, 110, 116, 40] ++ ([50] ++ ([41, 32, 101, 110, 100])))))))) := by
    simp only [sayP, sy25, List.append_assoc, List.cons_append, List.nil_append]
  rw [scanP_eq, e]
  rw [scA_piece s25_p0]
  rw [scA_n0 _ rfl]
  rw [scA_piece s25_p1]
  rw [scA_n1 _ rfl]
  rw [scA_piece s25_p2]
  rw [scA_fmt hx _ rfl]
  rw [scA_piece s25_p3]
  rw [scA_n2 _ rfl]
  rw [s25_e]
  rfl
theorem s25_t (x L : Nat) : treeT (s25_T x L) = treeS x (s25_T y0N L) := by kernel_rfl
theorem s25_n (L : Nat) : treeT (s25_T y0N L) ≠ none := by
  have h : (treeT (s25_T y0N L)).isSome = true := by kernel_rfl
  intro e
  rw [e] at h
  cases h
theorem s25_c {x : Nat} (L : Nat) (hx : x < 9218868437227405312) (h : x ∉ [0, 4607182418800017408, 4611686018427387904]) : ∀ q ∈ sayNums (s25_T y0N L), q ≠ x := by
  have e : (sayNums (s25_T y0N L)).all (fun q => [0, 4607182418800017408, 4611686018427387904, y0N].contains q) = true := by kernel_rfl
  exact nums_ne hx h e
theorem s25_r (F : Nat → Bs) (x L : Nat) : sayR F (s25_T y0N L) x 1 = some (1, 0, nilV, 0, (([] : Bs) ++ F x ++ [10]), [((([] : Bs) ++ F x ++ [10]), 200)]) := by kernel_rfl
theorem s25_q (F : Nat → Bs) (x L : Nat) : sayR F (s25_T y0N L) x 0 = some (5, 9, nilV, 0, ([] : Bs), []) := by kernel_rfl
theorem say_25 {x : Nat} (hx : x < 9218868437227405312) : SayOk (sayP 25 (fmtN x)) := by
  by_cases hm : x ∈ [0, 4607182418800017408, 4611686018427387904]
  · simp only [List.mem_cons, List.not_mem_nil, or_false] at hm
    rcases hm with rfl | rfl | rfl
    all_goals exact say_closed (by kernel_rfl) (by decide) (by kernel_rfl) (by kernel_rfl)
  · have hl := fmt_len x (by omega)
    refine say_open (by simp [sayP, sy25]; omega) (Nat.le_of_ble_eq_true rfl) (s25_s hx) (s25_t x _) (s25_n _) (s25_c _ hx hm) (s25_r fmtN x _) (s25_q fmtN x _) ?_ ?_ ?_ ?_
    · simp [sayP, sy25, txt_one, txt_two, txt_three, int_two, int_three, fmt_neg hx]
    · simp [sayP, sy25, txt_one, txt_two, txt_three, int_two, int_three, fmt_neg hx]
    · exact log_ok (by simp only [List.mem_cons, List.not_mem_nil, or_false, forall_eq_or_imp, forall_eq, List.length_append, List.length_cons, List.length_nil, List.length_singleton, Int.cast_ofNat_Int, txt_one, txt_two, txt_three, int_two, int_three, fmt_neg hx]; omega)
    · exact fun a ha => by cases ha
end
end Go.Proofs.Qxb6500574aGreatDoor
