/-
  moon: THE SAYINGS 9, 13, 14, 15, 16 (written by tools/gen_say.py). Plain; no memory, no walk.
-/
import Derived.Test.Qxb6500574aGreatDoorWSy3
namespace Go.Proofs.Qxb6500574aGreatDoor
set_option linter.unusedVariables false
set_option linter.unusedSimpArgs false
section
set_option maxRecDepth 100000
theorem s9_p0 : ∀ f p R, scanN (f + ([108, 111, 99, 97, 108, 32, 103, 32, 119, 104, 105, 108, 101, 32, 116, 114, 117, 101, 32, 100, 111, 32, 108, 111, 99, 97, 108, 32, 120, 32, 61, 32] : Bs).length) p ([108, 111, 99, 97, 108, 32, 103, 32, 119, 104, 105, 108, 101, 32, 116, 114, 117, 101, 32, 100, 111, 32, 108, 111, 99, 97, 108, 32, 120, 32, 61, 32] ++ R) = [⟨15, p + 0, [108, 111, 99, 97, 108], 0, 0⟩, ⟨2, p + 6, [103], 0, 0⟩, ⟨21, p + 8, [119, 104, 105, 108, 101], 0, 0⟩, ⟨20, p + 14, [116, 114, 117, 101], 0, 0⟩, ⟨6, p + 19, [100, 111], 0, 0⟩, ⟨15, p + 22, [108, 111, 99, 97, 108], 0, 0⟩, ⟨2, p + 28, [120], 0, 0⟩, ⟨38, p + 30, [], 0, 0⟩] ++ scanN (f + 16) (p + ([108, 111, 99, 97, 108, 32, 103, 32, 119, 104, 105, 108, 101, 32, 116, 114, 117, 101, 32, 100, 111, 32, 108, 111, 99, 97, 108, 32, 120, 32, 61, 32] : Bs).length) R := by
  intro f p R
  kernel_rfl
theorem s9_p1 : ∀ f p R, scanN (f + ([32, 108, 111, 99, 97, 108, 32, 121, 32, 61, 32] : Bs).length) p ([32, 108, 111, 99, 97, 108, 32, 121, 32, 61, 32] ++ R) = [⟨15, p + 1, [108, 111, 99, 97, 108], 0, 0⟩, ⟨2, p + 7, [121], 0, 0⟩, ⟨38, p + 9, [], 0, 0⟩] ++ scanN (f + 4) (p + ([32, 108, 111, 99, 97, 108, 32, 121, 32, 61, 32] : Bs).length) R := by
  intro f p R
  kernel_rfl
theorem s9_p2 : ∀ f p R, scanN (f + ([32, 103, 32, 61, 32, 102, 117, 110, 99, 116, 105, 111, 110, 40, 41, 32, 114, 101, 116, 117, 114, 110, 32, 120, 32, 101, 110, 100, 32, 98, 114, 101, 97, 107, 32, 101, 110, 100, 32, 108, 111, 99, 97, 108, 32] : Bs).length) p ([32, 103, 32, 61, 32, 102, 117, 110, 99, 116, 105, 111, 110, 40, 41, 32, 114, 101, 116, 117, 114, 110, 32, 120, 32, 101, 110, 100, 32, 98, 114, 101, 97, 107, 32, 101, 110, 100, 32, 108, 111, 99, 97, 108, 32] ++ R) = [⟨2, p + 1, [103], 0, 0⟩, ⟨38, p + 3, [], 0, 0⟩, ⟨12, p + 5, [102, 117, 110, 99, 116, 105, 111, 110], 0, 0⟩, ⟨39, p + 13, [], 0, 0⟩, ⟨40, p + 14, [], 0, 0⟩, ⟨18, p + 16, [114, 101, 116, 117, 114, 110], 0, 0⟩, ⟨2, p + 23, [120], 0, 0⟩, ⟨9, p + 25, [101, 110, 100], 0, 0⟩, ⟨5, p + 29, [98, 114, 101, 97, 107], 0, 0⟩, ⟨9, p + 35, [101, 110, 100], 0, 0⟩, ⟨15, p + 39, [108, 111, 99, 97, 108], 0, 0⟩] ++ scanN (f + 24) (p + ([32, 103, 32, 61, 32, 102, 117, 110, 99, 116, 105, 111, 110, 40, 41, 32, 114, 101, 116, 117, 114, 110, 32, 120, 32, 101, 110, 100, 32, 98, 114, 101, 97, 107, 32, 101, 110, 100, 32, 108, 111, 99, 97, 108, 32] : Bs).length) R := by
  intro f p R
  kernel_rfl
theorem s9_p3 : ∀ f p R, scanN (f + ([122, 32, 61, 32] : Bs).length) p ([122, 32, 61, 32] ++ R) = [⟨2, p + 0, [122], 0, 0⟩, ⟨38, p + 2, [], 0, 0⟩] ++ scanN (f + 0) (p + ([122, 32, 61, 32] : Bs).length) R := by
  intro f p R
  kernel_rfl
theorem s9_e : ∀ p, scA p [32, 112, 114, 105, 110, 116, 40, 103, 40, 41, 41] = [⟨2, p + 1, [112, 114, 105, 110, 116], 0, 0⟩, ⟨39, p + 6, [], 0, 0⟩, ⟨2, p + 7, [103], 0, 0⟩, ⟨39, p + 8, [], 0, 0⟩, ⟨40, p + 9, [], 0, 0⟩, ⟨40, p + 10, [], 0, 0⟩, ⟨0, p + 11, [], 0, 0⟩] := by
  intro p
  kernel_rfl
def s9_T (x L : Nat) : List Tok := [⟨15, 0 + 0, [108, 111, 99, 97, 108], 0, 0⟩, ⟨2, 0 + 6, [103], 0, 0⟩, ⟨21, 0 + 8, [119, 104, 105, 108, 101], 0, 0⟩, ⟨20, 0 + 14, [116, 114, 117, 101], 0, 0⟩, ⟨6, 0 + 19, [100, 111], 0, 0⟩, ⟨15, 0 + 22, [108, 111, 99, 97, 108], 0, 0⟩, ⟨2, 0 + 28, [120], 0, 0⟩, ⟨38, 0 + 30, [], 0, 0⟩] ++ ([⟨3, 0 + 32, [], x, 0⟩] ++ ([⟨15, 0 + 32 + L + 1, [108, 111, 99, 97, 108], 0, 0⟩, ⟨2, 0 + 32 + L + 7, [121], 0, 0⟩, ⟨38, 0 + 32 + L + 9, [], 0, 0⟩] ++ ([⟨3, 0 + 32 + L + 11, [], 0, 0⟩] ++ ([⟨2, 0 + 32 + L + 11 + 1 + 1, [103], 0, 0⟩, ⟨38, 0 + 32 + L + 11 + 1 + 3, [], 0, 0⟩, ⟨12, 0 + 32 + L + 11 + 1 + 5, [102, 117, 110, 99, 116, 105, 111, 110], 0, 0⟩, ⟨39, 0 + 32 + L + 11 + 1 + 13, [], 0, 0⟩, ⟨40, 0 + 32 + L + 11 + 1 + 14, [], 0, 0⟩, ⟨18, 0 + 32 + L + 11 + 1 + 16, [114, 101, 116, 117, 114, 110], 0, 0⟩, ⟨2, 0 + 32 + L + 11 + 1 + 23, [120], 0, 0⟩, ⟨9, 0 + 32 + L + 11 + 1 + 25, [101, 110, 100], 0, 0⟩, ⟨5, 0 + 32 + L + 11 + 1 + 29, [98, 114, 101, 97, 107], 0, 0⟩, ⟨9, 0 + 32 + L + 11 + 1 + 35, [101, 110, 100], 0, 0⟩, ⟨15, 0 + 32 + L + 11 + 1 + 39, [108, 111, 99, 97, 108], 0, 0⟩] ++ ([⟨2, 0 + 32 + L + 11 + 1 + 45 + 0, [122], 0, 0⟩, ⟨38, 0 + 32 + L + 11 + 1 + 45 + 2, [], 0, 0⟩] ++ ([⟨3, 0 + 32 + L + 11 + 1 + 45 + 4, [], 0, 0⟩] ++ ([⟨2, 0 + 32 + L + 11 + 1 + 45 + 4 + 1 + 1, [112, 114, 105, 110, 116], 0, 0⟩, ⟨39, 0 + 32 + L + 11 + 1 + 45 + 4 + 1 + 6, [], 0, 0⟩, ⟨2, 0 + 32 + L + 11 + 1 + 45 + 4 + 1 + 7, [103], 0, 0⟩, ⟨39, 0 + 32 + L + 11 + 1 + 45 + 4 + 1 + 8, [], 0, 0⟩, ⟨40, 0 + 32 + L + 11 + 1 + 45 + 4 + 1 + 9, [], 0, 0⟩, ⟨40, 0 + 32 + L + 11 + 1 + 45 + 4 + 1 + 10, [], 0, 0⟩, ⟨0, 0 + 32 + L + 11 + 1 + 45 + 4 + 1 + 11, [], 0, 0⟩])))))))
theorem s9_s {x : Nat} (hx : x < 9218868437227405312) : scanP (sayP 9 (fmtN x)).1 = s9_T x (fmtN x).length := by
  have e : (sayP 9 (fmtN x)).1 = [108, 111, 99, 97, 108, 32, 103, 32, 119, 104, 105, 108, 101, 32, 116, 114, 117, 101, 32, 100, 111, 32, 108, 111, 99, 97, 108, 32, 120, 32, 61, 32] ++ (fmtN x ++ ([32, 108, 111, 99, 97, 108, 32, 121, 32, 61, 32] ++ ([48] ++ ([32, 103, 32, 61, 32, 102, 117, 110, 99, 116, 105, 111, 110, 40, 41, 32, 114, 101, 116, 117, 114, 110, 32, 120, 32, 101, 110, 100, 32, 98, 114, 101, 97, 107, 32, 101, 110, 100, 32, 108, 111, 99, 97, 108, 32] ++ ([122, 32, 61, 32] ++ ([48] ++ ([32, 112, 114, 105, 110, 116, 40, 103, 40, 41, 41]))))))) := by
    simp only [sayP, sy9, List.append_assoc, List.cons_append, List.nil_append]
  rw [scanP_eq, e]
  rw [scA_piece s9_p0]
  rw [scA_fmt hx _ rfl]
  rw [scA_piece s9_p1]
  rw [scA_n0 _ rfl]
  rw [scA_piece s9_p2]
  rw [scA_piece s9_p3]
  rw [scA_n0 _ rfl]
  rw [s9_e]
  rfl
theorem s9_t (x L : Nat) : treeT (s9_T x L) = treeS x (s9_T y0N L) := by kernel_rfl
theorem s9_n (L : Nat) : treeT (s9_T y0N L) ≠ none := by
  have h : (treeT (s9_T y0N L)).isSome = true := by kernel_rfl
  intro e
  rw [e] at h
  cases h
theorem s9_c {x : Nat} (L : Nat) (hx : x < 9218868437227405312) (h : x ∉ [0, 4607182418800017408]) : ∀ q ∈ sayNums (s9_T y0N L), q ≠ x := by
  have e : (sayNums (s9_T y0N L)).all (fun q => [0, 4607182418800017408, y0N].contains q) = true := by kernel_rfl
  exact nums_ne hx h e
theorem s9_r (F : Nat → Bs) (x L : Nat) : sayR F (s9_T y0N L) x 2 = some (1, 0, nilV, 0, (([] : Bs) ++ F x ++ [10]), [((([] : Bs) ++ F x ++ [10]), 200)]) := by kernel_rfl
theorem s9_q (F : Nat → Bs) (x L : Nat) : sayR F (s9_T y0N L) x 1 = some (5, 9, nilV, 0, ([] : Bs), []) := by kernel_rfl
theorem say_9 {x : Nat} (hx : x < 9218868437227405312) : SayOk (sayP 9 (fmtN x)) := by
  by_cases hm : x ∈ [0, 4607182418800017408]
  · simp only [List.mem_cons, List.not_mem_nil, or_false] at hm
    rcases hm with rfl | rfl
    all_goals exact say_closed (by kernel_rfl) (by decide) (by kernel_rfl) (by kernel_rfl)
  · have hl := fmt_len x (by omega)
    refine say_open (by simp [sayP, sy9]; omega) (Nat.le_of_ble_eq_true rfl) (s9_s hx) (s9_t x _) (s9_n _) (s9_c _ hx hm) (s9_r fmtN x _) (s9_q fmtN x _) ?_ ?_ ?_ ?_
    · simp [sayP, sy9, txt_one, txt_two, txt_three, int_two, int_three, fmt_neg hx]
    · simp [sayP, sy9, txt_one, txt_two, txt_three, int_two, int_three, fmt_neg hx]
    · exact log_ok (by simp only [List.mem_cons, List.not_mem_nil, or_false, forall_eq_or_imp, forall_eq, List.length_append, List.length_cons, List.length_nil, List.length_singleton, Int.cast_ofNat_Int, txt_one, txt_two, txt_three, int_two, int_three, fmt_neg hx]; omega)
    · exact fun a ha => by cases ha
theorem s13_p0 : ∀ f p R, scanN (f + ([108, 111, 99, 97, 108, 32, 97, 32, 61, 32] : Bs).length) p ([108, 111, 99, 97, 108, 32, 97, 32, 61, 32] ++ R) = [⟨15, p + 0, [108, 111, 99, 97, 108], 0, 0⟩, ⟨2, p + 6, [97], 0, 0⟩, ⟨38, p + 8, [], 0, 0⟩] ++ scanN (f + 4) (p + ([108, 111, 99, 97, 108, 32, 97, 32, 61, 32] : Bs).length) R := by
  intro f p R
  kernel_rfl
theorem s13_p1 : ∀ f p R, scanN (f + ([32, 108, 111, 99, 97, 108, 32, 102, 117, 110, 99, 116, 105, 111, 110, 32, 102, 40, 41, 32, 114, 101, 116, 117, 114, 110, 32, 102, 117, 110, 99, 116, 105, 111, 110, 40, 41, 32, 97, 32, 61, 32] : Bs).length) p ([32, 108, 111, 99, 97, 108, 32, 102, 117, 110, 99, 116, 105, 111, 110, 32, 102, 40, 41, 32, 114, 101, 116, 117, 114, 110, 32, 102, 117, 110, 99, 116, 105, 111, 110, 40, 41, 32, 97, 32, 61, 32] ++ R) = [⟨15, p + 1, [108, 111, 99, 97, 108], 0, 0⟩, ⟨12, p + 7, [102, 117, 110, 99, 116, 105, 111, 110], 0, 0⟩, ⟨2, p + 16, [102], 0, 0⟩, ⟨39, p + 17, [], 0, 0⟩, ⟨40, p + 18, [], 0, 0⟩, ⟨18, p + 20, [114, 101, 116, 117, 114, 110], 0, 0⟩, ⟨12, p + 27, [102, 117, 110, 99, 116, 105, 111, 110], 0, 0⟩, ⟨39, p + 35, [], 0, 0⟩, ⟨40, p + 36, [], 0, 0⟩, ⟨2, p + 38, [97], 0, 0⟩, ⟨38, p + 40, [], 0, 0⟩] ++ scanN (f + 23) (p + ([32, 108, 111, 99, 97, 108, 32, 102, 117, 110, 99, 116, 105, 111, 110, 32, 102, 40, 41, 32, 114, 101, 116, 117, 114, 110, 32, 102, 117, 110, 99, 116, 105, 111, 110, 40, 41, 32, 97, 32, 61, 32] : Bs).length) R := by
  intro f p R
  kernel_rfl
theorem s13_e : ∀ p, scA p [32, 101, 110, 100, 32, 101, 110, 100, 32, 102, 40, 41, 40, 41, 32, 112, 114, 105, 110, 116, 40, 97, 41] = [⟨9, p + 1, [101, 110, 100], 0, 0⟩, ⟨9, p + 5, [101, 110, 100], 0, 0⟩, ⟨2, p + 9, [102], 0, 0⟩, ⟨39, p + 10, [], 0, 0⟩, ⟨40, p + 11, [], 0, 0⟩, ⟨39, p + 12, [], 0, 0⟩, ⟨40, p + 13, [], 0, 0⟩, ⟨2, p + 15, [112, 114, 105, 110, 116], 0, 0⟩, ⟨39, p + 20, [], 0, 0⟩, ⟨2, p + 21, [97], 0, 0⟩, ⟨40, p + 22, [], 0, 0⟩, ⟨0, p + 23, [], 0, 0⟩] := by
  intro p
  kernel_rfl
def s13_T (x L : Nat) : List Tok := [⟨15, 0 + 0, [108, 111, 99, 97, 108], 0, 0⟩, ⟨2, 0 + 6, [97], 0, 0⟩, ⟨38, 0 + 8, [], 0, 0⟩] ++ ([⟨3, 0 + 10, [], 0, 0⟩] ++ ([⟨15, 0 + 10 + 1 + 1, [108, 111, 99, 97, 108], 0, 0⟩, ⟨12, 0 + 10 + 1 + 7, [102, 117, 110, 99, 116, 105, 111, 110], 0, 0⟩, ⟨2, 0 + 10 + 1 + 16, [102], 0, 0⟩, ⟨39, 0 + 10 + 1 + 17, [], 0, 0⟩, ⟨40, 0 + 10 + 1 + 18, [], 0, 0⟩, ⟨18, 0 + 10 + 1 + 20, [114, 101, 116, 117, 114, 110], 0, 0⟩, ⟨12, 0 + 10 + 1 + 27, [102, 117, 110, 99, 116, 105, 111, 110], 0, 0⟩, ⟨39, 0 + 10 + 1 + 35, [], 0, 0⟩, ⟨40, 0 + 10 + 1 + 36, [], 0, 0⟩, ⟨2, 0 + 10 + 1 + 38, [97], 0, 0⟩, ⟨38, 0 + 10 + 1 + 40, [], 0, 0⟩] ++ ([⟨3, 0 + 10 + 1 + 42, [], x, 0⟩] ++ ([⟨9, 0 + 10 + 1 + 42 + L + 1, [101, 110, 100], 0, 0⟩, ⟨9, 0 + 10 + 1 + 42 + L + 5, [101, 110, 100], 0, 0⟩, ⟨2, 0 + 10 + 1 + 42 + L + 9, [102], 0, 0⟩, ⟨39, 0 + 10 + 1 + 42 + L + 10, [], 0, 0⟩, ⟨40, 0 + 10 + 1 + 42 + L + 11, [], 0, 0⟩, ⟨39, 0 + 10 + 1 + 42 + L + 12, [], 0, 0⟩, ⟨40, 0 + 10 + 1 + 42 + L + 13, [], 0, 0⟩, ⟨2, 0 + 10 + 1 + 42 + L + 15, [112, 114, 105, 110, 116], 0, 0⟩, ⟨39, 0 + 10 + 1 + 42 + L + 20, [], 0, 0⟩, ⟨2, 0 + 10 + 1 + 42 + L + 21, [97], 0, 0⟩, ⟨40, 0 + 10 + 1 + 42 + L + 22, [], 0, 0⟩, ⟨0, 0 + 10 + 1 + 42 + L + 23, [], 0, 0⟩]))))
theorem s13_s {x : Nat} (hx : x < 9218868437227405312) : scanP (sayP 13 (fmtN x)).1 = s13_T x (fmtN x).length := by
  have e : (sayP 13 (fmtN x)).1 = [108, 111, 99, 97, 108, 32, 97, 32, 61, 32] ++ ([48] ++ ([32, 108, 111, 99, 97, 108, 32, 102, 117, 110, 99, 116, 105, 111, 110, 32, 102, 40, 41, 32, 114, 101, 116, 117, 114, 110, 32, 102, 117, 110, 99, 116, 105, 111, 110, 40, 41, 32, 97, 32, 61, 32] ++ (fmtN x ++ ([32, 101, 110, 100, 32, 101, 110, 100, 32, 102, 40, 41, 40, 41, 32, 112, 114, 105, 110, 116, 40, 97, 41])))) := by
    simp only [sayP, sy13, List.append_assoc, List.cons_append, List.nil_append]
  rw [scanP_eq, e]
  rw [scA_piece s13_p0]
  rw [scA_n0 _ rfl]
  rw [scA_piece s13_p1]
  rw [scA_fmt hx _ rfl]
  rw [s13_e]
  rfl
theorem s13_t (x L : Nat) : treeT (s13_T x L) = treeS x (s13_T y0N L) := by kernel_rfl
theorem s13_n (L : Nat) : treeT (s13_T y0N L) ≠ none := by
  have h : (treeT (s13_T y0N L)).isSome = true := by kernel_rfl
  intro e
  rw [e] at h
  cases h
theorem s13_c {x : Nat} (L : Nat) (hx : x < 9218868437227405312) (h : x ∉ [0, 4607182418800017408]) : ∀ q ∈ sayNums (s13_T y0N L), q ≠ x := by
  have e : (sayNums (s13_T y0N L)).all (fun q => [0, 4607182418800017408, y0N].contains q) = true := by kernel_rfl
  exact nums_ne hx h e
theorem s13_r (F : Nat → Bs) (x L : Nat) : sayR F (s13_T y0N L) x 3 = some (1, 0, nilV, 0, (([] : Bs) ++ F x ++ [10]), [((([] : Bs) ++ F x ++ [10]), 200)]) := by kernel_rfl
theorem s13_q (F : Nat → Bs) (x L : Nat) : sayR F (s13_T y0N L) x 2 = some (5, 9, nilV, 0, ([] : Bs), []) := by kernel_rfl
theorem say_13 {x : Nat} (hx : x < 9218868437227405312) : SayOk (sayP 13 (fmtN x)) := by
  by_cases hm : x ∈ [0, 4607182418800017408]
  · simp only [List.mem_cons, List.not_mem_nil, or_false] at hm
    rcases hm with rfl | rfl
    all_goals exact say_closed (by kernel_rfl) (by decide) (by kernel_rfl) (by kernel_rfl)
  · have hl := fmt_len x (by omega)
    refine say_open (by simp [sayP, sy13]; omega) (Nat.le_of_ble_eq_true rfl) (s13_s hx) (s13_t x _) (s13_n _) (s13_c _ hx hm) (s13_r fmtN x _) (s13_q fmtN x _) ?_ ?_ ?_ ?_
    · simp [sayP, sy13, txt_one, txt_two, txt_three, int_two, int_three, fmt_neg hx]
    · simp [sayP, sy13, txt_one, txt_two, txt_three, int_two, int_three, fmt_neg hx]
    · exact log_ok (by simp only [List.mem_cons, List.not_mem_nil, or_false, forall_eq_or_imp, forall_eq, List.length_append, List.length_cons, List.length_nil, List.length_singleton, Int.cast_ofNat_Int, txt_one, txt_two, txt_three, int_two, int_three, fmt_neg hx]; omega)
    · exact fun a ha => by cases ha
theorem s14_p0 : ∀ f p R, scanN (f + ([116, 121, 112, 101, 40, 112, 114, 105, 110, 116, 40] : Bs).length) p ([116, 121, 112, 101, 40, 112, 114, 105, 110, 116, 40] ++ R) = [⟨2, p + 0, [116, 121, 112, 101], 0, 0⟩, ⟨39, p + 4, [], 0, 0⟩, ⟨2, p + 5, [112, 114, 105, 110, 116], 0, 0⟩, ⟨39, p + 10, [], 0, 0⟩] ++ scanN (f + 7) (p + ([116, 121, 112, 101, 40, 112, 114, 105, 110, 116, 40] : Bs).length) R := by
  intro f p R
  kernel_rfl
theorem s14_e : ∀ p, scA p [41, 41] = [⟨40, p + 0, [], 0, 0⟩, ⟨40, p + 1, [], 0, 0⟩, ⟨0, p + 2, [], 0, 0⟩] := by
  intro p
  kernel_rfl
def s14_T (x L : Nat) : List Tok := [⟨2, 0 + 0, [116, 121, 112, 101], 0, 0⟩, ⟨39, 0 + 4, [], 0, 0⟩, ⟨2, 0 + 5, [112, 114, 105, 110, 116], 0, 0⟩, ⟨39, 0 + 10, [], 0, 0⟩] ++ ([⟨3, 0 + 11, [], x, 0⟩] ++ ([⟨40, 0 + 11 + L + 0, [], 0, 0⟩, ⟨40, 0 + 11 + L + 1, [], 0, 0⟩, ⟨0, 0 + 11 + L + 2, [], 0, 0⟩]))
theorem s14_s {x : Nat} (hx : x < 9218868437227405312) : scanP (sayP 14 (fmtN x)).1 = s14_T x (fmtN x).length := by
  have e : (sayP 14 (fmtN x)).1 = [116, 121, 112, 101, 40, 112, 114, 105, 110, 116, 40] ++ (fmtN x ++ ([41, 41])) := by
    simp only [sayP, sy14, List.append_assoc, List.cons_append, List.nil_append]
  rw [scanP_eq, e]
  rw [scA_piece s14_p0]
  rw [scA_fmt hx _ rfl]
  rw [s14_e]
  rfl
theorem s14_t (x L : Nat) : treeT (s14_T x L) = treeS x (s14_T y0N L) := by kernel_rfl
theorem s14_n (L : Nat) : treeT (s14_T y0N L) ≠ none := by
  have h : (treeT (s14_T y0N L)).isSome = true := by kernel_rfl
  intro e
  rw [e] at h
  cases h
theorem s14_c {x : Nat} (L : Nat) (hx : x < 9218868437227405312) (h : x ∉ [4607182418800017408]) : ∀ q ∈ sayNums (s14_T y0N L), q ≠ x := by
  have e : (sayNums (s14_T y0N L)).all (fun q => [4607182418800017408, y0N].contains q) = true := by kernel_rfl
  exact nums_ne hx h e
theorem s14_r (F : Nat → Bs) (x L : Nat) : sayR F (s14_T y0N L) x 2 = some (1, 0, nilV, 0, (([] : Bs) ++ F x ++ [10]), [((([] : Bs) ++ F x ++ [10]), 200)]) := by kernel_rfl
theorem s14_q (F : Nat → Bs) (x L : Nat) : sayR F (s14_T y0N L) x 1 = some (5, 9, nilV, 0, (([] : Bs) ++ F x ++ [10]), [((([] : Bs) ++ F x ++ [10]), 200)]) := by kernel_rfl
theorem say_14 {x : Nat} (hx : x < 9218868437227405312) : SayOk (sayP 14 (fmtN x)) := by
  by_cases hm : x ∈ [4607182418800017408]
  · simp only [List.mem_cons, List.not_mem_nil, or_false] at hm
    rcases hm with rfl
    all_goals exact say_closed (by kernel_rfl) (by decide) (by kernel_rfl) (by kernel_rfl)
  · have hl := fmt_len x (by omega)
    refine say_open (by simp [sayP, sy14]; omega) (Nat.le_of_ble_eq_true rfl) (s14_s hx) (s14_t x _) (s14_n _) (s14_c _ hx hm) (s14_r fmtN x _) (s14_q fmtN x _) ?_ ?_ ?_ ?_
    · simp [sayP, sy14, txt_one, txt_two, txt_three, int_two, int_three, fmt_neg hx]
    · simp [sayP, sy14, txt_one, txt_two, txt_three, int_two, int_three, fmt_neg hx]
    · exact log_ok (by simp only [List.mem_cons, List.not_mem_nil, or_false, forall_eq_or_imp, forall_eq, List.length_append, List.length_cons, List.length_nil, List.length_singleton, Int.cast_ofNat_Int, txt_one, txt_two, txt_three, int_two, int_three, fmt_neg hx]; omega)
    · exact log_ok (by simp only [List.mem_cons, List.not_mem_nil, or_false, forall_eq_or_imp, forall_eq, List.length_append, List.length_cons, List.length_nil, List.length_singleton, Int.cast_ofNat_Int, txt_one, txt_two, txt_three, int_two, int_three, fmt_neg hx]; omega)
theorem s15_p0 : ∀ f p R, scanN (f + ([108, 111, 99, 97, 108, 32, 102, 117, 110, 99, 116, 105, 111, 110, 32, 102, 40, 41, 32, 114, 101, 116, 117, 114, 110, 32] : Bs).length) p ([108, 111, 99, 97, 108, 32, 102, 117, 110, 99, 116, 105, 111, 110, 32, 102, 40, 41, 32, 114, 101, 116, 117, 114, 110, 32] ++ R) = [⟨15, p + 0, [108, 111, 99, 97, 108], 0, 0⟩, ⟨12, p + 6, [102, 117, 110, 99, 116, 105, 111, 110], 0, 0⟩, ⟨2, p + 15, [102], 0, 0⟩, ⟨39, p + 16, [], 0, 0⟩, ⟨40, p + 17, [], 0, 0⟩, ⟨18, p + 19, [114, 101, 116, 117, 114, 110], 0, 0⟩] ++ scanN (f + 16) (p + ([108, 111, 99, 97, 108, 32, 102, 117, 110, 99, 116, 105, 111, 110, 32, 102, 40, 41, 32, 114, 101, 116, 117, 114, 110, 32] : Bs).length) R := by
  intro f p R
  kernel_rfl
theorem s15_p1 : ∀ f p R, scanN (f + ([44, 32] : Bs).length) p ([44, 32] ++ R) = [⟨45, p + 0, [], 0, 0⟩] ++ scanN (f + 0) (p + ([44, 32] : Bs).length) R := by
  intro f p R
  kernel_rfl
theorem s15_e : ∀ p, scA p [32, 101, 110, 100, 32, 108, 111, 99, 97, 108, 32, 97, 44, 32, 98, 32, 61, 32, 102, 40, 41, 32, 112, 114, 105, 110, 116, 40, 97, 41, 32, 112, 114, 105, 110, 116, 40, 98, 41] = [⟨9, p + 1, [101, 110, 100], 0, 0⟩, ⟨15, p + 5, [108, 111, 99, 97, 108], 0, 0⟩, ⟨2, p + 11, [97], 0, 0⟩, ⟨45, p + 12, [], 0, 0⟩, ⟨2, p + 14, [98], 0, 0⟩, ⟨38, p + 16, [], 0, 0⟩, ⟨2, p + 18, [102], 0, 0⟩, ⟨39, p + 19, [], 0, 0⟩, ⟨40, p + 20, [], 0, 0⟩, ⟨2, p + 22, [112, 114, 105, 110, 116], 0, 0⟩, ⟨39, p + 27, [], 0, 0⟩, ⟨2, p + 28, [97], 0, 0⟩, ⟨40, p + 29, [], 0, 0⟩, ⟨2, p + 31, [112, 114, 105, 110, 116], 0, 0⟩, ⟨39, p + 36, [], 0, 0⟩, ⟨2, p + 37, [98], 0, 0⟩, ⟨40, p + 38, [], 0, 0⟩, ⟨0, p + 39, [], 0, 0⟩] := by
  intro p
  kernel_rfl
def s15_T (x L : Nat) : List Tok := [⟨15, 0 + 0, [108, 111, 99, 97, 108], 0, 0⟩, ⟨12, 0 + 6, [102, 117, 110, 99, 116, 105, 111, 110], 0, 0⟩, ⟨2, 0 + 15, [102], 0, 0⟩, ⟨39, 0 + 16, [], 0, 0⟩, ⟨40, 0 + 17, [], 0, 0⟩, ⟨18, 0 + 19, [114, 101, 116, 117, 114, 110], 0, 0⟩] ++ ([⟨3, 0 + 26, [], x, 0⟩] ++ ([⟨45, 0 + 26 + L + 0, [], 0, 0⟩] ++ ([⟨3, 0 + 26 + L + 2, [], 4607182418800017408, 0⟩] ++ ([⟨9, 0 + 26 + L + 2 + 1 + 1, [101, 110, 100], 0, 0⟩, ⟨15, 0 + 26 + L + 2 + 1 + 5, [108, 111, 99, 97, 108], 0, 0⟩, ⟨2, 0 + 26 + L + 2 + 1 + 11, [97], 0, 0⟩, ⟨45, 0 + 26 + L + 2 + 1 + 12, [], 0, 0⟩, ⟨2, 0 + 26 + L + 2 + 1 + 14, [98], 0, 0⟩, ⟨38, 0 + 26 + L + 2 + 1 + 16, [], 0, 0⟩, ⟨2, 0 + 26 + L + 2 + 1 + 18, [102], 0, 0⟩, ⟨39, 0 + 26 + L + 2 + 1 + 19, [], 0, 0⟩, ⟨40, 0 + 26 + L + 2 + 1 + 20, [], 0, 0⟩, ⟨2, 0 + 26 + L + 2 + 1 + 22, [112, 114, 105, 110, 116], 0, 0⟩, ⟨39, 0 + 26 + L + 2 + 1 + 27, [], 0, 0⟩, ⟨2, 0 + 26 + L + 2 + 1 + 28, [97], 0, 0⟩, ⟨40, 0 + 26 + L + 2 + 1 + 29, [], 0, 0⟩, ⟨2, 0 + 26 + L + 2 + 1 + 31, [112, 114, 105, 110, 116], 0, 0⟩, ⟨39, 0 + 26 + L + 2 + 1 + 36, [], 0, 0⟩, ⟨2, 0 + 26 + L + 2 + 1 + 37, [98], 0, 0⟩, ⟨40, 0 + 26 + L + 2 + 1 + 38, [], 0, 0⟩, ⟨0, 0 + 26 + L + 2 + 1 + 39, [], 0, 0⟩]))))
theorem s15_s {x : Nat} (hx : x < 9218868437227405312) : scanP (sayP 15 (fmtN x)).1 = s15_T x (fmtN x).length := by
  have e : (sayP 15 (fmtN x)).1 = [108, 111, 99, 97, 108, 32, 102, 117, 110, 99, 116, 105, 111, 110, 32, 102, 40, 41, 32, 114, 101, 116, 117, 114, 110, 32] ++ (fmtN x ++ ([44, 32] ++ ([49] ++ ([32, 101, 110, 100, 32, 108, 111, 99, 97, 108, 32, 97, 44, 32, 98, 32, 61, 32, 102, 40, 41, 32, 112, 114, 105, 110, 116, 40, 97, 41, 32, 112, 114, 105, 110, 116, 40, 98, 41])))) := by
    simp only [sayP, sy15, List.append_assoc, List.cons_append, List.nil_append]
  rw [scanP_eq, e]
  rw [scA_piece s15_p0]
  rw [scA_fmt hx _ rfl]
  rw [scA_piece s15_p1]
  rw [scA_n1 _ rfl]
  rw [s15_e]
  rfl
theorem s15_t (x L : Nat) : treeT (s15_T x L) = treeS x (s15_T y0N L) := by kernel_rfl
theorem s15_n (L : Nat) : treeT (s15_T y0N L) ≠ none := by
  have h : (treeT (s15_T y0N L)).isSome = true := by kernel_rfl
  intro e
  rw [e] at h
  cases h
theorem s15_c {x : Nat} (L : Nat) (hx : x < 9218868437227405312) (h : x ∉ [4607182418800017408]) : ∀ q ∈ sayNums (s15_T y0N L), q ≠ x := by
  have e : (sayNums (s15_T y0N L)).all (fun q => [4607182418800017408, y0N].contains q) = true := by kernel_rfl
  exact nums_ne hx h e
theorem s15_r (F : Nat → Bs) (x L : Nat) : sayR F (s15_T y0N L) x 3 = some (1, 0, nilV, 0, ((([] : Bs) ++ F x ++ [10]) ++ F 4607182418800017408 ++ [10]), [((([] : Bs) ++ F x ++ [10]), 200), (((([] : Bs) ++ F x ++ [10]) ++ F 4607182418800017408 ++ [10]), 200)]) := by kernel_rfl
theorem s15_q (F : Nat → Bs) (x L : Nat) : sayR F (s15_T y0N L) x 2 = some (5, 9, nilV, 0, (([] : Bs) ++ F x ++ [10]), [((([] : Bs) ++ F x ++ [10]), 200)]) := by kernel_rfl
theorem say_15 {x : Nat} (hx : x < 9218868437227405312) : SayOk (sayP 15 (fmtN x)) := by
  by_cases hm : x ∈ [4607182418800017408]
  · simp only [List.mem_cons, List.not_mem_nil, or_false] at hm
    rcases hm with rfl
    all_goals exact say_closed (by kernel_rfl) (by decide) (by kernel_rfl) (by kernel_rfl)
  · have hl := fmt_len x (by omega)
    refine say_open (by simp [sayP, sy15]; omega) (Nat.le_of_ble_eq_true rfl) (s15_s hx) (s15_t x _) (s15_n _) (s15_c _ hx hm) (s15_r fmtN x _) (s15_q fmtN x _) ?_ ?_ ?_ ?_
    · simp [sayP, sy15, txt_one, txt_two, txt_three, int_two, int_three, fmt_neg hx]
    · simp [sayP, sy15, txt_one, txt_two, txt_three, int_two, int_three, fmt_neg hx]
    · exact log_ok (by simp only [List.mem_cons, List.not_mem_nil, or_false, forall_eq_or_imp, forall_eq, List.length_append, List.length_cons, List.length_nil, List.length_singleton, Int.cast_ofNat_Int, txt_one, txt_two, txt_three, int_two, int_three, fmt_neg hx]; omega)
    · exact log_ok (by simp only [List.mem_cons, List.not_mem_nil, or_false, forall_eq_or_imp, forall_eq, List.length_append, List.length_cons, List.length_nil, List.length_singleton, Int.cast_ofNat_Int, txt_one, txt_two, txt_three, int_two, int_three, fmt_neg hx]; omega)
theorem s16_p0 : ∀ f p R, scanN (f + ([108, 111, 99, 97, 108, 32, 116, 32, 61, 32, 123] : Bs).length) p ([108, 111, 99, 97, 108, 32, 116, 32, 61, 32, 123] ++ R) = [⟨15, p + 0, [108, 111, 99, 97, 108], 0, 0⟩, ⟨2, p + 6, [116], 0, 0⟩, ⟨38, p + 8, [], 0, 0⟩, ⟨41, p + 10, [], 0, 0⟩] ++ scanN (f + 4) (p + ([108, 111, 99, 97, 108, 32, 116, 32, 61, 32, 123] : Bs).length) R := by
  intro f p R
  kernel_rfl
theorem s16_p1 : ∀ f p R, scanN (f + ([44, 32] : Bs).length) p ([44, 32] ++ R) = [⟨45, p + 0, [], 0, 0⟩] ++ scanN (f + 0) (p + ([44, 32] : Bs).length) R := by
  intro f p R
  kernel_rfl
theorem s16_p2 : ∀ f p R, scanN (f + ([125, 32, 112, 114, 105, 110, 116, 40, 116, 91] : Bs).length) p ([125, 32, 112, 114, 105, 110, 116, 40, 116, 91] ++ R) = [⟨42, p + 0, [], 0, 0⟩, ⟨2, p + 2, [112, 114, 105, 110, 116], 0, 0⟩, ⟨39, p + 7, [], 0, 0⟩, ⟨2, p + 8, [116], 0, 0⟩, ⟨43, p + 9, [], 0, 0⟩] ++ scanN (f + 4) (p + ([125, 32, 112, 114, 105, 110, 116, 40, 116, 91] : Bs).length) R := by
  intro f p R
  kernel_rfl
theorem s16_e : ∀ p, scA p [93, 41, 32, 112, 114, 105, 110, 116, 40, 35, 116, 41] = [⟨44, p + 0, [], 0, 0⟩, ⟨40, p + 1, [], 0, 0⟩, ⟨2, p + 3, [112, 114, 105, 110, 116], 0, 0⟩, ⟨39, p + 8, [], 0, 0⟩, ⟨37, p + 9, [], 0, 0⟩, ⟨2, p + 10, [116], 0, 0⟩, ⟨40, p + 11, [], 0, 0⟩, ⟨0, p + 12, [], 0, 0⟩] := by
  intro p
  kernel_rfl
def s16_T (x L : Nat) : List Tok := [⟨15, 0 + 0, [108, 111, 99, 97, 108], 0, 0⟩, ⟨2, 0 + 6, [116], 0, 0⟩, ⟨38, 0 + 8, [], 0, 0⟩, ⟨41, 0 + 10, [], 0, 0⟩] ++ ([⟨3, 0 + 11, [], x, 0⟩] ++ ([⟨45, 0 + 11 + L + 0, [], 0, 0⟩] ++ ([⟨3, 0 + 11 + L + 2, [], 4611686018427387904, 0⟩] ++ ([⟨42, 0 + 11 + L + 2 + 1 + 0, [], 0, 0⟩, ⟨2, 0 + 11 + L + 2 + 1 + 2, [112, 114, 105, 110, 116], 0, 0⟩, ⟨39, 0 + 11 + L + 2 + 1 + 7, [], 0, 0⟩, ⟨2, 0 + 11 + L + 2 + 1 + 8, [116], 0, 0⟩, ⟨43, 0 + 11 + L + 2 + 1 + 9, [], 0, 0⟩] ++ ([⟨3, 0 + 11 + L + 2 + 1 + 10, [], 4607182418800017408, 0⟩] ++ ([⟨44, 0 + 11 + L + 2 + 1 + 10 + 1 + 0, [], 0, 0⟩, ⟨40, 0 + 11 + L + 2 + 1 + 10 + 1 + 1, [], 0, 0⟩, ⟨2, 0 + 11 + L + 2 + 1 + 10 + 1 + 3, [112, 114, 105, 110, 116], 0, 0⟩, ⟨39, 0 + 11 + L + 2 + 1 + 10 + 1 + 8, [], 0, 0⟩, ⟨37, 0 + 11 + L + 2 + 1 + 10 + 1 + 9, [], 0, 0⟩, ⟨2, 0 + 11 + L + 2 + 1 + 10 + 1 + 10, [116], 0, 0⟩, ⟨40, 0 + 11 + L + 2 + 1 + 10 + 1 + 11, [], 0, 0⟩, ⟨0, 0 + 11 + L + 2 + 1 + 10 + 1 + 12, [], 0, 0⟩]))))))
theorem s16_s {x : Nat} (hx : x < 9218868437227405312) : scanP (sayP 16 (fmtN x)).1 = s16_T x (fmtN x).length := by
  have e : (sayP 16 (fmtN x)).1 = [108, 111, 99, 97, 108, 32, 116, 32, 61, 32, 123] ++ (fmtN x ++ ([44, 32] ++ ([50] ++ ([125, 32, 112, 114, 105, 110, 116, 40, 116, 91] ++ ([49] ++ ([93, 41, 32, 112, 114, 105, 110, 116, 40, 35, 116, 41])))))) := by
    simp only [sayP, sy16, List.append_assoc, List.cons_append, List.nil_append]
  rw [scanP_eq, e]
  rw [scA_piece s16_p0]
  rw [scA_fmt hx _ rfl]
  rw [scA_piece s16_p1]
  rw [scA_n2 _ rfl]
  rw [scA_piece s16_p2]
  rw [scA_n1 _ rfl]
  rw [s16_e]
  rfl
theorem s16_t (x L : Nat) : treeT (s16_T x L) = treeS x (s16_T y0N L) := by kernel_rfl
theorem s16_n (L : Nat) : treeT (s16_T y0N L) ≠ none := by
  have h : (treeT (s16_T y0N L)).isSome = true := by kernel_rfl
  intro e
  rw [e] at h
  cases h
theorem s16_c {x : Nat} (L : Nat) (hx : x < 9218868437227405312) (h : x ∉ [4611686018427387904, 4607182418800017408]) : ∀ q ∈ sayNums (s16_T y0N L), q ≠ x := by
  have e : (sayNums (s16_T y0N L)).all (fun q => [4611686018427387904, 4607182418800017408, y0N].contains q) = true := by kernel_rfl
  exact nums_ne hx h e
theorem s16_r (F : Nat → Bs) (x L : Nat) : sayR F (s16_T y0N L) x 2 = some (1, 0, nilV, 0, ((([] : Bs) ++ F x ++ [10]) ++ F (fromIntN ((2 : Nat) : Int)) ++ [10]), [((([] : Bs) ++ F x ++ [10]), 200), (((([] : Bs) ++ F x ++ [10]) ++ F (fromIntN ((2 : Nat) : Int)) ++ [10]), 200)]) := by kernel_rfl
theorem s16_q (F : Nat → Bs) (x L : Nat) : sayR F (s16_T y0N L) x 1 = some (5, 9, nilV, 0, (([] : Bs) ++ F x ++ [10]), [((([] : Bs) ++ F x ++ [10]), 200)]) := by kernel_rfl
theorem say_16 {x : Nat} (hx : x < 9218868437227405312) : SayOk (sayP 16 (fmtN x)) := by
  by_cases hm : x ∈ [4611686018427387904, 4607182418800017408]
  · simp only [List.mem_cons, List.not_mem_nil, or_false] at hm
    rcases hm with rfl | rfl
    all_goals exact say_closed (by kernel_rfl) (by decide) (by kernel_rfl) (by kernel_rfl)
  · have hl := fmt_len x (by omega)
    refine say_open (by simp [sayP, sy16]; omega) (Nat.le_of_ble_eq_true rfl) (s16_s hx) (s16_t x _) (s16_n _) (s16_c _ hx hm) (s16_r fmtN x _) (s16_q fmtN x _) ?_ ?_ ?_ ?_
    · simp [sayP, sy16, txt_one, txt_two, txt_three, int_two, int_three, fmt_neg hx]
    · simp [sayP, sy16, txt_one, txt_two, txt_three, int_two, int_three, fmt_neg hx]
    · exact log_ok (by simp only [List.mem_cons, List.not_mem_nil, or_false, forall_eq_or_imp, forall_eq, List.length_append, List.length_cons, List.length_nil, List.length_singleton, Int.cast_ofNat_Int, txt_one, txt_two, txt_three, int_two, int_three, fmt_neg hx]; omega)
    · exact log_ok (by simp only [List.mem_cons, List.not_mem_nil, or_false, forall_eq_or_imp, forall_eq, List.length_append, List.length_cons, List.length_nil, List.length_singleton, Int.cast_ofNat_Int, txt_one, txt_two, txt_three, int_two, int_three, fmt_neg hx]; omega)
end
end Go.Proofs.Qxb6500574aGreatDoor
