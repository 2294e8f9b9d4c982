/-
  THE WALK of runm.Answer.
-/
import Derived.Test.Qxb6500575aGreatDoorRVals
import Derived.Test.Qxb6500575aGreatDoorRegC
import Derived.Test.Qxb6500575aGreatDoorReg5
namespace Go.Proofs.Qxb6500575aGreatDoor
open Go Go.RowKit
set_option linter.unusedVariables false
set_option linter.unusedSimpArgs false

/-- a byte as a signed number -/
def sx (b : UInt8) : Int := IntKind.i8.wrap (b.toNat : Int)
theorem sx_le (b : UInt8) : -128 ≤ sx b ∧ sx b ≤ 127 := by
  have h : ∀ n : Fin 256, -128 ≤ IntKind.i8.wrap ((n.val : Nat) : Int) ∧ IntKind.i8.wrap ((n.val : Nat) : Int) ≤ 127 := by decide +kernel
  exact h ⟨b.toNat, b.toNat_lt⟩
theorem run_index_str (s : List UInt8) (i : Nat) (n : Int) (hn : n = i) {t : UInt8} (h : s[i]? = some t) (w : World) : (Instr.index 9 (sv s) (.int .i64 n)).run Tryz.prog w = .ok (.int .u8 t.toNat) w := by
  subst hn
  have hu : Tryz.prog.underlying 9 = some .string := by kernel_rfl
  have hl : i < s.length := (List.getElem?_eq_some_iff.1 h).1
  have ht : s[i] = t := (List.getElem?_eq_some_iff.1 h).2
  have hq : (⟨s.toArray⟩ : ByteArray)[i]? = some t := by
    have h2 : i < (⟨s.toArray⟩ : ByteArray).size := hl
    rw [getElem?_pos (⟨s.toArray⟩ : ByteArray) i h2]
    show some (s[i]) = _
    rw [ht]
  simp only [Instr.index, asIntOf, Sem.run_bind, Sem.run_pure, Result.andThen_ok, run_underlying hu, sv, Int.natCast_nonneg, if_true, Int.toNat_natCast, hq]
theorem wpQ_index {ops : Array Oper} {S : World → Prop} {T : Act → Prop} {o : Oper} {l : List Oper} {a : Act} (hg : o.guard = none) (x y : Operand) (s : List UInt8) (n : Int) (i : Nat) (t : UInt8) (ho : o.op = .index 9 x y) (hx : a.eval x = sv s) (hy : a.eval y = .int .i64 n) (hn : n = i) (ht : s[i]? = some t) (h : wpQuiet Tryz.prog ops S T l (a.put o.dst (.int .u8 t.toNat))) : wpQuiet Tryz.prog ops S T (o :: l) a :=
  wpQ_pure hg _ (fun w => by
    have := run_index_str s i n hn ht w
    simp only [execOp, ho, hx, hy]
    rw [Sem.run_bind, this]
    rfl) h
/-- runm.Answer: values, error -/
def answerP (tape : List UInt8) (k : Nat) : List BV × Int :=
  if 6 ≤ k ∨ tape.length ≤ 2 * k + 1 then ([], 16) else
    let t := tape.getD (2 * k) 0
    let v := sx (tape.getD (2 * k + 1) 0)
    if t = 105 ∨ t = 108 then ([⟨t, v⟩], 0)
    else if t = 50 then ([⟨105, v⟩, ⟨105, v⟩], 0)
    else if t = 73 then ([⟨105, 2147483648 + v⟩], 0)
    else if t = 74 then ([⟨105, -2147483648 + v⟩], 0)
    else if t = 84 then (if 11 ≤ v ∧ v < 18 then ([], v) else ([], 15))
    else if t = 33 ∨ t = 87 then ([], 15)
    else ([], 0)
def ansTV (t : UInt8) (v : Int) : List BV × Int :=
  if t = 105 ∨ t = 108 then ([⟨t, v⟩], 0)
  else if t = 50 then ([⟨105, v⟩, ⟨105, v⟩], 0)
  else if t = 73 then ([⟨105, 2147483648 + v⟩], 0)
  else if t = 74 then ([⟨105, -2147483648 + v⟩], 0)
  else if t = 84 then (if 11 ≤ v ∧ v < 18 then ([], v) else ([], 15))
  else if t = 33 ∨ t = 87 then ([], 15)
  else ([], 0)
theorem ne_code {t : UInt8} (c : UInt8) (h : t ≠ c) : ((t.toNat : Int) == (c.toNat : Int)) = false := by
  have h2 : t.toNat ≠ c.toNat := fun e => h (UInt8.toNat_inj.1 e)
  exact beq_eq_false_iff_ne.2 (by omega)
/-- what Answer leaves -/
def AnsPost (w : World) (r : List BV × Int) (e : Ending) (w' : World) : Prop :=
  ∃ v, e = .returned (.tuple #[v, .int .i64 r.2]) ∧ w'.ownsRow 0 70 2 v r.1.length (bvCells r.1) ∧ (∀ g, v.ownBlock = some g → w.heap.size ≤ g) ∧ Fr (fun _ => False) w w' ∧ (r.1 = [] → v = .slice none 0 0)
set_option maxRecDepth 100000
set_option maxHeartbeats 400000
theorem answer_done (tape : List UInt8) (k : Nat) (hk : k ≤ 100) (hd : 6 ≤ k ∨ tape.length ≤ 2 * k + 1) (w : World) : Calls Tryz.prog 154 #[sv tape, .int .i64 k] w (AnsPost w (answerP tape k)) := by
  have e : answerP tape k = ([], 16) := by unfold answerP; rw [if_pos hd]
  rw [e]
  clear e
  by_cases h6 : 6 ≤ k
  · go_enter Tryz.func154, Tryz.ntmps154
    go_wp2
    go_ret2
    exact ⟨_, rfl, World.ownsRow_nil _ _ _ _, fun g hg => (by cases hg), Fr.refl _ _, fun _ => rfl⟩
  · have hl : tape.length ≤ 2 * k + 1 := by omega
    go_enter Tryz.func154, Tryz.ntmps154
    go_wp2
    go_ret2
    exact ⟨_, rfl, World.ownsRow_nil _ _ _ _, fun g hg => (by cases hg), Fr.refl _ _, fun _ => rfl⟩
theorem answer_on (tape : List UInt8) (k : Nat) (h6 : k < 6) (hl : 2 * k + 1 < tape.length) (w : World) : Calls Tryz.prog 154 #[sv tape, .int .i64 k] w (AnsPost w (answerP tape k)) := by
  obtain ⟨t, ht⟩ : ∃ t, tape[2 * k]? = some t := ⟨_, List.getElem?_eq_getElem (by omega)⟩
  obtain ⟨b, hb⟩ : ∃ b, tape[2 * k + 1]? = some b := ⟨_, List.getElem?_eq_getElem (by omega)⟩
  have hP : answerP tape k = ansTV t (sx b) := by
    unfold answerP ansTV
    rw [if_neg (by omega)]
    simp only [List.getD_eq_getElem?_getD, ht, hb, Option.getD_some]
  rw [hP]
  clear hP
  obtain ⟨v, HV⟩ : ∃ v, Hid (v = sx b) := ⟨_, rfl⟩
  rw [← HV.out]
  go_enter Tryz.func154, Tryz.ntmps154
  go_wp2
  refine wp_region_quiet_lit (by kernel_rfl) (by kernel_rfl) ?_
  repeat go_big_quiet_step (fail)
  refine wpQ_index rfl (.tmp 22) (.tmp 24) tape (2 * (k : Int)) (2 * k) t rfl rfl rfl (by omega) ht ?_
  simp only [Act.put, List.setIfInBounds_toArray, List.set_cons_succ, List.set_cons_zero]
  repeat go_big_quiet_step (fail)
  refine wpQ_index rfl (.tmp 26) (.tmp 29) tape (2 * (k : Int) + 1) (2 * k + 1) b rfl rfl rfl (by omega) hb ?_
  simp only [Act.put, List.setIfInBounds_toArray, List.set_cons_succ, List.set_cons_zero]
  repeat go_big_quiet_step (fail)
  refine wpQuiet_nil ?_
  rintro w' ⟨nq, rfl⟩
  have hv := sx_le b
  rw [← HV.out] at hv
  have hw : wrap64 (IntKind.i8.wrap (b.toNat : Int)) = v := by
    rw [HV.out] at hv ⊢
    have : IntKind.i8.wrap (b.toNat : Int) = sx b := rfl
    rw [this]
    unfold wrap64
    omega
  rw [hw]
  clear hw ht hb
  by_cases h105 : t = 105
  · subst h105
    go_wp2
    go_ret2
    exact ⟨_, rfl, World.ownsRow_lit _ _ _ (Nat.zero_le _) (by unfold maxLen; decide) rfl, fun g hg => by simp [Value.ownBlock] at hg; omega, ((Fr.refl _ _).drewN _).alloc _, fun h => by cases h⟩
  by_cases h108 : t = 108
  · subst h108
    go_wp2
    go_ret2
    exact ⟨_, rfl, World.ownsRow_lit _ _ _ (Nat.zero_le _) (by unfold maxLen; decide) rfl, fun g hg => by simp [Value.ownBlock] at hg; omega, ((Fr.refl _ _).drewN _).alloc _, fun h => by cases h⟩
  have n105 : ((t.toNat : Int) == 105) = false := by simpa using ne_code 105 h105
  have n108 : ((t.toNat : Int) == 108) = false := by simpa using ne_code 108 h108
  by_cases h50 : t = 50
  · subst h50
    go_wp2
    go_ret2
    exact ⟨_, rfl, World.ownsRow_lit _ _ _ (Nat.zero_le _) (by unfold maxLen; decide) rfl, fun g hg => by simp [Value.ownBlock] at hg; omega, ((Fr.refl _ _).drewN _).alloc _, fun h => by cases h⟩
  have n50 : ((t.toNat : Int) == 50) = false := by simpa using ne_code 50 h50
  by_cases h73 : t = 73
  · subst h73
    go_wp2
    go_ret2
    exact ⟨_, rfl, World.ownsRow_lit _ _ _ (Nat.zero_le _) (by unfold maxLen; decide) rfl, fun g hg => by simp [Value.ownBlock] at hg; omega, ((Fr.refl _ _).drewN _).alloc _, fun h => by cases h⟩
  have n73 : ((t.toNat : Int) == 73) = false := by simpa using ne_code 73 h73
  by_cases h74 : t = 74
  · subst h74
    go_wp2
    go_ret2
    exact ⟨_, rfl, World.ownsRow_lit _ _ _ (Nat.zero_le _) (by unfold maxLen; decide) rfl, fun g hg => by simp [Value.ownBlock] at hg; omega, ((Fr.refl _ _).drewN _).alloc _, fun h => by cases h⟩
  have n74 : ((t.toNat : Int) == 74) = false := by simpa using ne_code 74 h74
  by_cases h84 : t = 84
  · subst h84
    by_cases hr : 11 ≤ v ∧ v < 18
    · obtain ⟨hr1, hr2⟩ := hr
      have e : ansTV 84 v = ([], v) := by simp [ansTV, hr1, hr2]
      go_wp2
      go_ret2
      (try rw [e])
      exact ⟨_, rfl, World.ownsRow_nil _ _ _ _, fun g hg => (by cases hg), (Fr.refl _ _).drewN _, fun _ => rfl⟩
    · have e : ansTV 84 v = ([], 15) := by simp [ansTV, hr]
      have hr' : ¬ 11 ≤ v ∨ ¬ v < 18 := by omega
      rcases hr' with hr' | hr'
      · go_wp2
        go_ret2
        (try rw [e])
        exact ⟨_, rfl, World.ownsRow_nil _ _ _ _, fun g hg => (by cases hg), (Fr.refl _ _).drewN _, fun _ => rfl⟩
      · have hr3 : 11 ≤ v := by omega
        go_wp2
        go_ret2
        (try rw [e])
        exact ⟨_, rfl, World.ownsRow_nil _ _ _ _, fun g hg => (by cases hg), (Fr.refl _ _).drewN _, fun _ => rfl⟩
  have n84 : ((t.toNat : Int) == 84) = false := by simpa using ne_code 84 h84
  by_cases h33 : t = 33
  · subst h33
    go_wp2
    go_ret2
    exact ⟨_, rfl, World.ownsRow_nil _ _ _ _, fun g hg => (by cases hg), (Fr.refl _ _).drewN _, fun _ => rfl⟩
  have n33 : ((t.toNat : Int) == 33) = false := by simpa using ne_code 33 h33
  by_cases h87 : t = 87
  · subst h87
    go_wp2
    go_ret2
    exact ⟨_, rfl, World.ownsRow_nil _ _ _ _, fun g hg => (by cases hg), (Fr.refl _ _).drewN _, fun _ => rfl⟩
  have n87 : ((t.toNat : Int) == 87) = false := by simpa using ne_code 87 h87
  have e : ansTV t v = ([], 0) := by simp [ansTV, h105, h108, h50, h73, h74, h84, h33, h87]
  go_wp2
  go_ret2
  (try rw [e])
  exact ⟨_, rfl, World.ownsRow_nil _ _ _ _, fun g hg => (by cases hg), (Fr.refl _ _).drewN _, fun _ => rfl⟩
theorem answer_any (tape : List UInt8) (k : Nat) (hk : k ≤ 100) (w : World) : Calls Tryz.prog 154 #[sv tape, .int .i64 k] w (AnsPost w (answerP tape k)) := by
  by_cases hd : 6 ≤ k ∨ tape.length ≤ 2 * k + 1
  · exact answer_done tape k hk hd w
  · exact answer_on tape k (by omega) (by omega) w
theorem answer_len (tape : List UInt8) (k : Nat) : (answerP tape k).1.length ≤ 2 := by
  unfold answerP
  simp only
  repeat' split
  all_goals simp
theorem answer_err (tape : List UInt8) (k : Nat) (h : (answerP tape k).2 ≠ 0) : (answerP tape k).1 = [] := by
  unfold answerP at h ⊢
  simp only at h ⊢
  repeat' split
  all_goals simp_all
theorem answer_fits (tape : List UInt8) (k : Nat) : ∀ b ∈ (answerP tape k).1, -9223372036854775808 ≤ b.v ∧ b.v < 9223372036854775808 := by
  unfold answerP
  have h := sx_le (tape.getD (2 * k + 1) 0)
  simp only
  generalize sx (tape.getD (2 * k + 1) 0) = v at *
  repeat' split
  all_goals
    intro b hb
    simp at hb
  all_goals (try subst hb)
  all_goals (try simp only)
  all_goals omega
end Go.Proofs.Qxb6500575aGreatDoor
