/-
  moon: THE MACHINE AT REST: its output grows by lines; without fuel nothing is called, nothing said. Plain laws; no walk.
-/
import Derived.Test.Qxb6500574aGreatDoorVInv9
namespace Go.Proofs.Qxb6500574aGreatDoor
set_option linter.unusedVariables false
set_option linter.unusedSimpArgs false

/-! ### the output grows by lines -/
def Ln (o o' : Bs) : Prop := o <+: o' ∧ (o' = o ∨ o'.getLast? = some 10)
theorem Ln.refl (o : Bs) : Ln o o := ⟨List.prefix_refl _, .inl rfl⟩
theorem Ln.of_eq {o o' : Bs} (h : o' = o) : Ln o o' := by rw [h]; exact Ln.refl o
theorem Ln.trans {a b c : Bs} (h : Ln a b) (g : Ln b c) : Ln a c := by
  refine ⟨h.1.trans g.1, ?_⟩
  rcases g.2 with e | e
  · rw [e]; exact h.2
  · exact .inr e
theorem builtinP_ln (m : VMD) (b : Nat) (a0 a1 : Vl) : Ln m.out (builtinP m b a0 a1).2.out := by
  unfold builtinP
  dsimp only
  repeat' (first | exact Ln.refl _ | split)
  exact ⟨⟨textV a0 ++ [10], by simp⟩, .inr (by simp)⟩
theorem callP_ln (m : VMD) (i x : Nat) : Ln m.out (callP m i x).2.out := by
  unfold callP
  dsimp only
  repeat' (first | exact Ln.refl _ | split)
  all_goals
    rename_i he
    have h1 := builtinP_ln (setPc m i ((topF m i).pc + 1)) _ _ _ |>.trans (by rw [he]; exact Ln.refl _)
    exact h1
theorem instrP_ln (m : VMD) (i : Nat) : Ln m.out (instrP m i).2.2.out := by
  unfold instrP
  dsimp only
  repeat' (first | exact Ln.refl _ | exact callP_ln _ _ _ | (rw [retP_out]; exact Ln.refl _) | (rw [bump_out, plainP_out]; exact Ln.refl _) | split)
theorem roundP_ln (fu : Nat) (m : VMD) (i : Nat) : Ln m.out (rndM (roundP fu m i)).out := by
  have h := instrP_ln m i
  unfold roundP
  dsimp only
  split
  · exact Ln.refl _
  · split
    · rename_i v m1 he
      rw [he] at h
      split
      · rename_i m2 hu
        have := unwindN_out _ _ _ _ _ hu
        rw [show (rndM (.inl (_, m2) : Sum (Nat × VMD) (EvD × Nat × VMD))) = m2 from rfl, this]
        exact h
      · rw [show ∀ e k, (rndM (.inr (e, k, kill m1 i) : Sum (Nat × VMD) (EvD × Nat × VMD))) = kill m1 i from fun _ _ => rfl, kill_out]
        exact h
    · rename_i e m1 he
      rw [he] at h
      exact h
    · rename_i ev m1 he
      rw [he] at h
      split <;> exact h
theorem roundsP_ln (i : Nat) : ∀ {n fu : Nat} {m : VMD} {r}, roundsP n fu m i = some r → Ln m.out r.2.2.out := by
  intro n
  induction n with
  | zero => intro fu m r h; cases h
  | succ n ih =>
    intro fu m r h
    have h1 := roundP_ln fu m i
    unfold roundsP at h
    cases hr : roundP fu m i with
    | inr x => rw [hr] at h h1; cases h; exact h1
    | inl x => rw [hr] at h h1; exact h1.trans (ih h)

/-! ### without fuel -/
def Msg (v : Vl) : Prop := v ∈ [strV mArith, strV mConcat, strV mLong, strV mCompare, strV mIndex, strV mKey, strV mLen, strV mFor, strV mNext]
def Quiet (r : RR Unit) : Prop := ∀ v, r.1 = .inl (.inl v) → Msg v
theorem Quiet.ok {u : Unit} {m : VMD} : Quiet (.inr u, m) := fun v e => by cases e
theorem Quiet.trap {e : Nat} {m : VMD} : Quiet (trapR e m) := fun v e => by cases e
theorem Quiet.thr {s : Bs} {m : VMD} (h : Msg (strV s)) : Quiet (thrR s m) := fun v e => by cases e; exact h
theorem storeP_q (m : VMD) (h : Nat) (k v : Vl) : Quiet (storeP m h k v) := by
  unfold storeP
  dsimp only
  repeat' (first | exact Quiet.ok | exact Quiet.trap | exact Quiet.thr (by simp [Msg]) | split)
theorem operP_q (m : VMD) (i op x : Nat) : Quiet (operP m i op x) := by
  unfold operP
  dsimp only
  repeat' (first | exact Quiet.ok | exact Quiet.trap | exact Quiet.thr (by simp [Msg]) | split)
theorem forP_q (m : VMD) (i op x : Nat) : Quiet (forP m i op x) := by
  unfold forP
  dsimp only
  repeat' (first | exact Quiet.ok | exact Quiet.trap | exact Quiet.thr (by simp [Msg]) | split)
theorem closure_q (m : VMD) (i b c x : Nat) : ∀ v, (closure m i b c x).1 ≠ .inl (.inl v) := by
  intro v
  unfold closure
  split
  · exact fun e => by cases e
  · exact fun e => by cases e
theorem plainP_q (m : VMD) (i op x : Nat) : Quiet (plainP m i op x) := by
  have hc := closure_q m i (topF m i).base (topF m i).clo x
  unfold plainP
  dsimp only
  repeat' (first | exact Quiet.ok | exact Quiet.trap | exact Quiet.thr (by simp [Msg]) | exact storeP_q _ _ _ _ | exact operP_q _ _ _ _ | exact forP_q _ _ _ _ | with_reducible refine iteInduction (motive := fun r : RR Unit => Quiet r) (fun _ => ?_) (fun _ => ?_) | split)
  all_goals
    rename_i he
    rw [he] at hc
    intro v e
    cases e
    exact absurd rfl (hc v)
theorem retP_q (m : VMD) (i : Nat) : ∃ ev, (retP m i).1 = .inr ev ∧ ev.k ≠ 3 := by
  unfold retP
  dsimp only
  split
  · exact ⟨_, rfl, by simp⟩
  · exact ⟨_, rfl, by simp [ev0]⟩
theorem bump_q (i : Nat) {r : RR Unit} (h : Quiet r) : (∀ v, (bump i r).1 = .inl (.inl v) → Msg v) ∧ ∀ ev, (bump i r).1 = .inr ev → ev.k ≠ 3 := by
  unfold bump
  split
  · rename_i fl m1
    refine ⟨fun v e => h v (by cases e; rfl), fun ev e => (by cases e)⟩
  · exact ⟨fun v e => (by cases e), fun ev e => (by cases e; simp [ev0])⟩
def Q2 (x : Bool × RR EvD) : Prop := x.1 = false → (∀ v, x.2.1 = .inl (.inl v) → Msg v) ∧ ∀ ev, x.2.1 = .inr ev → ev.k ≠ 3
theorem Q2.burn {r : RR EvD} : Q2 (true, r) := fun h => by cases h
theorem Q2.trap {b : Bool} {e : Nat} {m : VMD} : Q2 (b, trapR e m) := fun _ => ⟨fun v e => (by cases e), fun v e => (by cases e)⟩
theorem Q2.go {b : Bool} {m : VMD} : Q2 (b, (.inr ev0, m)) := fun _ => ⟨fun v e => (by cases e), fun v e => (by cases e; simp [ev0])⟩
theorem Q2.ret {b : Bool} {m : VMD} {i : Nat} : Q2 (b, retP m i) := fun _ => by
  obtain ⟨ev1, e1, e2⟩ := retP_q m i
  refine ⟨fun v e => ?_, fun ev e => ?_⟩
  · have e : (retP m i).1 = .inl (.inl v) := e
    rw [e1] at e; cases e
  · have e : (retP m i).1 = .inr ev := e
    rw [e1] at e; cases e; exact e2
theorem instrP_q (m : VMD) (i : Nat) : Q2 (instrP m i) := by
  unfold instrP
  dsimp only
  repeat' (first | exact Q2.burn | exact Q2.trap | exact Q2.go | exact Q2.ret | exact (fun _ => bump_q i (plainP_q _ _ _ _)) | split)
theorem roundP_q (m : VMD) (i : Nat) : ∀ r, roundP 0 m i = .inr r → r.1.k ≠ 3 ∧ (r.1.k = 2 → Msg r.1.v) := by
  have hs := instrP_q m i
  unfold roundP
  dsimp only
  by_cases hb : (instrP m i).1 = true
  · rw [if_pos ⟨hb, rfl⟩]
    exact fun r e => by cases e; exact ⟨by simp, fun e => by simp at e⟩
  · have hb' : (instrP m i).1 = false := by simpa using hb
    obtain ⟨h1, h2⟩ := hs hb'
    rw [if_neg (fun x => hb x.1), hb']
    simp only [Bool.false_eq_true, if_false]
    generalize hgr : (instrP m i).2 = r at h1 h2 ⊢
    obtain ⟨r1, m1⟩ := r
    dsimp only at h1 h2
    cases r1 with
    | inl fl =>
      cases fl with
      | inl v =>
        dsimp only
        cases hu : unwindN ((m1.th i).frames.length - 1) m1 i v with
        | some m2 => exact fun r e => by cases e
        | none => exact fun r e => by cases e; exact ⟨by simp, fun _ => h1 v rfl⟩
      | inr e => exact fun r e => by cases e; exact ⟨by simp, fun e => by simp at e⟩
    | inr ev =>
      dsimp only
      have hk4 := instrP_k m i (by rw [hgr])
      split
      · exact fun r e => by cases e
      · exact fun r e => by cases e; exact ⟨h2 ev rfl, fun e => by dsimp only at e; omega⟩
theorem roundsP_q (i : Nat) : ∀ {n : Nat} {m : VMD} {r}, roundsP n 0 m i = some r → r.1.k ≠ 3 ∧ (r.1.k = 2 → Msg r.1.v) := by
  intro n
  induction n with
  | zero => intro m r h; cases h
  | succ n ih =>
    intro m r h
    obtain ⟨h1, h2, h3⟩ := roundP_still m i
    have hq := roundP_q m i
    unfold roundsP at h
    cases hr : roundP 0 m i with
    | inr x => rw [hr] at h; cases h; exact hq _ hr
    | inl x =>
      rw [hr] at h h2
      have hx : x.1 = 0 := h2
      dsimp only at h
      rw [hx] at h
      exact ih h
end Go.Proofs.Qxb6500574aGreatDoor
