/-
  moon: FUEL ONLY CUTS. Plain laws; no memory, no walk.
-/
import Derived.Test.Qxb6500574aGreatDoorVPlain
namespace Go.Proofs.Qxb6500574aGreatDoor
set_option linter.unusedVariables false
set_option linter.unusedSimpArgs false

theorem roundsP_mono {i : Nat} : ∀ {n N fu : Nat} {m : VMD} {r}, roundsP n fu m i = some r → n ≤ N → roundsP N fu m i = some r := by
  intro n
  induction n with
  | zero => intro N fu m r h; cases h
  | succ n ih =>
    intro N fu m r h hN
    obtain ⟨N, rfl⟩ : ∃ k, N = k + 1 := ⟨N - 1, by omega⟩
    unfold roundsP at h ⊢
    revert h
    cases roundP fu m i with
    | inr x => intro h; exact h
    | inl x => intro h; exact ih h (by omega)
theorem coP_mono : ∀ {n N i : Nat} {a b : Vl} {fu : Nat} {m : VMD} {s : Nat} {r}, coP n i a b fu m s = some r → n ≤ N → coP N i a b fu m s = some r := by
  intro n
  induction n with
  | zero => intro N i a b fu m s r h; cases h
  | succ n ih =>
    intro N i a b fu m s r h hN
    obtain ⟨N, rfl⟩ : ∃ k, N = k + 1 := ⟨N - 1, by omega⟩
    unfold coP at h ⊢
    cases hr : roundsP n fu (startP m i a b) i with
    | none => rw [hr] at h; cases h
    | some x =>
      obtain ⟨ev, fu1, m1⟩ := x
      rw [hr] at h
      rw [roundsP_mono hr (by omega)]
      dsimp only at h ⊢
      split at h
      · rename_i h4
        rw [if_pos h4]
        cases hc : coP n ev.th ev.v nilV fu1 m1 (if (m1.th ev.th).st = 1 then s + 1 else s) with
        | none => rw [hc] at h; cases h
        | some y =>
          obtain ⟨rb, fu2, m2, s2⟩ := y
          rw [hc] at h
          rw [ih hc (by omega)]
          dsimp only at h ⊢
          split at h
          · rename_i h3; rw [if_pos h3]; exact h
          · rename_i h3; rw [if_neg h3]; exact ih h (by omega)
      · rename_i h4
        rw [if_neg h4]
        exact h
theorem coP_det {n N i : Nat} {a b : Vl} {fu : Nat} {m : VMD} {s : Nat} {r r'} (h : coP n i a b fu m s = some r) (h' : coP N i a b fu m s = some r') : r = r' := by
  have h1 := coP_mono h (Nat.le_max_left n N)
  have h2 := coP_mono h' (Nat.le_max_right n N)
  rw [h1] at h2
  exact Option.some.inj h2
theorem roundsP_det {n N i : Nat} {fu : Nat} {m : VMD} {r r'} (h : roundsP n fu m i = some r) (h' : roundsP N fu m i = some r') : r = r' := by
  have h1 := roundsP_mono h (Nat.le_max_left n N)
  have h2 := roundsP_mono h' (Nat.le_max_right n N)
  rw [h1] at h2
  exact Option.some.inj h2

/-- no instruction ends the machine for want of fuel, nor as a bad one -/
def TrapOk {α : Type} (r : Sum Fly α × VMD) : Prop := ∀ e, r.1 = .inl (.inr e) → e = 8 ∨ e = 10 ∨ e = 11
theorem TrapOk.thr {α : Type} (s : Bs) (m : VMD) : TrapOk (thrR s m : RR α) := by intro e h; simp [thrR] at h
theorem TrapOk.inr {α : Type} (a : α) (m : VMD) : TrapOk ((.inr a, m) : RR α) := by intro e h; simp at h
theorem TrapOk.fly {α : Type} (v : Vl) (m : VMD) : TrapOk ((.inl (.inl v), m) : RR α) := by intro e h; simp at h
theorem TrapOk.trap {α : Type} {k : Nat} (m : VMD) (h : k = 8 ∨ k = 10 ∨ k = 11) : TrapOk (trapR k m : RR α) := by
  intro e he
  simp [trapR] at he
  omega
theorem TrapOk.bump {i : Nat} {r : RR Unit} (h : TrapOk r) : TrapOk (bump i r) := by
  intro e he
  unfold Go.Proofs.Qxb6500574aGreatDoor.bump at he
  split at he
  · exact h e (by simpa using he)
  · simp at he
theorem storeP_trap (m : VMD) (h : Nat) (k v : Vl) : TrapOk (storeP m h k v) := by unfold storeP; dsimp only; repeat' (first | with_reducible exact TrapOk.thr _ _ | with_reducible exact TrapOk.inr _ _ | with_reducible exact TrapOk.fly _ _ | with_reducible exact TrapOk.trap _ (by omega) | split)
theorem operP_trap (m : VMD) (i op x : Nat) : TrapOk (operP m i op x) := by unfold operP; dsimp only; repeat' (first | with_reducible exact TrapOk.thr _ _ | with_reducible exact TrapOk.inr _ _ | with_reducible exact TrapOk.fly _ _ | with_reducible exact TrapOk.trap _ (by omega) | split)
theorem forP_trap (m : VMD) (i op x : Nat) : TrapOk (forP m i op x) := by unfold forP; dsimp only; repeat' (first | with_reducible exact TrapOk.thr _ _ | with_reducible exact TrapOk.inr _ _ | with_reducible exact TrapOk.fly _ _ | with_reducible exact TrapOk.trap _ (by omega) | split)
theorem closure_trap (m : VMD) (i b c x : Nat) : TrapOk (closure m i b c x) := by unfold closure; dsimp only; repeat' (first | with_reducible exact TrapOk.thr _ _ | with_reducible exact TrapOk.inr _ _ | with_reducible exact TrapOk.fly _ _ | with_reducible exact TrapOk.trap _ (by omega) | split)
theorem builtinP_trap (m : VMD) (b : Nat) (a0 a1 : Vl) : TrapOk (builtinP m b a0 a1) := by unfold builtinP; dsimp only; repeat' (first | with_reducible exact TrapOk.thr _ _ | with_reducible exact TrapOk.inr _ _ | with_reducible exact TrapOk.fly _ _ | with_reducible exact TrapOk.trap _ (by omega) | split)
theorem plainP_trap (m : VMD) (i op x : Nat) : TrapOk (plainP m i op x) := by
  unfold plainP
  dsimp only
  repeat' (first | with_reducible exact TrapOk.thr _ _ | with_reducible exact TrapOk.inr _ _ | with_reducible exact TrapOk.trap _ (by omega) | with_reducible exact storeP_trap _ _ _ _ | with_reducible exact operP_trap _ _ _ _ | with_reducible exact forP_trap _ _ _ _ | refine iteInduction (motive := TrapOk) (fun _ => ?_) (fun _ => ?_))
  have := closure_trap m i (topF m i).base (topF m i).clo x
  split
  · rename_i fl m1 he
    rw [he] at this
    intro e h
    exact this e (by simpa using h)
  · exact TrapOk.inr _ _
theorem callP_trap (m : VMD) (i x : Nat) : TrapOk (callP m i x) := by
  unfold callP
  dsimp only
  repeat' (first | with_reducible exact TrapOk.thr _ _ | with_reducible exact TrapOk.inr _ _ | with_reducible exact TrapOk.trap _ (by omega) | split)
  rename_i fl m1 he
  intro e h
  have := builtinP_trap _ _ _ _ e (by rw [he]; simpa using h)
  exact this
theorem retP_trap (m : VMD) (i : Nat) : TrapOk (retP m i) := by unfold retP; dsimp only; repeat' (first | with_reducible exact TrapOk.thr _ _ | with_reducible exact TrapOk.inr _ _ | with_reducible exact TrapOk.fly _ _ | with_reducible exact TrapOk.trap _ (by omega) | split)
theorem instrP_trap (m : VMD) (i : Nat) : TrapOk (instrP m i).2 := by
  unfold instrP
  dsimp only
  repeat' (first | with_reducible exact TrapOk.thr _ _ | with_reducible exact TrapOk.inr _ _ | with_reducible exact TrapOk.trap _ (by omega) | with_reducible exact callP_trap _ _ _ | with_reducible exact retP_trap _ _ | with_reducible exact (plainP_trap _ _ _ _).bump | split)

/-! ### the output only grows -/
theorem setTh_out (m : VMD) (i : Nat) (t : ThD) : (m.setTh i t).out = m.out := rfl
theorem push_out (m : VMD) (i : Nat) (vs : List Vl) : (push m i vs).out = m.out := rfl
theorem cut_out (m : VMD) (i n : Nat) : (cut m i n).out = m.out := rfl
theorem pops_out (m : VMD) (i n : Nat) : (pops m i n).out = m.out := rfl
theorem setPc_out (m : VMD) (i n : Nat) : (setPc m i n).out = m.out := rfl
theorem enter_out (m : VMD) (i c : Nat) (a : List Vl) (r : Nat) (p : Bool) : (enter m i c a r p).out = m.out := rfl
theorem spawn_out (m : VMD) (n : Nat) : (spawn m n).out = m.out := rfl
theorem closeN_out (i a : Nat) : ∀ (n : Nat) (m : VMD), (closeN n m i a).out = m.out := by
  intro n
  induction n with
  | zero => intro m; rfl
  | succ n ih =>
    intro m
    unfold closeN
    dsimp only
    split
    · rfl
    · rw [ih]
theorem closeFrom_out (m : VMD) (i a : Nat) : (closeFrom m i a).out = m.out := closeN_out _ _ _ _
theorem kill_out (m : VMD) (i : Nat) : (kill m i).out = m.out := closeFrom_out m i 0
theorem capture_out (m : VMD) (i a : Nat) : (capture m i a).2.out = m.out := by
  unfold capture
  dsimp only
  split <;> rfl
theorem setUp_out (m : VMD) (c x : Nat) (v : Vl) : (setUp m c x v).out = m.out := by
  unfold setUp
  dsimp only
  split <;> rfl
theorem closL_out (i base clo : Nat) : ∀ (l : List (Nat × Nat)) (m : VMD), (closL i base clo l m).out = m.out := by
  intro l
  induction l with
  | nil => intro m; rfl
  | cons d r ih =>
    intro m
    unfold closL
    split
    · dsimp only
      rw [ih]
      exact capture_out _ _ _
    · rw [ih]
theorem closure_out (m : VMD) (i b c x : Nat) : (closure m i b c x).2.out = m.out := by
  unfold closure
  split
  · rfl
  · exact closL_out _ _ _ _ _
theorem storeP_out (m : VMD) (h : Nat) (k v : Vl) : (storeP m h k v).2.out = m.out := by
  unfold storeP
  dsimp only
  repeat' (first | rfl | split)
theorem operP_out (m : VMD) (i op x : Nat) : (operP m i op x).2.out = m.out := by
  unfold operP
  dsimp only
  repeat' (first | rfl | split)
theorem forP_out (m : VMD) (i op x : Nat) : (forP m i op x).2.out = m.out := by
  unfold forP
  dsimp only
  repeat' (first | rfl | split)
theorem plainP_out (m : VMD) (i op x : Nat) : (plainP m i op x).2.out = m.out := by
  unfold plainP
  dsimp only
  repeat' (first | with_reducible rfl | with_reducible exact storeP_out _ _ _ _ | with_reducible exact operP_out _ _ _ _ | with_reducible exact forP_out _ _ _ _ | with_reducible refine iteInduction (motive := fun r : RR Unit => r.2.out = m.out) (fun _ => ?_) (fun _ => ?_))
  all_goals first
    | rfl
    | (exact (storeP_out _ _ _ _).trans rfl)
    | exact operP_out _ _ _ _
    | exact forP_out _ _ _ _
    | (exact (setUp_out _ _ _ _).trans rfl)
    | exact closeFrom_out _ _ _
    | skip
  have h := closure_out m i (topF m i).base (topF m i).clo x
  split
  · rename_i fl m1 he
    rw [he] at h
    exact h
  · rename_i fl m1 he
    rw [he] at h
    exact h
theorem retP_out (m : VMD) (i : Nat) : (retP m i).2.out = m.out := by
  unfold retP
  dsimp only
  split
  · exact (kill_out _ _).trans rfl
  · rw [setTh_out, push_out, cut_out, closeFrom_out]; rfl
theorem builtinP_out (m : VMD) (b : Nat) (a0 a1 : Vl) : m.out <+: (builtinP m b a0 a1).2.out := by
  unfold builtinP
  dsimp only
  repeat' (first | exact List.prefix_refl _ | split)
  exact ⟨textV a0 ++ [10], by simp⟩
theorem callP_out (m : VMD) (i x : Nat) : m.out <+: (callP m i x).2.out := by
  unfold callP
  dsimp only
  repeat' (first | exact List.prefix_refl _ | split)
  all_goals
    rename_i he
    have h1 := builtinP_out (setPc m i ((topF m i).pc + 1)) _ _ _ |>.trans (by rw [he]; exact List.prefix_refl _)
    exact h1
theorem bump_out (i : Nat) (r : RR Unit) : (bump i r).2.out = r.2.out := by
  unfold bump
  split <;> rfl
theorem instrP_out (m : VMD) (i : Nat) : m.out <+: (instrP m i).2.2.out := by
  unfold instrP
  dsimp only
  repeat' (first | exact List.prefix_refl _ | exact callP_out _ _ _ | (rw [retP_out]; exact List.prefix_refl _) | (rw [bump_out, plainP_out]; exact List.prefix_refl _) | split)
theorem unwindN_out (i : Nat) (v : Vl) : ∀ (n : Nat) (m m' : VMD), unwindN n m i v = some m' → m'.out = m.out := by
  intro n
  induction n with
  | zero => intro m m' h; cases h
  | succ n ih =>
    intro m m' h
    unfold unwindN at h
    dsimp only at h
    split at h
    · cases h
      rw [push_out, setTh_out, cut_out, closeFrom_out]
    · exact ih _ _ h
theorem startP_out (m : VMD) (i : Nat) (a b : Vl) : (startP m i a b).out = m.out := by
  unfold startP
  dsimp only
  split <;> rfl
/-- a round's machine -/
def rndM : Sum (Nat × VMD) (EvD × Nat × VMD) → VMD
  | .inl r => r.2
  | .inr r => r.2.2
def rndF : Sum (Nat × VMD) (EvD × Nat × VMD) → Nat
  | .inl r => r.1
  | .inr r => r.2.1
theorem roundP_out (fu : Nat) (m : VMD) (i : Nat) : m.out <+: (rndM (roundP fu m i)).out := by
  have h := instrP_out m i
  unfold roundP
  dsimp only
  split
  · exact List.prefix_refl _
  · split
    · rename_i v m1 he
      rw [he] at h
      split
      · rename_i m2 hu
        have := unwindN_out _ _ _ _ _ hu
        rw [show (rndM (.inl (_, m2) : Sum (Nat × VMD) (EvD × Nat × VMD))) = m2 from rfl, this]
        exact h
      · rw [show ∀ e k, (rndM (.inr (e, k, kill m1 i) : Sum (Nat × VMD) (EvD × Nat × VMD))) = kill m1 i from fun _ _ => rfl, kill_out]
        exact h
    · rename_i e m1 he
      rw [he] at h
      exact h
    · rename_i ev m1 he
      rw [he] at h
      split <;> exact h
theorem roundsP_out (i : Nat) : ∀ {n fu : Nat} {m : VMD} {r}, roundsP n fu m i = some r → m.out <+: r.2.2.out := by
  intro n
  induction n with
  | zero => intro fu m r h; cases h
  | succ n ih =>
    intro fu m r h
    have ho := roundP_out fu m i
    unfold roundsP at h
    cases hr : roundP fu m i with
    | inr x =>
      rw [hr] at h ho
      cases h
      exact ho
    | inl x =>
      rw [hr] at h ho
      exact ho.trans (ih h)
theorem coP_ext : ∀ {n i : Nat} {a b : Vl} {fu : Nat} {m : VMD} {s : Nat} {r}, coP n i a b fu m s = some r → m.out <+: r.2.2.1.out ∧ s ≤ r.2.2.2 := by
  intro n
  induction n with
  | zero => intro i a b fu m s r h; cases h
  | succ n ih =>
    intro i a b fu m s r h
    unfold coP at h
    cases hr : roundsP n fu (startP m i a b) i with
    | none => rw [hr] at h; cases h
    | some x =>
      obtain ⟨ev, fu1, m1⟩ := x
      have ho := roundsP_out i hr
      rw [startP_out] at ho
      rw [hr] at h
      dsimp only at h ho
      split at h
      · cases hc : coP n ev.th ev.v nilV fu1 m1 (if (m1.th ev.th).st = 1 then s + 1 else s) with
        | none => rw [hc] at h; cases h
        | some y =>
          obtain ⟨rb, fu2, m2, s2⟩ := y
          obtain ⟨o2, e2⟩ := ih hc
          have e2' : s ≤ s2 := by
            dsimp only at e2
            split at e2 <;> omega
          rw [hc] at h
          dsimp only at h o2
          split at h
          · cases h
            exact ⟨ho.trans o2, e2'⟩
          · obtain ⟨o3, e3⟩ := ih h
            exact ⟨(ho.trans o2).trans o3, Nat.le_trans e2' e3⟩
      · repeat' (split at h)
        all_goals
          cases h
          exact ⟨ho, Nat.le_refl _⟩

/-! ### a round on one fuel more -/
def fuelEv : EvD := ⟨5, 0, 9, nilV, nilV⟩
def isFuel (e : EvD) : Prop := e.k = 5 ∧ e.e = 9
def moreF (k : Nat) : Sum (Nat × VMD) (EvD × Nat × VMD) → Sum (Nat × VMD) (EvD × Nat × VMD)
  | .inl r => .inl (r.1 + k, r.2)
  | .inr r => .inr (r.1, r.2.1 + k, r.2.2)
theorem callP_k (m : VMD) (i x : Nat) {ev m1} (h : callP m i x = (.inr ev, m1)) : ev.k = 0 ∨ ev.k = 3 ∨ ev.k = 4 := by
  unfold callP at h
  dsimp only at h
  repeat' (first | (simp [thrR, ev0] at h; done) | split at h)
  all_goals first | (simp only [thrR, Prod.mk.injEq, Sum.inr.injEq, reduceCtorEq, false_and] at h; done) | (simp only [Prod.mk.injEq, Sum.inr.injEq] at h; rw [← h.1]; simp [ev0]; done) | skip
theorem retP_k (m : VMD) (i : Nat) {ev m1} (h : retP m i = (.inr ev, m1)) : ev.k = 0 ∨ ev.k = 1 := by
  unfold retP at h
  dsimp only at h
  split at h <;> (simp only [Prod.mk.injEq, Sum.inr.injEq] at h; rw [← h.1]; simp [ev0])
theorem bump_k (i : Nat) (r : RR Unit) {ev m1} (h : bump i r = (.inr ev, m1)) : ev.k = 0 := by
  unfold bump at h
  split at h
  · simp at h
  · simp only [Prod.mk.injEq, Sum.inr.injEq] at h; rw [← h.1]; simp [ev0]
theorem instrP_k (m : VMD) (i : Nat) {ev m1} (h : (instrP m i).2 = (.inr ev, m1)) : ev.k ≤ 4 ∧ ev.k ≠ 2 := by
  unfold instrP at h
  dsimp only at h
  repeat' (split at h)
  all_goals first
    | (simp [trapR] at h; done)
    | (have := callP_k _ _ _ h; omega)
    | (have := retP_k _ _ h; omega)
    | (have := bump_k _ _ h; omega)
    | (simp only [Prod.mk.injEq, Sum.inr.injEq] at h; rw [← h.1]; simp [ev0]; done)
theorem roundP_more (k fu : Nat) (m : VMD) (i : Nat) : roundP (fu + k) m i = moreF k (roundP fu m i) ∨ (roundP fu m i = .inr (fuelEv, 0, m) ∧ fu = 0) := by
  by_cases hb : (instrP m i).1 = true ∧ fu = 0
  · right
    refine ⟨?_, hb.2⟩
    unfold roundP
    dsimp only
    rw [if_pos hb, hb.2]
    rfl
  · left
    unfold roundP
    dsimp only
    rw [if_neg hb, if_neg (fun h => hb ⟨h.1, by omega⟩)]
    have hf : (if (instrP m i).1 = true then fu + k - 1 else fu + k) = (if (instrP m i).1 = true then fu - 1 else fu) + k := by
      split
      · rename_i h
        have : fu ≠ 0 := fun e => hb ⟨h, e⟩
        omega
      · rfl
    rw [hf]
    split
    · split <;> rfl
    · rfl
    · split <;> rfl
/-- the event of a round is the fuel's only where the fuel was out -/
theorem roundP_ev {fu : Nat} {m : VMD} {i : Nat} {r} (h : roundP fu m i = .inr r) (hf : isFuel r.1) : r = (fuelEv, 0, m) ∧ fu = 0 := by
  unfold roundP at h
  dsimp only at h
  split at h
  · rename_i hb
    cases h
    exact ⟨by rw [hb.2]; rfl, hb.2⟩
  · split at h
    · split at h
      · cases h
      · cases h; have := hf.1; simp at this
    · rename_i e m1 he
      cases h
      have := instrP_trap m i e (by rw [he])
      have := hf.2
      simp at this
      omega
    · rename_i ev m1 he
      have := instrP_k _ _ he
      split at h
      · cases h
      · cases h
        have := hf.1
        simp at this
        omega
theorem roundsP_more (k i : Nat) : ∀ {n fu : Nat} {m : VMD} {r}, roundsP n fu m i = some r → ¬ isFuel r.1 → roundsP n (fu + k) m i = some (r.1, r.2.1 + k, r.2.2) := by
  intro n
  induction n with
  | zero => intro fu m r h; cases h
  | succ n ih =>
    intro fu m r h hn
    unfold roundsP at h ⊢
    rcases roundP_more k fu m i with hm | ⟨hm, _⟩
    · rw [hm]
      cases hr : roundP fu m i with
      | inr x =>
        rw [hr] at h
        cases h
        rfl
      | inl x =>
        rw [hr] at h
        exact ih h hn
    · rw [hm] at h
      cases h
      exact absurd ⟨rfl, rfl⟩ hn
theorem roundsP_cut (k i : Nat) : ∀ {n fu : Nat} {m : VMD} {r}, roundsP n fu m i = some r → isFuel r.1 → r.1 = fuelEv ∧ r.2.1 = 0 ∧ ∀ N r', roundsP N (fu + k) m i = some r' → r.2.2.out <+: r'.2.2.out := by
  intro n
  induction n with
  | zero => intro fu m r h; cases h
  | succ n ih =>
    intro fu m r h hn
    unfold roundsP at h
    cases hr : roundP fu m i with
    | inr x =>
      rw [hr] at h
      cases h
      obtain ⟨h1, h2⟩ := roundP_ev hr hn
      rw [h1]
      exact ⟨rfl, rfl, fun N r' h' => roundsP_out i h'⟩
    | inl x =>
      rw [hr] at h
      obtain ⟨h1, h2, h3⟩ := ih h hn
      refine ⟨h1, h2, fun N r' h' => ?_⟩
      rcases roundP_more k fu m i with hm | ⟨hm, _⟩
      · cases N with
        | zero => cases h'
        | succ N =>
          unfold roundsP at h'
          rw [hm, hr] at h'
          exact h3 N r' h'
      · rw [hr] at hm
        cases hm
theorem roundP_fall (fu : Nat) (m : VMD) (i : Nat) : rndF (roundP fu m i) ≤ fu := by
  unfold roundP
  dsimp only
  split
  · exact Nat.le_refl _
  · repeat' split
    all_goals (simp only [rndF]; omega)
theorem roundsP_fall (i : Nat) : ∀ {n fu : Nat} {m : VMD} {r}, roundsP n fu m i = some r → r.2.1 ≤ fu := by
  intro n
  induction n with
  | zero => intro fu m r h; cases h
  | succ n ih =>
    intro fu m r h
    have hf := roundP_fall fu m i
    unfold roundsP at h
    cases hr : roundP fu m i with
    | inr x => rw [hr] at h hf; cases h; exact hf
    | inl x => rw [hr] at h hf; exact Nat.le_trans (ih h) hf

/-! ### the driver on one fuel more -/
def isOver9 (r : BackD) : Prop := r.how = 3 ∧ r.e = 9
theorem coP_more (k : Nat) : ∀ {n i : Nat} {a b : Vl} {fu : Nat} {m : VMD} {s : Nat} {r}, coP n i a b fu m s = some r → ¬ isOver9 r.1 → coP n i a b (fu + k) m s = some (r.1, r.2.1 + k, r.2.2) := by
  intro n
  induction n with
  | zero => intro i a b fu m s r h; cases h
  | succ n ih =>
    intro i a b fu m s r h hn
    unfold coP at h ⊢
    cases hr : roundsP n fu (startP m i a b) i with
    | none => rw [hr] at h; cases h
    | some x =>
      obtain ⟨ev, fu1, m1⟩ := x
      rw [hr] at h
      have hnf : ¬ isFuel ev := by
        intro hf
        dsimp only at h
        rw [if_neg (by rw [hf.1]; decide), if_neg (by rw [hf.1]; decide), if_neg (by rw [hf.1]; decide), if_pos hf.1] at h
        cases h
        exact hn ⟨rfl, hf.2⟩
      rw [roundsP_more k i hr hnf]
      dsimp only at h ⊢
      split at h
      · rename_i h4
        rw [if_pos h4]
        cases hc : coP n ev.th ev.v nilV fu1 m1 (if (m1.th ev.th).st = 1 then s + 1 else s) with
        | none => rw [hc] at h; cases h
        | some y =>
          obtain ⟨rb, fu2, m2, s2⟩ := y
          rw [hc] at h
          dsimp only at h
          split at h
          · rename_i h3
            cases h
            rw [ih hc hn]
            dsimp only
            rw [if_pos h3]
          · rename_i h3
            rw [ih hc (fun x => h3 x.1)]
            dsimp only
            rw [if_neg h3]
            exact ih h hn
      · rename_i h4
        rw [if_neg h4]
        repeat' (split at h)
        all_goals
          cases h
          simp_all
theorem coP_cut (k : Nat) : ∀ {n i : Nat} {a b : Vl} {fu : Nat} {m : VMD} {s : Nat} {r}, coP n i a b fu m s = some r → isOver9 r.1 → r.2.1 = 0 ∧ ∀ N r', coP N i a b (fu + k) m s = some r' → r.2.2.1.out <+: r'.2.2.1.out ∧ r.2.2.2 ≤ r'.2.2.2 := by
  intro n
  induction n with
  | zero => intro i a b fu m s r h; cases h
  | succ n ih =>
    intro i a b fu m s r h hn
    unfold coP at h
    cases hr : roundsP n fu (startP m i a b) i with
    | none => rw [hr] at h; cases h
    | some x =>
      obtain ⟨ev, fu1, m1⟩ := x
      rw [hr] at h
      dsimp only at h
      by_cases hf : isFuel ev
      · rw [if_neg (by rw [hf.1]; decide), if_neg (by rw [hf.1]; decide), if_neg (by rw [hf.1]; decide), if_pos hf.1] at h
        cases h
        obtain ⟨_, h2, h3⟩ := roundsP_cut k i hr hf
        refine ⟨h2, fun N r' h' => ?_⟩
        cases N with
        | zero => cases h'
        | succ N =>
          refine ⟨?_, (coP_ext h').2⟩
          unfold coP at h'
          cases hr' : roundsP N (fu + k) (startP m i a b) i with
          | none => rw [hr'] at h'; cases h'
          | some x' =>
            obtain ⟨ev', fu1', m1'⟩ := x'
            have ho := h3 N _ hr'
            rw [hr'] at h'
            dsimp only at h' ho
            split at h'
            · cases hc : coP N ev'.th ev'.v nilV fu1' m1' (if (m1'.th ev'.th).st = 1 then s + 1 else s) with
              | none => rw [hc] at h'; cases h'
              | some y =>
                obtain ⟨rb, fu2, m2, s2⟩ := y
                have o2 := (coP_ext hc).1
                rw [hc] at h'
                dsimp only at h' o2
                split at h'
                · cases h'
                  exact ho.trans o2
                · exact (ho.trans o2).trans (coP_ext h').1
            · repeat' (split at h')
              all_goals
                cases h'
                exact ho
      · have hm := roundsP_more k i hr hf
        split at h
        · rename_i h4
          cases hc : coP n ev.th ev.v nilV fu1 m1 (if (m1.th ev.th).st = 1 then s + 1 else s) with
          | none => rw [hc] at h; cases h
          | some y =>
            obtain ⟨rb, fu2, m2, s2⟩ := y
            rw [hc] at h
            dsimp only at h
            split at h
            · rename_i h3
              cases h
              obtain ⟨q1, q2⟩ := ih hc hn
              refine ⟨q1, fun N r' h' => ?_⟩
              cases N with
              | zero => cases h'
              | succ N =>
                unfold coP at h'
                cases hr' : roundsP N (fu + k) (startP m i a b) i with
                | none => rw [hr'] at h'; cases h'
                | some x' =>
                  have := roundsP_det hm hr'
                  subst this
                  rw [hr'] at h'
                  dsimp only at h'
                  rw [if_pos h4] at h'
                  cases hc' : coP N ev.th ev.v nilV (fu1 + k) m1 (if (m1.th ev.th).st = 1 then s + 1 else s) with
                  | none => rw [hc'] at h'; cases h'
                  | some y' =>
                    obtain ⟨rb', fu2', m2', s2'⟩ := y'
                    have q3 := q2 N _ hc'
                    rw [hc'] at h'
                    dsimp only at h' q3
                    split at h'
                    · cases h'
                      exact q3
                    · have q4 := coP_ext h'
                      exact ⟨q3.1.trans q4.1, Nat.le_trans q3.2 q4.2⟩
            · rename_i h3
              obtain ⟨q1, q2⟩ := ih h hn
              refine ⟨q1, fun N r' h' => ?_⟩
              cases N with
              | zero => cases h'
              | succ N =>
                unfold coP at h'
                cases hr' : roundsP N (fu + k) (startP m i a b) i with
                | none => rw [hr'] at h'; cases h'
                | some x' =>
                  have := roundsP_det hm hr'
                  subst this
                  rw [hr'] at h'
                  dsimp only at h'
                  rw [if_pos h4] at h'
                  have hcm := coP_more k hc (fun x => h3 x.1)
                  cases hc' : coP N ev.th ev.v nilV (fu1 + k) m1 (if (m1.th ev.th).st = 1 then s + 1 else s) with
                  | none => rw [hc'] at h'; cases h'
                  | some y' =>
                    have := coP_det hcm hc'
                    subst this
                    rw [hc'] at h'
                    dsimp only at h'
                    rw [if_neg h3] at h'
                    exact q2 N _ h'
        · rename_i h4
          repeat' (split at h)
          all_goals
            cases h
            exfalso
            first
              | (rename_i h5; exact hf ⟨h5, hn.2⟩)
              | (have h1 := hn.1; dsimp only at h1; omega)
              | (have h1 := hn.2; dsimp only at h1; omega)
theorem coP_fall : ∀ {n i : Nat} {a b : Vl} {fu : Nat} {m : VMD} {s : Nat} {r}, coP n i a b fu m s = some r → r.2.1 ≤ fu := by
  intro n
  induction n with
  | zero => intro i a b fu m s r h; cases h
  | succ n ih =>
    intro i a b fu m s r h
    unfold coP at h
    cases hr : roundsP n fu (startP m i a b) i with
    | none => rw [hr] at h; cases h
    | some x =>
      obtain ⟨ev, fu1, m1⟩ := x
      have ho := roundsP_fall i hr
      rw [hr] at h
      dsimp only at h ho
      split at h
      · cases hc : coP n ev.th ev.v nilV fu1 m1 (if (m1.th ev.th).st = 1 then s + 1 else s) with
        | none => rw [hc] at h; cases h
        | some y =>
          obtain ⟨rb, fu2, m2, s2⟩ := y
          have o2 := ih hc
          rw [hc] at h
          dsimp only at h o2
          split at h
          · cases h
            exact Nat.le_trans o2 ho
          · exact Nat.le_trans (Nat.le_trans (ih h) o2) ho
      · repeat' (split at h)
        all_goals
          cases h
          exact ho
end Go.Proofs.Qxb6500574aGreatDoor
