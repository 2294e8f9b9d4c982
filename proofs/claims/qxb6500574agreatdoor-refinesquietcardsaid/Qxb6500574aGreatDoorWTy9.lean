/-
  moon: the text stays through a run; typed frames through rounds and the driver. Plain; no memory, no walk.
-/
import Derived.Test.Qxb6500574aGreatDoorWTy8
namespace Go.Proofs.Qxb6500574aGreatDoor
set_option linter.unusedVariables false
set_option linter.unusedSimpArgs false
def TxR (m : VMD) {α : Type} (r : RR α) : Prop := TxtT m r.2
theorem TxR.mk {m m1 : VMD} {α : Type} {x : Sum Fly α} (h : TxtT m m1) : TxR m (x, m1) := h
theorem TxR.thr {m m1 : VMD} {α : Type} {s : Bs} (h : TxtT m m1) : TxR m (thrR (α := α) s m1) := h
theorem TxR.trap {m m1 : VMD} {α : Type} {e : Nat} (h : TxtT m m1) : TxR m (trapR (α := α) e m1) := h
theorem push_tx (m : VMD) (i : Nat) (vs : List Vl) : TxtT m (push m i vs) := TxtT.setTh m i _
theorem cut_tx (m : VMD) (i n : Nat) : TxtT m (cut m i n) := TxtT.setTh m i _
theorem pops_tx (m : VMD) (i n : Nat) : TxtT m (pops m i n) := TxtT.setTh m i _
theorem setPc_tx (m : VMD) (i n : Nat) : TxtT m (setPc m i n) := TxtT.setTh m i _
theorem enter_tx (m : VMD) (i c : Nat) (as : List Vl) (r : Nat) (p : Bool) : TxtT m (enter m i c as r p) := TxtT.setTh m i _
theorem close_tx (m : VMD) (i a : Nat) : TxtT m (closeFrom m i a) := (closeN_tx i a _ m).1
theorem kill_tx (m : VMD) (i : Nat) : TxtT m (kill m i) := (close_tx m i 0).trans (TxtT.setTh _ _ _)
theorem tabs_tx (m : VMD) (ts : List TabD) : TxtT m { m with tabs := ts } := ⟨rfl, rfl, rfl, rfl, fun _ _ => rfl, Nat.le_refl _⟩
theorem setUp_tx (m : VMD) (c x : Nat) (v : Vl) : TxtT m (setUp m c x v) := by
  unfold setUp
  dsimp only
  split
  · exact TxtT.setTh _ _ _
  · exact ⟨rfl, rfl, rfl, rfl, fun _ _ => rfl, Nat.le_refl _⟩
theorem store_tx (m : VMD) (h : Nat) (k v : Vl) : TxR m (storeP m h k v) := by
  unfold storeP
  dsimp only
  split
  · exact TxtT.refl m
  · split
    · exact TxtT.refl m
    · exact tabs_tx m _
theorem closure_tx (m : VMD) (i b c x : Nat) : TxR m (closure m i b c x) := by
  unfold closure
  split
  · exact TxtT.refl m
  · dsimp only
    have T1 := (closL_tx i b c ((m.descs.drop (m.protos.getD x pr0).up).take (m.protos.getD x pr0).nup) m).1
    refine TxR.mk (T1.trans ⟨rfl, rfl, rfl, rfl, fun c hc => ?_, by simp⟩)
    simp only
    rw [List.getD_eq_getElem?_getD, List.getElem?_append_left hc, ← List.getD_eq_getElem?_getD]
theorem oper_tx (m : VMD) (i op x : Nat) : TxR m (operP m i op x) := by
  unfold operP
  dsimp only
  repeat' (first | with_reducible exact TxR.thr (pops_tx _ _ _) | with_reducible exact TxR.mk ((pops_tx _ _ _).trans (push_tx _ _ _)) | split)
theorem for_tx (m : VMD) (i op x : Nat) : TxR m (forP m i op x) := by
  unfold forP
  dsimp only
  repeat' (first | with_reducible exact TxR.thr (TxtT.refl _) | with_reducible exact TxR.mk (TxtT.refl _) | with_reducible exact TxR.mk (push_tx _ _ _) | with_reducible exact TxR.mk ((TxtT.setTh _ _ _).trans (push_tx _ _ _)) | split)
theorem TxR.ite {m : VMD} {α : Type} {c : Prop} [Decidable c] {r s : RR α} (h : TxR m r) (g : TxR m s) : TxR m (if c then r else s) := by
  split
  · exact h
  · exact g
theorem TxR.pre {m m1 : VMD} {α : Type} {r : RR α} (h : TxtT m m1) (g : TxR m1 r) : TxR m r := h.trans g
theorem plain_tx (m : VMD) (i op x : Nat) : TxR m (plainP m i op x) := by
  unfold plainP
  dsimp only
  repeat' (first
    | with_reducible exact TxR.mk (push_tx _ _ _)
    | with_reducible exact TxR.mk (TxtT.setTh _ _ _)
    | with_reducible exact TxR.mk ((pops_tx _ _ _).trans (setUp_tx _ _ _ _))
    | with_reducible exact TxR.pre (pops_tx _ _ _) (store_tx _ _ _ _)
    | with_reducible exact TxR.thr (pops_tx _ _ _)
    | with_reducible exact TxR.mk ((pops_tx _ _ _).trans (push_tx _ _ _))
    | with_reducible exact TxR.trap (TxtT.refl _)
    | with_reducible exact TxR.mk ((tabs_tx _ _).trans (push_tx _ _ _))
    | with_reducible exact TxR.mk (pops_tx _ _ _)
    | with_reducible exact TxR.mk (close_tx _ _ _)
    | with_reducible exact for_tx _ _ _ _
    | with_reducible exact oper_tx _ _ _ _
    | with_reducible refine TxR.ite ?_ ?_
    | split)
  all_goals
    rename_i e
    have := closure_tx m i (topF m i).base (topF m i).clo x
    rw [e] at this
    first
      | exact TxR.mk this
      | exact TxR.mk (TxtT.trans this (push_tx _ _ _))
theorem builtin_tx (m : VMD) (b : Nat) (a0 a1 : Vl) : TxR m (builtinP m b a0 a1) := (builtin_bus m b a0 a1).bu.tx
theorem call_tx (m : VMD) (i x : Nat) : TxR m (callP m i x) := by
  unfold callP
  dsimp only
  have T := setPc_tx m i ((topF m i).pc + 1)
  generalize setPc m i ((topF m i).pc + 1) = m2 at T ⊢
  refine TxR.pre T ?_
  repeat' (first
    | with_reducible exact TxR.thr (TxtT.refl _)
    | with_reducible exact TxR.mk (enter_tx _ _ _ _ _ _)
    | with_reducible exact TxR.mk ((cut_tx _ _ _).trans (push_tx _ _ _))
    | with_reducible exact TxR.mk (TxtT.setTh _ _ _)
    | split)
  all_goals
    rename_i e
    have := builtin_tx m2 ((m2.th i).stack.getD ((m2.th i).stack.length - x - 1) nilV).n (((m2.th i).stack.drop ((m2.th i).stack.length - x - 1 + 1)).getD 0 nilV) (((m2.th i).stack.drop ((m2.th i).stack.length - x - 1 + 1)).getD 1 nilV)
    rw [e] at this
    first
      | exact TxR.mk this
      | exact TxR.mk (TxtT.trans this ((cut_tx _ _ _).trans (push_tx _ _ _)))
theorem ret_tx (m : VMD) (i : Nat) : TxR m (retP m i) := by
  unfold retP
  dsimp only
  split
  · exact TxR.mk ((pops_tx _ _ _).trans (kill_tx _ _))
  · exact TxR.mk (((((pops_tx _ _ _).trans (close_tx _ _ _)).trans (cut_tx _ _ _)).trans (push_tx _ _ _)).trans (TxtT.setTh _ _ _))
theorem bump_tx {m : VMD} {i : Nat} {r : RR Unit} (h : TxR m r) : TxR m (bump i r) := by
  obtain ⟨r1, m1⟩ := r
  unfold bump
  cases r1 with
  | inl x => exact h
  | inr x => exact TxR.mk (TxtT.trans h (setPc_tx _ _ _))
def TxB (m : VMD) (r : Bool × RR EvD) : Prop := TxR m r.2
theorem TxB.mk {m : VMD} {b : Bool} {r : RR EvD} (h : TxR m r) : TxB m (b, r) := h
theorem instr_tx (m : VMD) (i : Nat) : TxB m (instrP m i) := by
  unfold instrP
  dsimp only
  repeat' (first
    | with_reducible exact TxB.mk (TxR.trap (TxtT.refl _))
    | with_reducible exact TxB.mk (TxR.mk (setPc_tx _ _ _))
    | with_reducible exact TxB.mk (TxR.mk ((pops_tx _ _ _).trans (setPc_tx _ _ _)))
    | with_reducible exact TxB.mk (call_tx _ _ _)
    | with_reducible exact TxB.mk (ret_tx _ _)
    | with_reducible exact TxB.mk (bump_tx (plain_tx _ _ _ _))
    | split)
theorem unwind_tx (i : Nat) (v : Vl) : ∀ (n : Nat) (m m2 : VMD), unwindN n m i v = some m2 → TxtT m m2 := by
  intro n
  induction n with
  | zero => intro m m2 e; cases e
  | succ n ih =>
    intro m m2 e
    unfold unwindN at e
    dsimp only at e
    split at e
    · cases e
      exact (((close_tx _ _ _).trans (cut_tx _ _ _)).trans (TxtT.setTh _ _ _)).trans (push_tx _ _ _)
    · exact ih m m2 e
section
variable {S : Nat → Nat → Ty → Prop} {K K' : Cx} {m m' m1 : VMD} {i : Nat} {t t1 : ThD} {f : FmD} {a b : Ty}
/-- a round -/
theorem RunT.round (h : RunT S K m i t f) (room : Room K 0 t) (fu : Nat) :
    (∀ fu' m', roundP fu m i = .inl (fu', m') → ∃ K' t' f', K.le K' ∧ RunT S K' m' i t' f' ∧ Room K' 0 t' ∧ Rest m m' i) ∧
    (∀ ev fu' m', roundP fu m i = .inr (ev, fu', m') → (ev.k = 5 → ev.e ≠ 11) ∧ (ev.k ≠ 5 → TC S m' ∧ TI S m')) := by
  obtain ⟨I1, I2, I3⟩ := h.instr
  have TX : TxtT m (instrP m i).2.2 := instr_tx m i
  obtain ⟨K', t', l, V, U, R, hi, hs1, h1, h2⟩ := instr_ok h.at_ room
  have O := h.ot.rest R
  have TT := h.tc.txt TX
  have rok := round_ok h.at_ room fu
  have key : ∀ r, roundP fu m i = r → (∀ fu' m', r = .inl (fu', m') → TC S m' ∧ TI S m') ∧ (∀ ev fu' m', r = .inr (ev, fu', m') → (ev.k = 5 → ev.e ≠ 11) ∧ (ev.k ≠ 5 → TC S m' ∧ TI S m')) := by
    intro r hr
    unfold roundP at hr
    dsimp only at hr
    by_cases hb : (instrP m i).1 = true ∧ fu = 0
    · rw [if_pos hb] at hr
      subst hr
      exact ⟨(fun _ _ e => by cases e), fun ev fu' m' e => by cases e; exact ⟨fun _ => by decide, fun e => (e rfl).elim⟩⟩
    · rw [if_neg hb] at hr
      generalize (if (instrP m i).1 = true then fu - 1 else fu) = fu1 at hr
      generalize hq : (instrP m i).2 = q at hr I1 I2 I3 TX V U R hi h1 h2 TT O
      obtain ⟨q1, m1⟩ := q
      dsimp only at V U R hi h1 h2 TT O I1 I2 I3
      cases q1 with
      | inl fl =>
        cases fl with
        | inl v =>
          dsimp only at hr
          obtain ⟨g1, g2, g3, g4⟩ := h1 v rfl
          have hlen : 0 < t'.frames.length := List.length_pos_iff.2 g3
          rw [th_get hi] at hr
          cases hu : unwindN (t'.frames.length - 1) m1 i v with
          | some m2 =>
            rw [hu] at hr
            dsimp only at hr
            subst hr
            exact ⟨fun fu' m' e => by cases e; exact ⟨TT.txt (unwind_tx i v _ m1 m2 hu), unwindN_ty V TT (I2 v rfl) O hi g2 _ m2 (by omega) hu⟩, (fun _ _ _ e => by cases e)⟩
          | none =>
            rw [hu] at hr
            dsimp only at hr
            subst hr
            exact ⟨(fun _ _ e => by cases e), fun ev fu' m' e => by cases e; exact ⟨(fun e => by cases e), fun _ => ⟨TT.txt (kill_tx _ _), kill_ty V TT (I2 v rfl) O hi⟩⟩⟩
        | inr e =>
          dsimp only at hr
          subst hr
          exact ⟨(fun _ _ e => by cases e), fun ev fu' m' e => by cases e; exact ⟨fun _ => I1 _ rfl, fun e => (e rfl).elim⟩⟩
      | inr ev =>
        dsimp only at hr
        split at hr
        · subst hr
          exact ⟨fun fu' m' e => by cases e; exact ⟨TT, I3 ev rfl⟩, (fun _ _ _ e => by cases e)⟩
        · subst hr
          refine ⟨(fun _ _ e => by cases e), fun ev' fu' m' e => ?_⟩
          cases e
          have hk4 := instrP_k m i (by rw [hq])
          exact ⟨fun e => by omega, fun _ => ⟨TT, I3 ev rfl⟩⟩
  obtain ⟨k1, k2⟩ := key _ rfl
  refine ⟨fun fu' m' e => ?_, k2⟩
  rcases rok with ⟨fu2, m2, K2, t2, f2, e2, l2, A2, rm2, R2, _⟩ | ⟨ev, fu2, m2, e2, _⟩
  · rw [e] at e2
    cases e2
    obtain ⟨c1, c2⟩ := k1 _ _ e
    exact ⟨K2, t2, f2, l2, ⟨A2, c1, c2, h.ot.rest R2⟩, rm2, R2⟩
  · rw [e] at e2
    cases e2
theorem rounds_ty : ∀ (n fu : Nat) {K : Cx} {m : VMD} {i : Nat} {t : ThD} {f : FmD} {r : EvD × Nat × VMD}, RunT S K m i t f → Room K 0 t → roundsP n fu m i = some r → (r.1.k = 5 → r.1.e ≠ 11) ∧ (r.1.k ≠ 5 → TC S r.2.2 ∧ TI S r.2.2) := by
  intro n
  induction n with
  | zero => intro fu K m i t f r h room e; cases e
  | succ n ih =>
    intro fu K m i t f r h room e
    obtain ⟨h1, h2⟩ := h.round room fu
    unfold roundsP at e
    cases hr : roundP fu m i with
    | inl x =>
      rw [hr] at e
      obtain ⟨K', t', f', _, A, rm, _⟩ := h1 x.1 x.2 (by rw [hr])
      exact ih x.1 A rm e
    | inr x =>
      rw [hr] at e
      cases e
      obtain ⟨ev, fu', m'⟩ := r
      exact h2 ev fu' m' hr
end
end Go.Proofs.Qxb6500574aGreatDoor
