/-
  moon: rounds and the driver: they come to an end, and keep the invariant. Plain; no memory, no walk.
-/
import Derived.Test.Qxb6500574aGreatDoorVInv6
namespace Go.Proofs.Qxb6500574aGreatDoor
set_option linter.unusedVariables false
set_option linter.unusedSimpArgs false

section
variable {K K' : Cx} {m m' m0 : VMD} {i : Nat} {t t1 t0 : ThD} {f f0 : FmD}
theorem unwindN_ok (h : VI K m) (u : UpL m) (hi : m.ths[i]? = some t) (hst : t.st = 4) {v : Vl} (hv : VOk K v) : ∀ (n : Nat) (m2 : VMD), n < t.frames.length → unwindN n m i v = some m2 → ∃ t2 f2, At K m2 i t2 f2 ∧ Rest m m2 i ∧ Room K 0 t2 ∧ mesK K t2.frames < mesK K t.frames := by
  intro n
  induction n with
  | zero => intro m2 _ e; cases e
  | succ n ih =>
    intro m2 hn e
    obtain ⟨f, hf⟩ : ∃ f, t.frames[n + 1]? = some f := ⟨_, List.getElem?_eq_getElem hn⟩
    have T := h.th i t hi
    unfold unwindN at e
    dsimp only at e
    rw [th_get hi, show t.frames.getD (n + 1) fm0 = f by simp [hf]] at e
    split at e
    · have hb := T.fr.below (List.mem_of_getElem? hf)
      have hr := (T.fr.each _ f hf).2.1
      obtain ⟨m3, t2, e2, V2, U2, R2, H2, ⟨o, ho, et⟩, rm, ne⟩ := drop_inv h u hi hst (n := n + 1) hf (by omega) (VOk.bool K false) hv (by omega)
      cases e
      have hcut : cut (closeFrom m i f.base) i f.ret = (closeFrom m i f.base).setTh i { t with opn := o, stack := t.stack.take f.ret } := cut_is ho f.ret
      have hfin : push ((cut (closeFrom m i f.base) i f.ret).setTh i { (cut (closeFrom m i f.base) i f.ret).th i with frames := ((cut (closeFrom m i f.base) i f.ret).th i).frames.take (n + 1) }) i [boolV false, v] = m3 := by
        rw [hcut, th_get (setTh_get ho), setTh_setTh, push_is (setTh_get ho), setTh_setTh, e2, et]
      rw [hfin]
      have hlt : t2.frames.length - 1 < t2.frames.length := by
        have : 0 < t2.frames.length := List.length_pos_iff.2 ne
        omega
      refine ⟨t2, t2.frames[t2.frames.length - 1], ⟨V2, U2, H2, by rw [et]; exact hst, List.getElem?_eq_getElem hlt⟩, R2, rm, ?_⟩
      rw [et]
      exact mesK_take _ hn
    · exact ih m2 (by omega) e
/-- how the rounds of a thread come to their end -/
def EndOk (K : Cx) (m : VMD) (i : Nat) (ev : EvD) (m' : VMD) : Prop :=
  ∃ K' t', K.le K' ∧ VI K' m' ∧ UpL m' ∧ Rest m m' i ∧ m'.ths[i]? = some t' ∧ t'.st ≠ 1 ∧ 1 ≤ ev.k ∧ ev.k ≤ 5 ∧ (ev.k ≠ 5 → VOk K' ev.v ∧ t'.st ≠ 4 ∧ Room K' 2 t' ∧ (ev.k = 1 ∨ ev.k = 2 → t'.st = 5) ∧ (ev.k = 3 → t'.st = 2 ∧ i ≠ 0)) ∧ (ev.k = 4 → t'.st = 3 ∧ ev.th ≠ i ∧ ∃ u, m'.ths[ev.th]? = some u ∧ (u.st = 1 ∨ u.st = 2)) ∧ (ev.k = 5 → ev.e = 8 ∨ ev.e = 9 ∨ ev.e = 10 ∨ ev.e = 11)
theorem room_nil {k : Nat} (h : t.frames = []) : Room K k t := fun f hf => by rw [h] at hf; simp at hf
def isInl (r : Sum (Nat × VMD) (EvD × Nat × VMD)) : Prop := ∃ x, r = .inl x
theorem round_ok (h : At K m i t f) (room : Room K 0 t) (fu : Nat) :
    (∃ fu' m' K' t' f', roundP fu m i = .inl (fu', m') ∧ K.le K' ∧ At K' m' i t' f' ∧ Room K' 0 t' ∧ Rest m m' i ∧ (fu' < fu ∨ (fu' = fu ∧ mesK K' t'.frames < mesK K t.frames))) ∨
    (∃ ev fu' m', roundP fu m i = .inr (ev, fu', m') ∧ fu' ≤ fu ∧ EndOk K m i ev m' ∧ (ev.k = 4 → fu' < fu)) := by
  obtain ⟨K', t', l, V, U, R, hi, hs1, h1, h2⟩ := instr_ok h room
  have htr := instrP_trap m i
  have hb4 : ∀ ev m1, (instrP m i).2 = (.inr ev, m1) → ev.k = 4 → (instrP m i).1 = true := by
    intro ev m1 he hk
    revert he
    unfold instrP
    dsimp only
    intro he
    repeat' (split at he)
    all_goals first
      | (simp [trapR] at he; done)
      | (simp only [Prod.mk.injEq, Sum.inr.injEq] at he; rw [← he.1] at hk; simp [ev0] at hk; done)
      | (have := retP_k _ _ he; omega)
      | (have := bump_k _ _ he; omega)
      | skip
    all_goals
      rename_i q1 q2 q3 q4 q5 q6 q7
      rw [if_neg q1, if_neg q2, if_neg q3, if_neg q4, if_neg q5, if_neg q6, if_pos q7]
  unfold roundP
  dsimp only
  by_cases hb : (instrP m i).1 = true ∧ fu = 0
  · rw [if_pos hb]
    right
    exact ⟨_, _, _, rfl, Nat.le_refl _, ⟨K, t, Cx.le.refl _, h.vi, h.up, Rest.refl _ _, h.hi, st_ne1 h.vi h.hi h.ne, by decide, by decide, (fun e => (e rfl).elim), (fun e => by cases e), fun _ => .inr (.inl rfl)⟩, (fun e => by cases e)⟩
  · rw [if_neg hb]
    have hfu : (if (instrP m i).1 = true then fu - 1 else fu) ≤ fu := by split <;> omega
    have hfu2 : (instrP m i).1 = true → (if (instrP m i).1 = true then fu - 1 else fu) < fu := by
      intro e
      have : fu ≠ 0 := fun x => hb ⟨e, x⟩
      rw [if_pos e]
      omega
    have hfu3 : (instrP m i).1 = false → (if (instrP m i).1 = true then fu - 1 else fu) = fu := by
      intro e
      rw [e]
      rfl
    generalize (if (instrP m i).1 = true then fu - 1 else fu) = fu1 at hfu hfu2 hfu3 ⊢
    generalize hr : (instrP m i).2 = r at V U R hi h1 h2 htr hb4 ⊢
    obtain ⟨r1, m1⟩ := r
    dsimp only at V U R hi h1 h2 ⊢
    have burn : ∀ {a b : Nat}, ((instrP m i).1 = false → a < b) → fu1 < fu ∨ (fu1 = fu ∧ a < b) := by
      intro a b hab
      cases hbb : (instrP m i).1 with
      | true => exact .inl (hfu2 hbb)
      | false => exact .inr ⟨hfu3 hbb, hab hbb⟩
    cases r1 with
    | inl fl =>
      cases fl with
      | inl v =>
        dsimp only
        obtain ⟨g1, g2, g3, g4⟩ := h1 v rfl
        have hlen : 0 < t'.frames.length := List.length_pos_iff.2 g3
        rw [th_get hi]
        cases hu : unwindN (t'.frames.length - 1) m1 i v with
        | some m2 =>
          dsimp only
          left
          obtain ⟨t2, f2, a1, a2, a3, a4⟩ := unwindN_ok V U hi g2 g1 _ m2 (by omega) hu
          exact ⟨fu1, m2, K', t2, f2, rfl, l, a1, a3, R.trans h.il a2, burn fun hbb => Nat.lt_of_lt_of_le a4 (g4 hbb)⟩
        | none =>
          dsimp only
          right
          obtain ⟨k1, k2, k3, k4⟩ := kill_inv V U hi
          exact ⟨_, _, _, rfl, hfu, ⟨K', _, l, k1, k2, R.trans h.il k3, k4, by dsimp only; omega, by dsimp only; omega, by dsimp only; omega, (fun _ => ⟨g1, by dsimp only; omega, room_nil rfl, fun _ => rfl, fun e => by cases e⟩), (fun e => by cases e), (fun e => by cases e)⟩, (fun e => by cases e)⟩
      | inr e =>
        dsimp only
        right
        have he := htr e rfl
        refine ⟨_, _, _, rfl, hfu, ?_, (fun e => by cases e)⟩
        exact ⟨K', t', l, V, U, R, hi, hs1, by dsimp only; omega, by dsimp only; omega, (fun e => (e rfl).elim), (fun e => by cases e), fun _ => by dsimp only; omega⟩
    | inr ev =>
      dsimp only
      obtain ⟨g1, g2, g3, g4, g5⟩ := h2 ev rfl
      have hk4 := instrP_k m i (by rw [hr])
      split
      · rename_i hk
        left
        obtain ⟨c1, c2, c3, c4⟩ := g2 hk
        have hlt : t'.frames.length - 1 < t'.frames.length := by
          have : 0 < t'.frames.length := List.length_pos_iff.2 c2
          omega
        exact ⟨fu1, m1, K', t', _, rfl, l, ⟨V, U, hi, c1, List.getElem?_eq_getElem hlt⟩, c3, R, burn c4⟩
      · rename_i hk
        right
        refine ⟨_, _, _, rfl, hfu, ?_, fun e => hfu2 (hb4 ev m1 rfl e)⟩
        have hcase : ev.k = 1 ∨ ev.k = 3 ∨ ev.k = 4 := by omega
        refine ⟨K', t', l, V, U, R, hi, hs1, by omega, by omega, fun _ => ⟨g1, ?_⟩, fun e => ⟨(g5 e).1, (g5 e).2.2⟩, (fun e => by omega)⟩
        rcases hcase with e | e | e
        · have h5 := g3 e
          exact ⟨by omega, room_nil ((V.th i t' hi).al.2 (.inr h5)), fun _ => h5, fun e => by omega⟩
        · have h5 := g4 e
          exact ⟨by omega, h5.2.1, fun e => by omega, fun _ => ⟨h5.1, h5.2.2⟩⟩
        · have h5 := g5 e
          exact ⟨by omega, h5.2.1, fun e => by omega, fun e => by omega⟩
end
end Go.Proofs.Qxb6500574aGreatDoor
