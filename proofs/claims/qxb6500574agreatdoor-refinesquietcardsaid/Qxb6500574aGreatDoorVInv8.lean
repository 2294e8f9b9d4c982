/-
  moon: rounds and the driver come to an end, and keep the invariant; how many threads are started; without fuel nothing is called. Plain; no memory, no walk.
-/
import Derived.Test.Qxb6500574aGreatDoorVInv7
namespace Go.Proofs.Qxb6500574aGreatDoor
set_option linter.unusedVariables false
set_option linter.unusedSimpArgs false

section
variable {K K' : Cx} {m m' m0 : VMD} {i : Nat} {t t1 t0 : ThD} {f f0 : FmD}
/-- a later end is an end -/
theorem EndOk.pre {ev : EvD} (l : K.le K') (R : Rest m m0 i) (hi : i < m.ths.length) (h : EndOk K' m0 i ev m') : EndOk K m i ev m' := by
  obtain ⟨K2, t', a1, a2, a3, a4, a5⟩ := h
  exact ⟨K2, t', l.trans a1, a2, a3, R.trans hi a4, a5⟩
theorem rounds_ok : ∀ (fu n : Nat) {K : Cx} {m : VMD} {i : Nat} {t : ThD} {f : FmD}, At K m i t f → Room K 0 t → mesK K t.frames = n → ∃ k ev fu' m', roundsP k fu m i = some (ev, fu', m') ∧ fu' ≤ fu ∧ EndOk K m i ev m' ∧ (ev.k = 4 → fu' < fu) := by
  intro fu
  induction fu using Nat.strongRecOn with
  | _ fu ihf =>
    intro n
    induction n using Nat.strongRecOn with
    | _ n ihn =>
      intro K m i t f h room hn
      rcases round_ok h room fu with ⟨fu', m', K', t', f', e, l, A, rm, R, hlt⟩ | ⟨ev, fu', m', e, hle, E, h4⟩
      · have key : ∃ k ev fu2 m2, roundsP k fu' m' i = some (ev, fu2, m2) ∧ fu2 ≤ fu' ∧ EndOk K' m' i ev m2 ∧ (ev.k = 4 → fu2 < fu') := by
          rcases hlt with hlt | ⟨rfl, hlt⟩
          · exact ihf fu' hlt _ A rm rfl
          · exact ihn _ (by omega) A rm rfl
        obtain ⟨k, ev, fu2, m2, e2, hle, E, h4⟩ := key
        refine ⟨k + 1, ev, fu2, m2, ?_, by omega, E.pre l R h.il, fun e => by have := h4 e; omega⟩
        unfold roundsP
        rw [e]
        exact e2
      · refine ⟨1, ev, fu', m', ?_, hle, E, h4⟩
        unfold roundsP
        rw [e]
/-- all threads sleep -/
structure Slp (K : Cx) (m : VMD) : Prop where
  vi : VI K m
  up : UpL m
  sl : ∀ (j : Nat) (u : ThD), m.ths[j]? = some u → u.st ≠ 4 ∧ Room K 2 u
theorem Room.le {k : Nat} (l : K.le K') (h : Room K k t) (hc : ∀ f ∈ t.frames, f.clo < K.nc) {t' : ThD} (hf : t'.frames = t.frames) (hs : t'.stack.length = t.stack.length) : Room K' k t' := by
  intro f hf'
  rw [hf] at hf'
  rw [hs, l.n _ (hc f (List.mem_of_getElem? hf'))]
  exact h f hf'
theorem VI.clos (h : VI K m) (hi : m.ths[i]? = some t) : ∀ f ∈ t.frames, f.clo < K.nc := by
  intro f hf
  obtain ⟨j, hj, rfl⟩ := List.getElem_of_mem hf
  exact ((h.th i t hi).fr.each j _ (List.getElem?_eq_getElem hj)).1
/-- thread i is let go on -/
theorem start_ok (S : Slp K m) (hi : m.ths[i]? = some t) (hst : t.st = 1 ∨ t.st = 2 ∨ t.st = 3) {a b : Vl} (ha : VOk K a) (hb : VOk K b) : ∃ t' f', At K (startP m i a b) i t' f' ∧ Room K 0 t' ∧ Rest m (startP m i a b) i := by
  have h := S.vi
  have T := h.th i t hi
  unfold startP
  dsimp only
  rw [th_get hi]
  split
  · rename_i h1
    have hfr := T.al.2 (.inl h1)
    have hs := T.em hfr
    have E := enterTh h hi (c := t.fn) (ret := 0) (s := 4) T.fn (by rw [hfr]; decide) (by omega) (fun _ => by rw [hs]; rfl) (fun g hg => by rw [hfr] at hg; simp at hg) (args := [a]) (fun v hv => by simp at hv; rw [hv]; exact ha) false (by omega) (fun _ => rfl)
    have e : (enter m i t.fn [a] 0 false).setTh i { (enter m i t.fn [a] 0 false).th i with st := 4 } = m.setTh i { t with st := 4, stack := t.stack ++ (List.range (m.proto t.fn).ns).map (fun j => if j < (m.proto t.fn).np then [a].getD j nilV else nilV), frames := t.frames ++ [⟨t.fn, 0, t.stack.length, 0, false⟩] } := by
      rw [enter_is hi, th_get (setTh_get hi), setTh_setTh]
    rw [e]
    refine ⟨_, ⟨t.fn, 0, t.stack.length, 0, false⟩, ⟨h.setTh hi E (fun c hc => hc), S.up, setTh_get hi, rfl, by simp⟩, fun g hg => ?_, Rest.setTh _ _ _⟩
    simp at hg
    rw [← hg]
    simp [h.kn _ T.fn]
  · rename_i h1
    have hne : t.frames ≠ [] := fun e => by
      have := T.al.1 e
      omega
    have hlt : t.frames.length - 1 < t.frames.length := by
      have : 0 < t.frames.length := List.length_pos_iff.2 hne
      omega
    have hf := List.getElem?_eq_getElem hlt
    have rm := (S.sl i t hi).2 _ hf
    have hlen : (t.stack ++ [a, b]).length = t.stack.length + 2 := by simp
    refine ⟨{ t with stack := t.stack ++ [a, b], st := 4 }, t.frames[t.frames.length - 1], ⟨h.setTh hi ⟨T.fn, by simp only; omega, fun v hv => ?_, T.fr.more (by rw [hlen]; omega), ⟨T.op.ok, T.op.so⟩, fun e => (hne e).elim, ⟨fun e => (hne e).elim, fun e => by simp only at e; omega⟩⟩ (fun c hc => hc), S.up, setTh_get hi, rfl, hf⟩, fun g hg => ?_, Rest.setTh _ _ _⟩
    · rcases List.mem_append.1 hv with hv | hv
      · exact T.sv v hv
      · simp at hv
        rcases hv with rfl | rfl
        · exact ha
        · exact hb
    · simp only at hg ⊢
      rw [hf] at hg
      cases hg
      rw [hlen]
      exact rm
/-- the threads that are no longer fresh -/
def busy (m : VMD) : Nat := m.ths.countP (fun t => decide (t.st ≠ 1))
theorem countP_congr2 {p : ThD → Bool} : ∀ (a b : List ThD), a.length = b.length → (∀ (j : Nat) (u v : ThD), a[j]? = some u → b[j]? = some v → p u = p v) → a.countP p = b.countP p := by
  intro a
  induction a with
  | nil => intro b h _; cases b with
    | nil => rfl
    | cons x y => simp at h
  | cons x xs ih =>
    intro b h hp
    cases b with
    | nil => simp at h
    | cons y ys =>
      have h0 := hp 0 x y rfl rfl
      have := ih ys (by simpa using h) (fun j u v hu hv => hp (j + 1) u v (by simpa using hu) (by simpa using hv))
      rw [List.countP_cons, List.countP_cons, this, h0]
/-- how a step of thread i turns the number of those no longer fresh -/
theorem Rest.busy (R : Rest m m' i) (hi : m.ths[i]? = some t) (hi' : m'.ths[i]? = some t1) (h1 : t1.st ≠ 1) : busy m' = busy m + (if t.st = 1 then 1 else 0) := by
  have hlt := (List.getElem?_eq_some_iff.1 hi).1
  unfold Go.Proofs.Qxb6500574aGreatDoor.busy
  have hsplit : m'.ths = m'.ths.take m.ths.length ++ m'.ths.drop m.ths.length := (List.take_append_drop _ _).symm
  have hdrop : (m'.ths.drop m.ths.length).countP (fun t => decide (t.st ≠ 1)) = 0 := by
    rw [List.countP_eq_zero]
    intro u hu
    obtain ⟨j, hj, rfl⟩ := List.getElem_of_mem hu
    simp at hj
    have := R.new (m.ths.length + j) _ (by omega) (List.getElem?_eq_getElem (by omega))
    rw [List.getElem_drop]
    simp [this]
  have htake : (m'.ths.take m.ths.length).countP (fun t => decide (t.st ≠ 1)) = (m.ths.set i t1).countP (fun t => decide (t.st ≠ 1)) := by
    refine countP_congr2 _ _ (by have := R.le; simp; omega) fun j u v hu hv => ?_
    have hjl : j < m.ths.length := by have := (List.getElem?_eq_some_iff.1 hv).1; simpa using this
    rw [List.getElem?_take_of_lt hjl] at hu
    by_cases e : i = j
    · subst e
      rw [List.getElem?_set_self hlt] at hv
      cases hv
      rw [hi'] at hu
      cases hu
      rfl
    · rw [List.getElem?_set_ne e] at hv
      obtain ⟨u', b1, b2, _⟩ := R.old j v (fun x => e x.symm) hv
      rw [hu] at b1
      cases b1
      rw [b2]
  rw [hsplit, List.countP_append, hdrop, htake, Nat.add_zero, List.countP_set hlt]
  have he : m.ths[i] = t := (List.getElem?_eq_some_iff.1 hi).2
  rw [he]
  have hpos : t.st ≠ 1 → 0 < m.ths.countP (fun t => decide (t.st ≠ 1)) := fun hx => List.countP_pos_iff.2 ⟨t, by rw [← he]; exact List.getElem_mem hlt, by simpa using hx⟩
  by_cases hx : t.st = 1
  · simp [hx, h1]
  · have := hpos hx
    have e1 : decide (t.st ≠ 1) = true := by simpa using hx
    have e2 : decide (t1.st ≠ 1) = true := by simpa using h1
    rw [e1, e2, if_neg hx]
    simp only [if_true]
    omega
/-- what the driver answers -/
structure CoPost (K : Cx) (m : VMD) (i : Nat) (s : Nat) (r : BackD × Nat × VMD × Nat) : Prop where
  vi : ∃ K', K.le K' ∧ VI K' r.2.2.1 ∧ (r.1.how ≠ 3 → Slp K' r.2.2.1 ∧ VOk K' r.1.v)
  hw : r.1.how = 1 ∨ r.1.how = 2 ∨ r.1.how = 3
  er : r.1.how = 3 → r.1.e = 8 ∨ r.1.e = 9 ∨ r.1.e = 10 ∨ r.1.e = 11
  nm : r.1.how ≠ 3 → ∀ (j : Nat) (u : ThD), j ≠ i → m.ths[j]? = some u → u.st = 3 → ∃ u', r.2.2.1.ths[j]? = some u' ∧ u'.st = 3
  bs : r.2.2.2 + busy m + (if (m.th i).st = 1 then 1 else 0) = s + busy r.2.2.1
theorem co_ok : ∀ (fu : Nat) {K : Cx} {m : VMD} {i : Nat} {t : ThD} {a b : Vl} {s : Nat}, Slp K m → m.ths[i]? = some t → (t.st = 1 ∨ t.st = 2 ∨ t.st = 3) → VOk K a → VOk K b → ∃ n r, coP n i a b fu m s = some r ∧ CoPost K m i s r := by
  intro fu
  induction fu using Nat.strongRecOn with
  | _ fu ih =>
    intro K m i t a b s S hi hst ha hb
    have il := (List.getElem?_eq_some_iff.1 hi).1
    obtain ⟨t1, f1, A, rm, R1⟩ := start_ok S hi hst ha hb
    obtain ⟨k, ev, fu1, m1, e1, hle, ⟨K1, t2, l1, V1, U1, R2, hi2, hs2, hk1, hk2, hok, h4, h5⟩, hlt4⟩ := rounds_ok fu _ A rm rfl
    have R : Rest m m1 i := R1.trans il R2
    have hb1 := R.busy hi hi2 hs2
    have others : ∀ (j : Nat) (u : ThD), j ≠ i → m1.ths[j]? = some u → u.st ≠ 4 ∧ Room K1 2 u := by
      intro j u hj hu
      by_cases hjl : j < m.ths.length
      · have hu0 := List.getElem?_eq_getElem hjl
        obtain ⟨u', b1, b2, b3, b4⟩ := R.old j _ hj hu0
        rw [hu] at b1
        cases b1
        obtain ⟨c1, c2⟩ := S.sl j _ hu0
        exact ⟨by rw [b2]; exact c1, c2.le l1 (S.vi.clos hu0) b3 b4⟩
      · have h1 := R.new j u (by omega) hu
        exact ⟨by omega, room_nil ((V1.th j u hu).al.2 (.inl h1))⟩
    have slp : ev.k ≠ 5 → Slp K1 m1 := fun hk => ⟨V1, U1, fun j u hu => by
      by_cases hj : j = i
      · subst hj
        rw [hi2] at hu
        cases hu
        exact ⟨(hok hk).2.1, (hok hk).2.2.1⟩
      · exact others j u hj hu⟩
    by_cases hk4 : ev.k = 4
    · obtain ⟨s3, hne, u, hu, hus⟩ := h4 hk4
      have S1 := slp (by omega)
      have hv1 := (hok (by omega)).1
      obtain ⟨n2, r2, c2, P2⟩ := ih fu1 (hlt4 hk4) (a := ev.v) (b := nilV) (s := if (m1.th ev.th).st = 1 then s + 1 else s) S1 hu (by omega) hv1 (VOk.nil K1)
      obtain ⟨rb, fu2, m2, s2⟩ := r2
      by_cases hh : rb.how = 3
      · obtain ⟨K2, l2, V2, _⟩ := P2.vi
        refine ⟨max k n2 + 1, (rb, fu2, m2, s2), ?_, ⟨⟨K2, l1.trans l2, V2, fun x => (x hh).elim⟩, P2.hw, P2.er, fun x => (x hh).elim, ?_⟩⟩
        · unfold coP
          rw [roundsP_mono e1 (Nat.le_max_left k n2)]
          dsimp only
          rw [if_pos hk4, coP_mono c2 (Nat.le_max_right k n2)]
          dsimp only
          rw [if_pos hh]
        · have q := P2.bs
          dsimp only at q ⊢
          rw [th_get hu] at q
          rw [th_get hi]
          split at q <;> omega
      · obtain ⟨K2, l2, V2, x2⟩ := P2.vi
        obtain ⟨S2, v2⟩ := x2 hh
        obtain ⟨u', hu', s3'⟩ := P2.nm hh i t2 (fun e => hne e.symm) hi2 s3
        have hf2 := coP_fall c2
        have hlt := hlt4 hk4
        dsimp only at hf2
        obtain ⟨n3, r3, c3, P3⟩ := ih fu2 (by omega) (a := boolV (rb.how = 1)) (b := rb.v) (s := s2) S2 hu' (by omega) (VOk.bool _ _) v2
        obtain ⟨K3, l3, V3, x3⟩ := P3.vi
        refine ⟨max k (max n2 n3) + 1, r3, ?_, ⟨⟨K3, (l1.trans l2).trans l3, V3, x3⟩, P3.hw, P3.er, fun x j w hj hw h3 => ?_, ?_⟩⟩
        · unfold coP
          rw [roundsP_mono e1 (Nat.le_max_left k _)]
          dsimp only
          rw [if_pos hk4, coP_mono c2 (Nat.le_trans (Nat.le_max_left n2 n3) (Nat.le_max_right k _))]
          dsimp only
          rw [if_neg hh]
          exact coP_mono c3 (Nat.le_trans (Nat.le_max_right n2 n3) (Nat.le_max_right k _))
        · obtain ⟨w1, b1, b2, _⟩ := R.old j w hj hw
          have hj2 : j ≠ ev.th := by
            intro e
            rw [e, hu] at b1
            cases b1
            omega
          obtain ⟨w2, d1, d2⟩ := P2.nm hh j w1 hj2 b1 (by omega)
          exact P3.nm x j w2 hj d1 d2
        · have q := P2.bs
          have q3 := P3.bs
          dsimp only at q q3 ⊢
          rw [th_get hu] at q
          rw [th_get hu'] at q3
          rw [th_get hi]
          rw [if_neg (by omega)] at q3
          split at q <;> omega
    · have hend : ∃ rb : BackD, (rb.how = 1 ∨ rb.how = 2 ∨ rb.how = 3) ∧ (rb.how ≠ 3 → rb.v = ev.v ∧ ev.k ≠ 5) ∧ (rb.how = 3 → ev.k = 5 ∧ rb.e = ev.e) ∧ coP (k + 1) i a b fu m s = some (rb, fu1, m1, s) := by
        unfold coP
        rw [e1]
        dsimp only
        rw [if_neg hk4]
        by_cases h31 : ev.k = 3 ∨ ev.k = 1
        · rw [if_pos h31]
          exact ⟨_, .inl rfl, fun _ => ⟨rfl, by omega⟩, (fun e => by cases e), rfl⟩
        · rw [if_neg h31]
          by_cases h2 : ev.k = 2
          · rw [if_pos h2]
            exact ⟨_, .inr (.inl rfl), fun _ => ⟨rfl, by omega⟩, (fun e => by cases e), rfl⟩
          · rw [if_neg h2, if_pos (show ev.k = 5 by omega)]
            exact ⟨_, .inr (.inr rfl), fun e => (e rfl).elim, fun _ => ⟨by omega, rfl⟩, rfl⟩
      obtain ⟨rb, w1, w2, w3, w4⟩ := hend
      refine ⟨k + 1, _, w4, ⟨⟨K1, l1, V1, fun x => ?_⟩, w1, fun x => ?_, fun x j w hj hw h3 => ?_, ?_⟩⟩
      · have := w2 x
        exact ⟨slp this.2, by rw [this.1]; exact (hok this.2).1⟩
      · have := w3 x
        dsimp only at this ⊢
        rw [this.2]
        exact h5 this.1
      · obtain ⟨w1, b1, b2, _⟩ := R.old j w hj hw
        exact ⟨w1, b1, by omega⟩
      · dsimp only
        rw [th_get hi]
        omega

/-! ### without fuel nothing is called -/
theorem instrP_still (m : VMD) (i : Nat) (h : (instrP m i).1 = false) : (instrP m i).2.2.out = m.out ∧ ∀ ev, (instrP m i).2.1 = .inr ev → ev.k ≠ 4 := by
  revert h
  unfold instrP
  dsimp only
  repeat' split
  all_goals first
    | (intro h; cases h; done)
    | (intro _; refine ⟨rfl, fun ev e => ?_⟩; simp [trapR] at e; done)
    | (intro _; refine ⟨rfl, fun ev e => ?_⟩; cases e; simp [ev0]; done)
    | (intro _; refine ⟨retP_out _ _, fun ev e => ?_⟩; have := retP_k m i (ev := ev) (m1 := (retP m i).2) (by rw [← e]); omega)
    | (intro _; refine ⟨(bump_out _ _).trans (plainP_out _ _ _ _), fun ev e => ?_⟩; have := bump_k i _ (ev := ev) (m1 := (bump i (plainP m i _ _)).2) (by rw [← e]); omega)
    | skip
theorem roundP_still (m : VMD) (i : Nat) : (rndM (roundP 0 m i)).out = m.out ∧ (rndF (roundP 0 m i)) = 0 ∧ ∀ r, roundP 0 m i = .inr r → r.1.k ≠ 4 := by
  have hs := instrP_still m i
  unfold roundP
  dsimp only
  by_cases hb : (instrP m i).1 = true
  · rw [if_pos ⟨hb, rfl⟩]
    exact ⟨rfl, rfl, fun r e => by cases e; dsimp only; omega⟩
  · have hb' : (instrP m i).1 = false := by simpa using hb
    obtain ⟨h1, h2⟩ := hs hb'
    rw [if_neg (fun x => hb x.1), hb']
    simp only [Bool.false_eq_true, if_false]
    generalize (instrP m i).2 = r at h1 h2 ⊢
    obtain ⟨r1, m1⟩ := r
    dsimp only at h1 h2
    cases r1 with
    | inl fl =>
      cases fl with
      | inl v =>
        dsimp only
        cases hu : unwindN ((m1.th i).frames.length - 1) m1 i v with
        | some m2 => exact ⟨(unwindN_out _ _ _ _ _ hu).trans h1, rfl, fun r e => by cases e⟩
        | none => exact ⟨(kill_out _ _).trans h1, rfl, fun r e => by cases e; dsimp only; omega⟩
      | inr e => exact ⟨h1, rfl, fun r e => by cases e; dsimp only; omega⟩
    | inr ev =>
      dsimp only
      split
      · exact ⟨h1, rfl, fun r e => by cases e⟩
      · exact ⟨h1, rfl, fun r e => by cases e; exact h2 ev rfl⟩
theorem roundsP_still (i : Nat) : ∀ {n : Nat} {m : VMD} {r}, roundsP n 0 m i = some r → r.2.2.out = m.out ∧ r.1.k ≠ 4 := by
  intro n
  induction n with
  | zero => intro m r h; cases h
  | succ n ih =>
    intro m r h
    obtain ⟨h1, h2, h3⟩ := roundP_still m i
    unfold roundsP at h
    cases hr : roundP 0 m i with
    | inr x => rw [hr] at h h1 h3; cases h; exact ⟨h1, h3 _ rfl⟩
    | inl x =>
      rw [hr] at h h1 h2
      have hx : x.1 = 0 := h2
      dsimp only at h
      rw [hx] at h
      obtain ⟨g1, g2⟩ := ih h
      exact ⟨g1.trans h1, g2⟩
theorem coP_still {n i : Nat} {a b : Vl} {m : VMD} {s : Nat} {r} (h : coP n i a b 0 m s = some r) : r.2.2.1.out = m.out ∧ r.2.2.2 = s := by
  cases n with
  | zero => cases h
  | succ n =>
    unfold coP at h
    cases hr : roundsP n 0 (startP m i a b) i with
    | none => rw [hr] at h; cases h
    | some x =>
      obtain ⟨ev, fu1, m1⟩ := x
      obtain ⟨h1, h2⟩ := roundsP_still i hr
      rw [hr] at h
      dsimp only at h h1 h2
      rw [if_neg h2] at h
      rw [startP_out] at h1
      repeat' (split at h)
      all_goals
        cases h
        exact ⟨h1, rfl⟩
end
end Go.Proofs.Qxb6500574aGreatDoor
