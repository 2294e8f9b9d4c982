/-
  moon: A RUN OF TYPED CODE NEVER ENDS BY ErrCode. Plain; no memory, no walk.
-/
import Derived.Test.Qxb6500574aGreatDoorWTy9
namespace Go.Proofs.Qxb6500574aGreatDoor
set_option linter.unusedVariables false
set_option linter.unusedSimpArgs false
section
variable {S : Nat → Nat → Ty → Prop} {K K' : Cx} {m m' m1 : VMD} {i : Nat} {t t1 : ThD} {f : FmD} {a b : Ty}
theorem Slp.oth (s : Slp K m) (i : Nat) : Oth m i := fun j u _ hu => (s.sl j u hu).1
theorem start_ty (s : Slp K m) (T : TC S m) (I : TI S m) (hi : m.ths[i]? = some t) (hst : t.st = 1 ∨ t.st = 2 ∨ t.st = 3) {v w : Vl} : TC S (startP m i v w) ∧ TI S (startP m i v w) := by
  have V := s.vi
  have Th := V.th i t hi
  unfold startP
  dsimp only
  rw [th_get hi]
  split
  · rename_i h1
    have hfr := Th.al.2 (.inl h1)
    have hs := Th.em hfr
    have e : (enter m i t.fn [v] 0 false).setTh i { (enter m i t.fn [v] 0 false).th i with st := 4 } = m.setTh i { t with st := 4, stack := t.stack ++ (List.range (m.proto t.fn).ns).map (fun j => if j < (m.proto t.fn).np then [v].getD j nilV else nilV), frames := t.frames ++ [⟨t.fn, 0, t.stack.length, 0, false⟩] } := by
      rw [enter_is hi, th_get (setTh_get hi), setTh_setTh]
    rw [e]
    generalize hxs : t.stack ++ (List.range (m.proto t.fn).ns).map (fun j => if j < (m.proto t.fn).np then [v].getD j nilV else nilV) = xs
    have hxl : xs.length = t.stack.length + K.ns t.fn := by rw [← hxs]; simp [V.kn _ Th.fn]
    have st := Stay.setTh m i { t with st := 4, stack := xs, frames := t.frames ++ [⟨t.fn, 0, t.stack.length, 0, false⟩] }
    refine ⟨T.txt st.tx, TI.of V T (I.low i) (st.seen (s.oth i)) (setTh_get hi) ?_⟩
    intro j g hj hg
    simp only [hfr, List.nil_append, List.length_singleton] at hj hg
    have hj0 : j = 0 := by omega
    subst hj0
    simp at hg
    rw [← hg]
    have e3 : hgt { t with st := 4, stack := xs, frames := t.frames ++ [⟨t.fn, 0, t.stack.length, 0, false⟩] } 0 = xs.length := by
      unfold hgt
      simp [hfr]
    rw [e3]
    exact new_ty V T hi Th.fn hxl st.tx st.ce
  · rename_i h1
    have hne : t.frames ≠ [] := fun e => by
      have := Th.al.1 e
      omega
    have hlt : t.frames.length - 1 < t.frames.length := by
      have : 0 < t.frames.length := List.length_pos_iff.2 hne
      omega
    have st := Stay.setTh m i { t with stack := t.stack ++ [v, w], st := 4 }
    refine ⟨T.txt st.tx, TI.of V T (I.low i) (st.seen (s.oth i)) (setTh_get hi) ?_⟩
    intro j g hj hg
    simp only at hj hg
    have F := I i t hi j g hj hg
    have hcl := (Th.fr.each j g hg).1
    have hh : hgt { t with stack := t.stack ++ [v, w], st := 4 } j = hgt t j := by
      unfold hgt
      simp only [if_true]
      rw [if_neg (show ¬ t.st = 4 by omega)]
      simp
    obtain ⟨x, x1, x2⟩ := F
    have A : FrTy S m i t.stack g (hgt t j) (topN { t with stack := t.stack ++ [v, w], st := 4 } j) := ⟨x, x1, x2.h, (fun e => by
      have := x2.t e
      unfold topN at this
      simp at this
      omega), x2.F, x2.o⟩
    rw [hh]
    have hb := Th.fr.below (List.mem_of_getElem? hg)
    refine A.mv T (by rw [V.kc]; exact hcl) st.tx (fun c ce k1 k2 _ _ => ⟨c, ce, by rw [← st.ce]; exact k1, k2, rfl⟩) (fun q q1 q2 _ hq => ?_)
    rw [V.kn _ hcl] at q2
    rw [gd_app (by omega)]
    exact hq
theorem co_ty : ∀ (n : Nat) {K : Cx} {m : VMD} {i : Nat} {t : ThD} {v w : Vl} {fu s : Nat} {r : BackD × Nat × VMD × Nat}, Slp K m → TC S m → TI S m → m.ths[i]? = some t → (t.st = 1 ∨ t.st = 2 ∨ t.st = 3) → VOk K v → VOk K w → coP n i v w fu m s = some r → (r.1.how = 3 → r.1.e ≠ 11) ∧ (r.1.how ≠ 3 → TC S r.2.2.1 ∧ TI S r.2.2.1) := by
  intro n
  induction n with
  | zero => intro K m i t v w fu s r _ _ _ _ _ _ _ e; cases e
  | succ n ih =>
    intro K m i t v w fu s r Sl T I hi hst hv hw e
    have il := (List.getElem?_eq_some_iff.1 hi).1
    obtain ⟨t1, f1, A, rm, R1⟩ := start_ok Sl hi hst hv hw
    obtain ⟨T1, I1⟩ := start_ty Sl T I hi hst (v := v) (w := w)
    have RT : RunT S K (startP m i v w) i t1 f1 := ⟨A, T1, I1, (Sl.oth i).rest R1⟩
    obtain ⟨k, ev, fu1, m1, e1, hle, ⟨K1, t2, l1, V1, U1, R2, hi2, hs2, hk1, hk2, hok, h4, h5⟩, hlt4⟩ := rounds_ok fu _ A rm rfl
    unfold coP at e
    cases hr : roundsP n fu (startP m i v w) i with
    | none => rw [hr] at e; cases e
    | some q =>
      have eq : q = (ev, fu1, m1) := roundsP_det hr e1
      subst eq
      obtain ⟨g1, g2⟩ := rounds_ty n fu RT rm hr
      rw [hr] at e
      dsimp only at e g1 g2
      have R : Rest m m1 i := R1.trans il R2
      have others : ∀ (j : Nat) (u : ThD), j ≠ i → m1.ths[j]? = some u → u.st ≠ 4 ∧ Room K1 2 u := by
        intro j u hj hu
        by_cases hjl : j < m.ths.length
        · have hu0 := List.getElem?_eq_getElem hjl
          obtain ⟨u', b1, b2, b3, b4⟩ := R.old j _ hj hu0
          rw [hu] at b1
          cases b1
          obtain ⟨c1, c2⟩ := Sl.sl j _ hu0
          exact ⟨by rw [b2]; exact c1, c2.le l1 (Sl.vi.clos hu0) b3 b4⟩
        · have h1 := R.new j u (by omega) hu
          exact ⟨by omega, room_nil ((V1.th j u hu).al.2 (.inl h1))⟩
      have slp : ev.k ≠ 5 → Slp K1 m1 := fun hk => ⟨V1, U1, fun j u hu => by
        by_cases hj : j = i
        · subst hj
          rw [hi2] at hu
          cases hu
          exact ⟨(hok hk).2.1, (hok hk).2.2.1⟩
        · exact others j u hj hu⟩
      by_cases hk4 : ev.k = 4
      · rw [if_pos hk4] at e
        obtain ⟨s3, hne, u, hu, hus⟩ := h4 hk4
        have S1 := slp (by omega)
        have hv1 := (hok (by omega)).1
        obtain ⟨T2, I2⟩ := g2 (by omega)
        cases hc : coP n ev.th ev.v nilV fu1 m1 (if (m1.th ev.th).st = 1 then s + 1 else s) with
        | none => rw [hc] at e; cases e
        | some r2 =>
          rw [hc] at e
          obtain ⟨rb, fu2, m2, s2⟩ := r2
          dsimp only at e
          obtain ⟨c1, c2⟩ := ih S1 T2 I2 hu (by omega) hv1 (VOk.nil K1) hc
          dsimp only at c1 c2
          obtain ⟨n2, r2', d2, P2⟩ := co_ok fu1 (a := ev.v) (b := nilV) (s := if (m1.th ev.th).st = 1 then s + 1 else s) S1 hu (by omega) hv1 (VOk.nil K1)
          have := coP_det d2 hc
          subst this
          split at e
          · rename_i hh
            cases e
            exact ⟨c1, fun x => (x hh).elim⟩
          · rename_i hh
            obtain ⟨K2, l2, V2, x2⟩ := P2.vi
            obtain ⟨S2, v2⟩ := x2 hh
            obtain ⟨u', hu', s3'⟩ := P2.nm hh i t2 (fun e => hne e.symm) hi2 s3
            obtain ⟨T3, I3⟩ := c2 hh
            exact ih S2 T3 I3 hu' (by omega) (VOk.bool _ _) v2 e
      · rw [if_neg hk4] at e
        split at e
        · cases e
          exact ⟨(fun x => by cases x), fun _ => g2 (by omega)⟩
        · split at e
          · cases e
            exact ⟨(fun x => by cases x), fun _ => g2 (by omega)⟩
          · split at e
            · rename_i hk5
              cases e
              exact ⟨fun _ => g1 hk5, fun x => (x rfl).elim⟩
            · cases e
              exact ⟨fun _ => by simp, fun x => (x rfl).elim⟩
/-- a loaded image whose code is typed -/
theorem run_ty {src : Bs} {im : ImD} (hl : src.length ≤ 32768) (hd : decodeP src = some im) (T : TC S (loadM im)) {n : Nat} {A : Int} {an : AnD} (h : runN n src A = some an) : an.e ≠ 11 := by
  have Sl := load_ok hl hd
  have hi : (loadM im).ths[0]? = some ⟨1, 0, [], [], []⟩ := rfl
  have I : TI S (loadM im) := by
    intro i t ht
    have : i = 0 := by
      have := (List.getElem?_eq_some_iff.1 ht).1
      simp [loadM] at this
      exact this
    subst this
    rw [hi] at ht
    cases ht
    intro j f hj
    simp at hj
  have e1 : loadP src = .inr (loadM im) := by
    unfold loadP
    rw [if_neg (by omega), hd]
  unfold runN at h
  rw [e1] at h
  dsimp only at h
  cases hc : coP n 0 nilV nilV A.toNat (loadM im) 0 with
  | none => rw [hc] at h; cases h
  | some r =>
    rw [hc] at h
    obtain ⟨rb, fu, m1, st⟩ := r
    obtain ⟨g1, _⟩ := co_ty n Sl T I hi (.inl rfl) (VOk.nil _) (VOk.nil _) hc
    dsimp only at h g1
    split at h
    · rename_i h3
      cases h
      exact g1 h3
    · cases h
      dsimp only
      split <;> decide
end
end Go.Proofs.Qxb6500574aGreatDoor
