/-
  moon: THE DRIVER: threads that resume threads. Plain; no memory, no walk.
-/
import Derived.Test.Qxb6500574aGreatDoorZM42
namespace Go.Proofs.Qxb6500574aGreatDoor
set_option linter.unusedVariables false
set_option linter.unusedSimpArgs false
section
variable {N : List Nd} {root : Nat} {D : CmD} {S : Nat → Nat → Ty → Prop}
theorem co_sim : ∀ (n : Nat) {K : Cx} {m : VMD} {i : Nat} {t : ThD} {v w : Vl} {fu s : Nat} {r : BackD × Nat × VMD × Nat} {M : MD} {P : List (Option Lc)} {stk : List Nat}, Slp K m → TC S m → TI S m → m.ths[i]? = some t → (t.st = 1 ∨ t.st = 2 ∨ t.st = 3) → VOk K v → VOk K w → coP n i v w fu m s = some r →
    Rel N root D (startP m i v w) fu s M P → M.cur = i → M.stack = stk → (∀ j, InH (stepsM N root j M)) →
    ∃ j, (r.1.how = 3 → (stepsM N root j M).done = some ⟨r.1.e, r.2.1, r.2.2.2, r.2.2.1.out, [45]⟩) ∧ (r.1.how ≠ 3 → Dlv N root D stk r.2.2.2 r.2.1 r.2.2.1 (decide (r.1.how = 1)) r.1.v (stepsM N root j M)) := by
  intro n
  induction n with
  | zero => intro K m i t v w fu s r M P stk _ _ _ _ _ _ _ e; cases e
  | succ n ih =>
    intro K m i t v w fu s r M P stk Sl T I hi hst hv hw e RM hc hs hI
    have il := (List.getElem?_eq_some_iff.1 hi).1
    obtain ⟨t1, f1, A, rm, R1⟩ := start_ok Sl hi hst hv hw
    obtain ⟨T1, I1⟩ := start_ty Sl T I hi hst (v := v) (w := w)
    have RT : RunT S K (startP m i v w) i t1 f1 := ⟨A, T1, I1, (Sl.oth i).rest R1⟩
    obtain ⟨k, ev, fu1, m1, e1, hle, ⟨K1, t2, l1, V1, U1, R2, hi2, hs2, hk1, hk2, hok, h4, h5⟩, hlt4⟩ := rounds_ok fu _ A rm rfl
    unfold coP at e
    cases hr : roundsP n fu (startP m i v w) i with
    | none => rw [hr] at e; cases e
    | some q =>
      have eq : q = (ev, fu1, m1) := roundsP_det hr e1
      subst eq
      obtain ⟨g1, g2⟩ := rounds_ty n fu RT rm hr
      obtain ⟨j1, EV⟩ := rounds_sim n RM hc hs ⟨K, t1, f1, RT, rm⟩ hI hr
      rw [hr] at e
      dsimp only at e g1 g2
      have R : Rest m m1 i := R1.trans il R2
      have others : ∀ (j : Nat) (u : ThD), j ≠ i → m1.ths[j]? = some u → u.st ≠ 4 ∧ Room K1 2 u := by
        intro j u hj hu
        by_cases hjl : j < m.ths.length
        · have hu0 := List.getElem?_eq_getElem hjl
          obtain ⟨u', b1, b2, b3, b4⟩ := R.old j _ hj hu0
          rw [hu] at b1
          cases b1
          obtain ⟨c1, c2⟩ := Sl.sl j _ hu0
          exact ⟨by rw [b2]; exact c1, c2.le l1 (Sl.vi.clos hu0) b3 b4⟩
        · have h1 := R.new j u (by omega) hu
          exact ⟨by omega, room_nil ((V1.th j u hu).al.2 (.inl h1))⟩
      have slp : ev.k ≠ 5 → Slp K1 m1 := fun hk => ⟨V1, U1, fun j u hu => by
        by_cases hj : j = i
        · subst hj
          rw [hi2] at hu
          cases hu
          exact ⟨(hok hk).2.1, (hok hk).2.2.1⟩
        · exact others j u hj hu⟩
      by_cases hk4 : ev.k = 4
      · rw [if_pos hk4] at e
        obtain ⟨s3, hne, u, hu, hus⟩ := h4 hk4
        have S1 := slp (by omega)
        have hv1 := (hok (by omega)).1
        obtain ⟨T2, I2⟩ := g2 (by omega)
        obtain ⟨⟨P1, RM1⟩, hc1, hs1⟩ := EV.k4 hk4
        have hI1 : ∀ j, InH (stepsM N root j (stepsM N root j1 M)) := fun j => by rw [stepsM_add]; exact hI _
        cases hc : coP n ev.th ev.v nilV fu1 m1 (if (m1.th ev.th).st = 1 then s + 1 else s) with
        | none => rw [hc] at e; cases e
        | some r2 =>
          rw [hc] at e
          obtain ⟨rb, fu2, m2, s2⟩ := r2
          dsimp only at e
          obtain ⟨c1, c2⟩ := co_ty n S1 T2 I2 hu (by omega) hv1 (VOk.nil K1) hc
          dsimp only at c1 c2
          obtain ⟨n2, r2', d2, P2⟩ := co_ok fu1 (a := ev.v) (b := nilV) (s := if (m1.th ev.th).st = 1 then s + 1 else s) S1 hu (by omega) hv1 (VOk.nil K1)
          have := coP_det d2 hc
          subst this
          obtain ⟨j2, D1, D2⟩ := ih S1 T2 I2 hu (by omega) hv1 (VOk.nil K1) hc RM1 hc1 hs1 hI1
          dsimp only at D1 D2
          split at e
          · rename_i hh
            cases e
            refine ⟨j1 + j2, fun _ => ?_, fun x => (x hh).elim⟩
            rw [← stepsM_add]
            exact D1 hh
          · rename_i hh
            obtain ⟨K2, l2, V2, x2⟩ := P2.vi
            obtain ⟨S2, v2⟩ := x2 hh
            obtain ⟨u', hu', s3'⟩ := P2.nm hh i t2 (fun e => hne e.symm) hi2 s3
            obtain ⟨T3, I3⟩ := c2 hh
            obtain ⟨⟨P3, RM3⟩, hc3, hs3⟩ := D2 hh
            have hI3 : ∀ j, InH (stepsM N root j (stepsM N root j2 (stepsM N root j1 M))) := fun j => by rw [stepsM_add, stepsM_add]; exact hI _
            obtain ⟨j3, E1, E2⟩ := ih S2 T3 I3 hu' (by omega) (VOk.bool _ _) v2 e RM3 hc3 hs3 hI3
            rw [stepsM_add, stepsM_add] at E1 E2
            exact ⟨j1 + (j2 + j3), E1, E2⟩
      · rw [if_neg hk4] at e
        split at e
        · rename_i h13
          cases e
          exact ⟨j1, (fun x => by cases x), fun _ => EV.k1 (by omega)⟩
        · rename_i h13
          split at e
          · rename_i h2
            cases e
            exact ⟨j1, (fun x => by cases x), fun _ => EV.k2 h2⟩
          · rename_i h2
            split at e
            · rename_i hk5
              cases e
              exact ⟨j1, fun _ => EV.k5 hk5, fun x => (x rfl).elim⟩
            · exfalso
              omega
/-- at the start -/
theorem start_rel {im : ImD} {fuel : Nat} (tx : TxtZ N root D (loadM im)) (hp : 0 < im.protos.length) : ∃ P, Rel N root D (startP (loadM im) 0 nilV nilV) fuel 0 ((⟨[globals], [(0, none)], [], [⟨4, 0, 0, [], []⟩], [], 0, fuel, 0, [], none⟩ : MD).enter N root 0 [] 0) P := by
  have W : RelW N root D (loadM im) fuel 0 (⟨[globals], [(0, none)], [], [⟨4, 0, 0, [], []⟩], [], 0, fuel, 0, [], none⟩ : MD) [] 0 := by
    refine ⟨rfl, rfl, rfl, rfl, rfl, tx, rfl, ⟨rfl, fun i l h => by simp at h, fun i j l h => by simp at h, fun i x h => by simp at h, fun i c h => by simp at h⟩, fun i j h => by simp at h, rfl, fun c hc => ?_, by simp, rfl, (fun c hc => by cases hc), fun j t hj ht => ?_⟩
    · have hc : c < 1 := hc
      have hc0 : c = 0 := by omega
      subst hc0
      refine ⟨0, [], [], by show 0 < 1; decide, ⟨none, rfl, rfl⟩, ⟨rfl, ?_, fun x hx => ?_⟩, .inl ⟨rfl, rfl, rfl⟩⟩
      · obtain ⟨_, _, _, _, _, _, _, z⟩ := tx.main
        show 0 + (D.fn 0).ups.length ≤ 0
        rw [z]
        exact Nat.le_refl _
      · obtain ⟨_, _, _, _, _, _, _, z⟩ := tx.main
        have hx : x < (D.fn 0).ups.length := hx
        rw [z] at hx
        simp at hx
    · exfalso
      have ht : ([⟨1, 0, [], [], []⟩] : List ThD)[j]? = some t := ht
      have := (List.getElem?_eq_some_iff.1 ht).1
      simp at this
      exact hj this
  obtain ⟨E', e', P', b1, b2⟩ := W.enter (c := 0) (ret := 0) (prot := false) (args := [nilV]) (t := ⟨1, 0, [], [], []⟩) (T := ⟨4, 0, 0, [], []⟩) (ts := []) (vs := []) rfl rfl rfl rfl (by show 0 < 1; decide) (by exact hp) (Nat.le_refl _) ⟨rfl, rfl⟩ (fun _ => ⟨rfl, rfl⟩) (fun n q hq => by simp at hq)
  have b1 : bindA N 4 (N.getD 0 nd0).a [nilV] [] none = (E', e') := b1
  rw [tx.za] at b1
  have b1 : (([], none) : List EnD × Option Nat) = (E', e') := b1
  cases b1
  refine ⟨P', ?_⟩
  have em : startP (loadM im) 0 nilV nilV = { loadM im with ths := (loadM im).ths.set 0 { (⟨1, 0, [], [], []⟩ : ThD) with st := 4, stack := ([] : List Vl) ++ (List.range ((loadM im).proto 0).ns).map (fun j => if j < ((loadM im).proto 0).np then [nilV].getD j nilV else nilV), frames := ([] : List FmD) ++ [⟨0, 0, ([] : List Vl).length, 0, false⟩] } } := by
    unfold startP
    dsimp only
    have hi : (loadM im).ths[0]? = some ⟨1, 0, [], [], []⟩ := rfl
    rw [th_get hi, if_pos rfl, enter_is hi, th_get (setTh_get hi), setTh_setTh]
    rfl
  rw [em]
  have eM : ((⟨[globals], [(0, none)], [], [⟨4, 0, 0, [], []⟩], [], 0, fuel, 0, [], none⟩ : MD).enter N root 0 [] 0) = { (⟨[globals], [(0, none)], [], [⟨4, 0, 0, [], []⟩], [], 0, fuel, 0, [], none⟩ : MD).st { (⟨4, 0, 0, [], []⟩ : MTh) with st := 4, depth := ([] : List FmD).length + 1, tasks := ⟨1, if (([(0, none)] : List (Nat × Option Nat)).getD 0 (0, none)).1 = 0 then root else (N.getD (([(0, none)] : List (Nat × Option Nat)).getD 0 (0, none)).1 nd0).b, 0, none⟩ :: ⟨3, if false then 1 else 0, ([] : List Vl).length, none⟩ :: [], vals := [] } with envs := [] } := by
    unfold MD.enter
    dsimp only
    have e : bindA N 4 (N.getD 0 nd0).a [] [] none = (([], none) : List EnD × Option Nat) := by rw [tx.za]; rfl
    show MD.mk _ _ (bindA N 4 (N.getD 0 nd0).a [] [] none).1 _ _ _ _ _ _ _ = _
    have e2 : (bindA N 4 (N.getD (([(0, none)] : List (Nat × Option Nat)).getD 0 (0, none)).1 nd0).a [] [] (([(0, none)] : List (Nat × Option Nat)).getD 0 (0, none)).2) = (([], none) : List EnD × Option Nat) := e
    rw [e]
    unfold MD.upT
    rw [e2]
    rfl
  rw [eM]
  exact b2
theorem co_how : ∀ (n : Nat) {m : VMD} {i : Nat} {v w : Vl} {fu s : Nat} {r : BackD × Nat × VMD × Nat}, coP n i v w fu m s = some r → r.1.how = 1 ∨ r.1.how = 2 ∨ r.1.how = 3 := by
  intro n
  induction n with
  | zero => intro m i v w fu s r e; cases e
  | succ n ih =>
    intro m i v w fu s r e
    unfold coP at e
    cases hr : roundsP n fu (startP m i v w) i with
    | none => rw [hr] at e; cases e
    | some q =>
      obtain ⟨ev, fu1, m1⟩ := q
      rw [hr] at e
      dsimp only at e
      by_cases hk4 : ev.k = 4
      · rw [if_pos hk4] at e
        cases hc : coP n ev.th ev.v nilV fu1 m1 (if (m1.th ev.th).st = 1 then s + 1 else s) with
        | none => rw [hc] at e; cases e
        | some r2 =>
          rw [hc] at e
          obtain ⟨rb, fu2, m2, s2⟩ := r2
          dsimp only at e
          split at e
          · rename_i hh
            cases e
            exact .inr (.inr hh)
          · exact ih e
      · rw [if_neg hk4] at e
        split at e
        · cases e; exact .inl rfl
        · split at e
          · cases e; exact .inr (.inl rfl)
          · split at e
            · cases e; exact .inr (.inr rfl)
            · cases e; exact .inr (.inr rfl)
end
end Go.Proofs.Qxb6500574aGreatDoor
