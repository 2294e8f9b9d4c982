/-
  moon: THE INTERPRETER ANSWERS AS THE MACHINE DOES, but for one law of its own values. Plain; no memory, no walk.
-/
import Derived.Test.Qxb6500574aGreatDoorZM43
import Derived.Test.Qxb6500574aGreatDoorWIm2
namespace Go.Proofs.Qxb6500574aGreatDoor
set_option linter.unusedVariables false
set_option linter.unusedSimpArgs false
theorem tree_zero2 {src : Bs} {N : List Nd} {root : Nat} (h : treeP src = .inr (N, root)) : N.getD 0 nd0 = nd0 := by
  unfold treeP at h
  split at h
  · cases h
  · dsimp only at h
    split at h
    · cases h
    · rename_i x hx
      have ok : SOk ⟨0, 0, 0, 0, [nd0]⟩ := ⟨by decide, by decide, by decide⟩
      have B := (PA.all (scan_tok src) _).p9 _ _ _ _ ok hx (by decide)
      split at h
      · cases h
      · split at h
        · cases h
        · cases h
          have := B.kp.old 0 (by decide)
          rw [this]
          rfl
theorem tree_sim0 {src : Bs} {N : List Nd} {root : Nat} (hx : treeP src = .inr (N, root)) {n : Nat} {A : Int} {an : AnD} (hr : runN n (layP (comP N root)) A = some an) (hI : ∀ j, InH (stepsM N root j (startM N root A))) : ∃ n', runM n' N root A = some an := by
  have T := tree_shape hx
  obtain ⟨h0, hl⟩ := tree_zero hx
  have hz := tree_zero2 hx
  obtain ⟨b, l, al', C, hc, hs⟩ := com_ok T h0
  have F := com_fits T.le h0 C hc hs
  obtain ⟨i1, i2⟩ := F.image T.le (com_wt T h0)
  have ty := com_typed h0 C hc hs
  have hnp := F.np
  have hlen : ((((comP N root).fns.take (comP N root).np).foldl addF ⟨[], [], [], []⟩)).protos.length = (comP N root).np := by
    have := (fold_pre ((comP N root).fns.take (comP N root).np) ⟨[], [], [], []⟩).2.2.2.2
    rw [F.tlen] at this
    simp only [List.length_nil, Nat.zero_add] at this
    exact this
  generalize hD : comP N root = D at *
  generalize him : (D.fns.take D.np).foldl addF ⟨[], [], [], []⟩ = im at *
  have fx : ∀ p, p < D.np → fxOf (loadM im) p = fxD D p ∧ ((loadM im).protos.getD p pr0).np = (D.fn p).np := fun p hp => by
    have := F.fx hp
    rw [him] at this
    exact this
  obtain ⟨s1, m1, m2⟩ := C.main
  have tx : TxtZ N root D (loadM im) := ⟨fun p hp => fx p (by rw [← hlen]; exact hp), hlen, h0, by rw [hz]; rfl, l, s1, hc, fun x hx => by obtain ⟨_, _, _, _, _, q⟩ := hs.all x hx; exact ⟨_, _, _, _, _, q⟩, ⟨_, m1⟩, m2, C.np0, C.ups0⟩
  have TCm : TC (fun p pc a => p < D.np ∧ Gd (fxD D p) (fun _ _ => False) pc a) (loadM im) := by
    refine ⟨fun p pc a hS => ?_, fun p hp => ?_⟩
    · obtain ⟨e1, _⟩ := fx p hS.1
      rw [e1]
      exact hS.2.out.mono fun q c x => ⟨hS.1, x⟩
    · have hp' : p < D.np := by
        have hp : p < im.protos.length := hp
        omega
      obtain ⟨_, e2⟩ := fx p hp'
      rw [e2]
      exact Goes.mono (fun q c x => ⟨hp', x⟩) (ty p hp').out
  have Sl := load_ok (s := layP D) (by omega) i2
  have hi : (loadM im).ths[0]? = some ⟨1, 0, [], [], []⟩ := rfl
  have I : TI (fun p pc a => p < D.np ∧ Gd (fxD D p) (fun _ _ => False) pc a) (loadM im) := by
    intro i t ht
    have : i = 0 := by
      have := (List.getElem?_eq_some_iff.1 ht).1
      simp [loadM] at this
      exact this
    subst this
    rw [hi] at ht
    cases ht
    intro j f hj
    simp at hj
  have e1 : loadP (layP D) = .inr (loadM im) := by
    unfold loadP
    rw [if_neg (by omega), i2]
  unfold runN at hr
  rw [e1] at hr
  dsimp only at hr
  obtain ⟨P, R⟩ := start_rel (fuel := A.toNat) tx (by omega)
  have R : Rel N root D (startP (loadM im) 0 nilV nilV) A.toNat 0 (startM N root A) P := R
  cases hco : coP n 0 nilV nilV A.toNat (loadM im) 0 with
  | none => rw [hco] at hr; cases hr
  | some r =>
    have how := co_how n hco
    obtain ⟨j, D1, D2⟩ := co_sim n (stk := []) Sl TCm I hi (.inl rfl) (VOk.nil _) (VOk.nil _) hco R rfl rfl hI
    rw [hco] at hr
    obtain ⟨rb, fu, m1, st⟩ := r
    dsimp only at hr D1 D2 how
    refine ⟨j, ?_⟩
    unfold runM
    by_cases h3 : rb.how = 3
    · rw [if_pos h3] at hr
      cases hr
      exact D1 h3
    · rw [if_neg h3] at hr
      cases hr
      have D2 := D2 h3
      have D2 : (stepsM N root j (startM N root A)).done = some ⟨if decide (rb.how = 1) then 0 else 12, fu, st, m1.out, showV rb.v⟩ := D2
      rw [D2]
      rcases how with z | z | z
      · simp [z]
      · simp [z]
      · exact absurd z h3
end Go.Proofs.Qxb6500574aGreatDoor
