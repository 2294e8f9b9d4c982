/-
  THE PROBES AT ANY FUEL. Plain laws; no memory, no walk.
-/
import Derived.Test.Qxb6500577aGreatVProbe
import Derived.Test.Qxb6500577aGreatVInv9
namespace Go.Proofs.Qxb6500577aGreat
open Go
/-- what a run that burns just B says of the runs on other fuels -/
theorem run_at {s : Bs} {B n0 : Nat} {e m : Nat} {o : Bs} {v : Vl} (hB : 0 < B) (h : runN n0 s B = some ⟨e, 0, m, o, showV v⟩) {A : Int} {n : Nat} {a : AnD} (ha : runN n s A = some a) :
    (A < B → a.e = 9 ∧ a.n = 0 ∧ a.m ≤ m ∧ a.t = [45] ∧ a.s <+: o) ∧ ((B : Int) ≤ A → a = ⟨e, (A - B).toNat, m, o, showV v⟩) := by
  obtain ⟨c, rest, hv, hc⟩ := showV_head v
  unfold runN at h ha
  cases hl : loadP s with
  | inl x =>
    rw [hl] at h
    dsimp only at h
    have := congrArg (fun x => x.map AnD.t) h
    simp [hv] at this
  | inr mm =>
    rw [hl] at h ha
    dsimp only at h ha
    rw [show ((B : Nat) : Int).toNat = B by omega] at h
    cases h1 : coP n0 0 nilV nilV B mm 0 with
    | none => rw [h1] at h; cases h
    | some r =>
      obtain ⟨rb, fu, m1, st⟩ := r
      rw [h1] at h
      dsimp only at h
      cases h2 : coP n 0 nilV nilV A.toNat mm 0 with
      | none => rw [h2] at ha; cases ha
      | some r' =>
        obtain ⟨rb', fu', m1', st'⟩ := r'
        rw [h2] at ha
        dsimp only at ha
        have h3 : rb.how ≠ 3 := by
          intro h3
          rw [if_pos h3] at h
          have := congrArg (fun x => x.map AnD.t) h
          simp [hv] at this
          exact hc this.1.symm
        rw [if_neg h3] at h
        simp only [Option.some.injEq, AnD.mk.injEq] at h
        obtain ⟨he, hf, hm, ho, ht⟩ := h
        subst he hf hm ho
        have hno : ¬ isOver9 rb := fun x => h3 x.1
        constructor
        · intro hA
          have ho9 : isOver9 rb' := Classical.byContradiction fun hn => by
            have h4 := coP_more (B - A.toNat) h2 hn
            rw [show A.toNat + (B - A.toNat) = B by omega] at h4
            have h5 := coP_det h1 h4
            simp only [Prod.mk.injEq] at h5
            omega
          obtain ⟨z, zz⟩ := coP_cut (B - A.toNat) h2 ho9
          rw [show A.toNat + (B - A.toNat) = B by omega] at zz
          obtain ⟨z1, z2⟩ := zz _ _ h1
          dsimp only at z z1 z2
          rw [if_pos ho9.1] at ha
          cases ha
          exact ⟨ho9.2, z, z2, rfl, z1⟩
        · intro hA
          have h4 := coP_more (A.toNat - B) h1 hno
          rw [show B + (A.toNat - B) = A.toNat by omega] at h4
          have h5 := coP_det h2 h4
          simp only [Prod.mk.injEq] at h5
          obtain ⟨rfl, rfl, rfl, rfl⟩ := h5
          rw [if_neg h3] at ha
          cases ha
          simp [ht]
end Go.Proofs.Qxb6500577aGreat
