/-
  co: the machine behind a run of the driver is at rest. Plain; no walk.
-/
import Derived.Test.Qxb6500574aGreatDoorVCo0
import Derived.Test.Qxb6500574aGreatDoorU2
namespace Go.Proofs.Qxb6500574aGreatDoor
/-- the machine behind the driver's answer -/
def afterC (r : BackD × Nat × VMD × Nat) : St := if r.1.how = 3 then ⟨wipeD r.2.2.1, r.2.1, r.1.e⟩ else ⟨r.2.2.1, r.2.1, 0⟩
theorem coP_di : ∀ (n : Nat) {i fu s : Nat} {a b : Vl} {m : VMD} {K : Cx} {t : ThD} {r : BackD × Nat × VMD × Nat}, Slp K m → DI ⟨m, fu, 0⟩ → m.ths[i]? = some t → (t.st = 1 ∨ t.st = 2 ∨ t.st = 3) → VOk K a → VOk K b → coP n i a b fu m s = some r → DI (afterC r) := by
  intro n
  induction n with
  | zero => intro i fu s a b m K t r _ _ _ _ _ _ h; simp [coP] at h
  | succ k ih =>
    intro i fu s a b m K t r S D hi hst ha hb h
    have il := (List.getElem?_eq_some_iff.1 hi).1
    have hth : m.th i = t := by simp [VMD.th, hi]
    have O : Okay ⟨m, fu, 0⟩ (i : Int) a b := ⟨rfl, by omega, by simpa using il, ha.valid S.vi.kt S.vi.kc S.vi.kh, hb.valid S.vi.kt S.vi.kc S.vi.kh, by dsimp only; rw [Int.toNat_natCast, hth]; exact hst⟩
    obtain ⟨n2, r2, h2, X⟩ := exec_run D ha.b hb.b O
    dsimp only at h2
    rw [Int.toNat_natCast] at h2
    unfold coP at h
    split at h
    · cases h
    · rename_i ev f1 m1 he
      have := roundsP_det h2 he
      subst this
      obtain ⟨K1, CS⟩ := co_step S hi hst ha hb he
      have k1 := CS.k1
      have k5 := CS.k5
      have X := X.d
      dsimp only at k1 k5 X CS
      by_cases h4 : ev.k = 4
      · rw [if_pos h4] at h
        rw [after_4 (by dsimp only; omega)] at X
        obtain ⟨S1, v1⟩ := CS.slp (by omega)
        obtain ⟨_, ⟨t2, ht2, hs3⟩, hne, u, hu, hus⟩ := CS.r4 h4
        split at h
        · cases h
        · rename_i rb fu2 m2 s2 hc
          have hd := ih S1 X hu (by omega) v1 (VOk.nil K1) hc
          have CP := co_post S1 hu (by omega) v1 (VOk.nil K1) hc
          by_cases h3 : rb.how = 3
          · rw [if_pos h3] at h
            cases h
            exact hd
          · rw [if_neg h3] at h
            unfold afterC at hd
            rw [if_neg h3] at hd
            obtain ⟨K2, _, _, hx⟩ := CP.vi
            obtain ⟨S2, v2⟩ := hx h3
            obtain ⟨t9, ht9, hs9⟩ := CP.nm h3 i t2 (Ne.symm hne) ht2 hs3
            exact ih S2 hd ht9 (.inr (.inr hs9)) (VOk.bool _ _) v2 h
      · rw [if_neg h4] at h
        by_cases h31 : ev.k = 3 ∨ ev.k = 1
        · rw [if_pos h31] at h
          rw [after_4 (by dsimp only; omega)] at X
          cases h
          exact X
        · rw [if_neg h31] at h
          by_cases hk2 : ev.k = 2
          · rw [if_pos hk2] at h
            rw [after_4 (by dsimp only; omega)] at X
            cases h
            exact X
          · rw [if_neg hk2] at h
            have hk5 : ev.k = 5 := by omega
            rw [if_pos hk5] at h
            rw [after_5 hk5] at X
            cases h
            exact X
theorem loadM_di {s : Bs} {im : ImD} (hl : s.length ≤ 32768) (hd : decodeP s = some im) {f : Nat} (hf : f < 9223372036854775808) : DI ⟨loadM im, f, 0⟩ := by
  have S := load_ok hl hd
  refine ⟨fun _ => ⟨⟨K0 im, S⟩, fun t ht => ?_⟩, fun x => absurd rfl x, hf, S.vi.ol, .inl rfl, fun t ht => ⟨(S.vi.tb t ht).1, S.vi.tk t ht⟩, by have := S.vi.kt; have := S.vi.tn; dsimp only; omega, ⟨K0 im, fun t ht => (S.vi.tb t ht).2⟩⟩
  simp [loadM] at ht
  rw [← ht]
  simp [loadM]
end Go.Proofs.Qxb6500574aGreatDoor
