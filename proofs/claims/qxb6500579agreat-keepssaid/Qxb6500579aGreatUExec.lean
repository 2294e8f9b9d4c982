/-
  Exec of a machine at rest, whatever it is handed.
-/
import Derived.Test.Qxb6500579aGreatUExB
import Derived.Test.Qxb6500579aGreatUShow
namespace Go.Proofs.Qxb6500579aGreat
open Go Go.RowKit
set_option linter.unusedVariables false
set_option linter.unusedSimpArgs false
theorem Slp.lowU {K : Cx} {m : VMD} (S : Slp K m) : Low m := fun y u hu => by
  have := S.stk hu
  omega
theorem exec_all {w : World} {A : VL} {σ : St} (R : VRep w A σ.m σ.f σ.e) (D : DI σ) {i : Int} (hi : -9223372036854775808 ≤ i ∧ i ≤ 9223372036854775807) {a b : Vl} (ha : a.n < 18446744073709551616) (hb : b.n < 18446744073709551616) :
    Calls Tryz.prog 37 #[.pointer (some ⟨A.b, 0, none⟩), .int .i64 i, a.val, b.val] w fun e' w' => ∃ ev σ' A', e' = .returned ev.val ∧ ExecR σ i a b ev σ' ∧ VRep w' A' σ'.m σ'.f σ'.e ∧ VSt isVM w A w' A' := by
  obtain ⟨m, f, e⟩ := σ
  dsimp only at R
  have bad : ∀ (h : ¬ Okay ⟨m, f, e⟩ i a b) (c : Calls Tryz.prog 37 #[.pointer (some ⟨A.b, 0, none⟩), .int .i64 i, a.val, b.val] w fun e' w' => e' = .returned evBad.val ∧ Fr (fun _ => False) w w'), Calls Tryz.prog 37 #[.pointer (some ⟨A.b, 0, none⟩), .int .i64 i, a.val, b.val] w fun e' w' => ∃ ev σ' A', e' = .returned ev.val ∧ ExecR ⟨m, f, e⟩ i a b ev σ' ∧ VRep w' A' σ'.m σ'.f σ'.e ∧ VSt isVM w A w' A' := by
    intro h c
    refine c.mono ?_
    rintro e' w' ⟨rfl, hF⟩
    exact ⟨evBad, ⟨m, f, e⟩, A, rfl, .inl ⟨h, rfl, rfl⟩, R.fresh hF, VSt.fresh hF⟩
  by_cases h1 : e ≠ 0 ∨ i < 0 ∨ (m.ths.length : Int) ≤ i
  · refine bad (fun O => ?_) (exec_none R hi h1)
    rcases h1 with h | h | h
    · exact h O.e
    · have := O.i0; omega
    · have h2 := O.il; have h3 := O.i0; dsimp only at h2; omega
  · have he : e = 0 := Decidable.byContradiction fun x => h1 (.inl x)
    have h0 : 0 ≤ i := Int.not_lt.1 fun x => h1 (.inr (.inl x))
    have hl : i < m.ths.length := Int.not_le.1 fun x => h1 (.inr (.inr x))
    subst he
    obtain ⟨⟨K, S⟩, T0⟩ := D.live rfl
    dsimp only at S
    obtain ⟨n, rfl⟩ : ∃ n : Nat, i = (n : Int) := ⟨i.toNat, by omega⟩
    have hln : n < m.ths.length := by omega
    have hth : m.ths[n]? = some m.ths[n] := List.getElem?_eq_getElem hln
    have hbd : m.clos.length ≤ 1000 ∧ m.tabs.length ≤ 1000 := ⟨by have := S.vi.kc; have := S.vi.cn; omega, by have := S.vi.kt; have := S.vi.tn; omega⟩
    have T := S.vi.th n _ hth
    have hs4 := (S.sl n _ hth).1
    by_cases h2 : validV m a = false ∨ validV m b = false ∨ (m.ths[n]).st = 5
    · refine bad (fun O => ?_) (exec_no R hbd hth h2)
      rcases h2 with h | h | h
      · have := O.va; dsimp only at this; rw [h] at this; cases this
      · have := O.vb; dsimp only at this; rw [h] at this; cases this
      · have h5 := O.st
        dsimp only at h5
        rw [Int.toNat_natCast, th_get hth] at h5
        omega
    · have hva : validV m a = true := by
        cases x : validV m a
        · exact (h2 (.inl x)).elim
        · rfl
      have hvb : validV m b = true := by
        cases x : validV m b
        · exact (h2 (.inr (.inl x))).elim
        · rfl
      have hst : (m.ths[n]).st = 1 ∨ (m.ths[n]).st = 2 ∨ (m.ths[n]).st = 3 := by
        have h5 : (m.ths[n]).st ≠ 5 := fun x => h2 (.inr (.inr x))
        have := T.st
        omega
      have O : Okay ⟨m, f, 0⟩ (n : Int) a b := ⟨rfl, h0, by dsimp only; omega, hva, hvb, by dsimp only; rw [Int.toNat_natCast, th_get hth]; exact hst⟩
      obtain ⟨k, r, hr, _⟩ := exec_run D ha hb O
      dsimp only at hr
      rw [Int.toNat_natCast] at hr
      refine (exec_any R S S.lowU D.fu hth hst (VOk.of_valid S.vi ha hva) (VOk.of_valid S.vi hb hvb) hr).mono ?_
      rintro e' w' ⟨A', m9, e9, rfl, R9, TM, NT, ST⟩
      refine ⟨r.1, after r, A', rfl, .inr ⟨O, k, r, by dsimp only; rw [Int.toNat_natCast]; exact hr, rfl, rfl⟩, ?_, ST⟩
      by_cases hk : r.1.k = 5
      · rw [after_5 hk]
        obtain ⟨q1, q2⟩ := TM.2 hk
        rw [q1, q2] at R9
        exact R9
      · rw [after_4 hk]
        obtain ⟨q1, q2⟩ := NT hk
        rw [q1, q2] at R9
        exact R9
end Go.Proofs.Qxb6500579aGreat
