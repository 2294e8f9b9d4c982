/-
  runm: what the walks of seq, block, invoke are to say; step, whole.
-/
import Derived.Test.Qxb6500575aGreatDoorYStepN
namespace Go.Proofs.Qxb6500575aGreatDoor
open Go Go.RowKit
set_option linter.unusedVariables false
set_option linter.unusedSimpArgs false

def SeqW (R : MP) (H : HF HS) (n : Nat) : Prop := ∀ (t : Tk) (m : MS) (o : Ot), t.k = 0 → srun R.P R.srcs H R.max n t m = some o → ∀ (w : World) (L : NL) (K : ML) (la : Option Addr) (ln lc f : Nat) (sa : Option Addr) (sc : Nat), R.LS.vs[f]? = some (.slice sa t.src.length sc) → R.srcs[f]? = some t.src → 0 ≤ t.depth → t.depth ≤ 10 → HostOk R H m → MW R w L K m → LocAt R w L (.slice la ln lc) t.loc →
  Calls Tryz.prog 133 #[.pointer (some ⟨R.bn, 0, none⟩), .slice sa t.src.length sc, .int .i64 t.i, .slice la ln lc, .int .i64 t.depth] w (RunPost R H (.slice la ln lc) o w L K)
def InvW (R : MP) (H : HF HS) (n : Nat) : Prop := ∀ (t : Tk) (m : MS) (o : Ot), t.k = 2 → srun R.P R.srcs H R.max n t m = some o → ∀ (w : World) (L : NL) (K : ML), 0 ≤ t.depth → t.depth ≤ 10 → HostOk R H m → MW R w L K m →
  Calls Tryz.prog 110 #[.pointer (some ⟨R.bn, 0, none⟩), .int .i64 t.f, .int .i64 t.depth] w (InvPost R H o w L K)
section
variable {R : MP} {H : HF HS} {m : MS} {w : World} {L : NL} {K : ML} {la : Option Addr} {ln lc : Nat}
theorem ystep_any {n : Nat} {c : Ins} {t : Tk} {o : Ot} (hM : MOk R) (hI : InvW R H n) (hO : HostOk R H m) (hW : MW R w L K m) (hL : LocAt R w L (.slice la ln lc) t.loc) (hok : okS c t.loc R.max m = true) (hop : c.op ≠ 1 ∧ c.op ≠ 2 ∧ c.op ≠ 3 ∧ c.op ≠ 4 ∧ c.op ≠ 5) (hd : 0 ≤ t.depth) (hs : sins R.P H R.max (srun R.P R.srcs H R.max n) t c m = some o) :
    Calls Tryz.prog 143 #[.pointer (some ⟨R.bn, 0, none⟩), c.val, .slice la ln lc, .int .i64 t.depth] w (RunPost R H (.slice la ln lc) o w L K) := by
  obtain ⟨h1, h2, h3, hu, hf, hw, himm, hst, hll, hm8, hmx, hmax⟩ := okS_parts hok
  have hneg : 0 ≤ c.op := by
    by_cases h0 : 0 ≤ c.op
    · exact h0
    · exfalso
      unfold well at hw
      rw [if_neg (by omega)] at hw
      split at hw
      · cases hw
      rw [if_neg (by omega), if_neg (by omega), if_neg (by omega), if_neg (by omega), if_neg (by omega), if_pos (by omega)] at hw
      cases hw
  unfold sins at hs
  rw [if_neg (by omega)] at hs
  by_cases hp : m.x.pay.2 = 0
  · rw [if_neg (by rw [hp]; simp), if_neg hop.2.2.1] at hs
    by_cases h10 : c.op = 10
    · rw [if_pos h10] at hs
      obtain ⟨cop, cimm, ctab⟩ := c
      simp only at h10 hs himm
      subst h10
      have hi0 : 0 ≤ cimm := well_imm hw (by simp)
      by_cases himp : cimm < R.P.nimp
      · rw [if_pos himp] at hs
        obtain ⟨g, rfl⟩ : ∃ g : Nat, cimm = g := ⟨cimm.toNat, by omega⟩
        unfold askS at hs
        simp only [Int.toNat_natCast] at hs
        cases hu0 : R.P.funs[g]? with
        | none => rw [hu0] at hs; simp at hs
        | some u =>
          obtain ⟨up, ur, ul⟩ := u
          rw [hu0] at hs
          simp only at hs
          split at hs
          · cases hs
          rename_i hcond
          simp only [not_or, Bool.not_eq_false] at hcond
          obtain ⟨c1, c2, c3, c4⟩ := hcond
          unfold argsOk at c1
          simp only [decide_eq_true_eq] at c1
          have est : m.pd.x.st = m.x.st := pay_st m.x
          have ehs : m.pd.x.hs = m.x.hs := pay_hs m.x
          have e1 : ({ m with x := m.x.pay.1 } : MS) = m.pd := rfl
          have eask : m.pd.x.asked = m.x.asked := pay_asked m.x
          have etr : m.pd.x.trace = m.x.trace := pay_trace m.x
          simp only [e1, est, ehs, show m.x.pay.1.st = m.x.st from pay_st m.x, show m.x.pay.1.hs = m.x.hs from pay_hs m.x] at hs c1
          have hsplit := List.take_append_drop up.length m.x.st
          have hlen9 : m.x.st.length ≤ 900 := c1.2
          have hk6 : m.x.asked ≤ 6 := by rw [← eask]; exact Nat.le_of_not_lt c2
          have htr9 : m.x.trace.length ≤ 90000 := by rw [← etr]; exact Nat.le_of_not_lt c3
          have S := ystep_imp hO hW hL hu hf hp t.depth ctab hM himp hu0 (args := m.x.st.take up.length) (rest := m.x.st.drop up.length) hsplit.symm c1.1 hlen9 hk6 htr9
          have hnil := host_nil hO m.x.hs g (m.x.st.take up.length).reverse
          by_cases hz : (H m.x.hs g (m.x.st.take up.length).reverse).2.1 = 0
          · rw [if_pos hz] at hs
            rw [← Option.some.inj hs]
            rw [hz] at S
            exact S
          · rw [if_neg hz] at hs
            rw [← Option.some.inj hs]
            rw [hnil hz] at S
            exact S
      · rw [if_neg himp] at hs
        by_cases hd4 : 4 ≤ t.depth
        · rw [if_pos hd4] at hs
          rw [← Option.some.inj hs]
          exact ystep_deep hO hW hL hu hf hp t.depth cimm ctab himp hd4
        · rw [if_neg hd4] at hs
          split at hs
          · cases hs
          · rename_i o' ho'
            rw [← Option.some.inj hs]
            obtain ⟨g, rfl⟩ : ∃ g : Nat, cimm = g := ⟨cimm.toNat, by omega⟩
            refine ystep_call hO hW hL hu hf hp t.depth g ctab himp hd4 hd (o := o') ?_
            intro w1 L1 hw1 ho1
            have := hI { t with k := 2, f := g, depth := t.depth + 1 } m.pd o' rfl ho' w1 L1 K (by show 0 ≤ t.depth + 1; omega) (by show t.depth + 1 ≤ 10; omega) ho1 hw1
            exact this
    · rw [if_neg h10] at hs
      exact ystep_plain hO hW hL hok hp (by omega) t.depth hs
  · rw [if_pos hp] at hs
    rw [← Option.some.inj hs]
    have hp17 : m.x.pay.2 = 17 := by
      unfold ND.pay at hp ⊢
      split
      · rename_i h; rw [if_pos h] at hp; simp at hp
      · rfl
    rw [hp17]
    obtain ⟨cop, cimm, ctab⟩ := c
    exact ystep_poor hO hW hL hu hf hp t.depth cop cimm ctab
end
end Go.Proofs.Qxb6500575aGreatDoor
