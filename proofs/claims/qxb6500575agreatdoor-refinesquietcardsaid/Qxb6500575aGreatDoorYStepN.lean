/-
  runm.step: every instruction that opens no block: the walks put together.
-/
import Derived.Test.Qxb6500575aGreatDoorYStepA
import Derived.Test.Qxb6500575aGreatDoorYStepB
import Derived.Test.Qxb6500575aGreatDoorYStepC
import Derived.Test.Qxb6500575aGreatDoorYStepD
import Derived.Test.Qxb6500575aGreatDoorYStepE
import Derived.Test.Qxb6500575aGreatDoorYStepF
import Derived.Test.Qxb6500575aGreatDoorYStepG
import Derived.Test.Qxb6500575aGreatDoorYStepH
import Derived.Test.Qxb6500575aGreatDoorYStepI
import Derived.Test.Qxb6500575aGreatDoorYStepJ
import Derived.Test.Qxb6500575aGreatDoorYStepJ2
import Derived.Test.Qxb6500575aGreatDoorYStepK
import Derived.Test.Qxb6500575aGreatDoorYStepL1
import Derived.Test.Qxb6500575aGreatDoorYStepL2
import Derived.Test.Qxb6500575aGreatDoorYStepL3
import Derived.Test.Qxb6500575aGreatDoorYStepL4
import Derived.Test.Qxb6500575aGreatDoorYStepM
namespace Go.Proofs.Qxb6500575aGreatDoor
open Go Go.RowKit
set_option linter.unusedVariables false
set_option linter.unusedSimpArgs false

section
variable {R : MP} {H : HF HS} {m : MS} {w : World} {L : NL} {K : ML} {la : Option Addr} {ln lc : Nat} {loc : List V}
theorem lstep_at (c : Ins) (st loc : List V) (mem : List UInt8) (max : Nat) (h : 15 ≤ c.op) : lstep ⟨c.op, c.imm, 0, 0⟩ st loc mem max =
      (if c.op = 15 then ⟨0, V.w (wrap32 (mem.length / 8 : Nat)) :: st, loc, mem⟩
       else if c.op = 16 then (match st with | a :: r => ⟨0, V.w (wrap32 (growP mem max a.num).2) :: r, loc, (growP mem max a.num).1⟩ | _ => stuckL st loc mem)
       else if c.op = 17 then ⟨0, V.w (wrap32 c.imm) :: st, loc, mem⟩
       else if c.op = 18 then ⟨0, V.d c.imm :: st, loc, mem⟩
       else if 19 ≤ c.op ∧ c.op ≤ 24 then (match st with
         | a :: r => if (loadP mem c.op a.num c.imm).2 = 0 then ⟨0, (if c.op = 20 then V.d (loadP mem c.op a.num c.imm).1 else V.w (wrap32 (loadP mem c.op a.num c.imm).1)) :: r, loc, mem⟩ else ⟨(loadP mem c.op a.num c.imm).2, r, loc, mem⟩
         | _ => stuckL st loc mem)
       else if 25 ≤ c.op ∧ c.op ≤ 28 then (match st with
         | v :: a :: r => if (storeP mem c.op a.num c.imm v.num).2 = 0 then ⟨0, r, loc, (storeP mem c.op a.num c.imm v.num).1⟩ else ⟨(storeP mem c.op a.num c.imm v.num).2, r, loc, (storeP mem c.op a.num c.imm v.num).1⟩
         | _ => stuckL st loc mem)
       else if aTwo c.op then (match st with | b :: a :: r => aluL c.op a.num b.num r loc mem | _ => stuckL st loc mem)
       else (match st with | a :: r => aluL c.op a.num 0 r loc mem | _ => stuckL st loc mem)) := by
  unfold lstep
  rw [if_neg (by simp only; omega), if_neg (by simp only; omega), if_neg (by simp only; omega), if_neg (by simp only; omega), if_neg (by simp only; omega)]
  rfl
theorem lstep_st {i : Flat} {st st' loc : List V} {mem : List UInt8} {max : Nat} {lo : LO} (h : st = st') (hl : lstep i st' loc mem max = lo) : lstep i st loc mem max = lo := by rw [h]; exact hl
/-- what plainS says, by lstep -/
theorem plainS_l {c : Ins} {max : Nat} {lo : LO} (hop : c.op ≠ 6 ∧ c.op ≠ 7 ∧ c.op ≠ 8 ∧ c.op ≠ 9) (hl : lstep ⟨c.op, c.imm, 0, 0⟩ m.x.st loc m.mem max = lo) (ht : lo.t ≠ 10) : plainS c loc max m = if lo.t = 0 then some ⟨-1, 0, lo.loc, { (m.st lo.ops) with mem := lo.mem }⟩ else some ⟨-1, lo.t, loc, { (m.st lo.ops) with mem := lo.mem }⟩ := by
  unfold plainS
  rw [if_neg hop.1, if_neg hop.2.1, if_neg hop.2.2.1, if_neg hop.2.2.2]
  simp only [hl]
  rw [if_neg ht]
theorem ystep_plain {c : Ins} {o : Ot} (hO : HostOk R H m) (hW : MW R w L K m) (hL : LocAt R w L (.slice la ln lc) loc) (hok : okS c loc R.max m = true) (hp : m.x.pay.2 = 0) (hop : c.op = 0 ∨ c.op = 6 ∨ c.op = 7 ∨ c.op = 8 ∨ c.op = 9 ∨ 11 ≤ c.op) (depth : Int) (hs : plainS c loc R.max m.pd = some o) :
    Calls Tryz.prog 143 #[.pointer (some ⟨R.bn, 0, none⟩), c.val, .slice la ln lc, .int .i64 depth] w (RunPost R H (.slice la ln lc) o w L K) := by
  obtain ⟨h1, h2, h3, hu, hf, hw, himm, hst, hll, hm8, hmx, hmax⟩ := okS_parts hok
  have est : m.pd.x.st = m.x.st := pay_st m.x
  obtain ⟨cop, cimm, ctab⟩ := c
  simp only at hop himm
  have hm32 : m.mem.length ≤ 32 := by omega
  by_cases h15 : 15 ≤ cop
  · -- by the signature
    have hwo := well_ops hw h15
    simp only at hwo
    unfold tyS at h1
    rw [if_neg (by simp only; omega), if_neg (by simp only; omega), if_neg (by simp only; omega), if_neg (by simp only; omega), if_neg (by simp only; omega), if_pos h15] at h1
    simp only [decide_eq_true_eq] at h1
    obtain ⟨hle, hty⟩ := h1
    have hsplit := List.take_append_drop (sigM cop).1.length m.x.st
    have hL' := lstep_at ⟨cop, cimm, ctab⟩ m.x.st loc m.mem R.max h15
    simp only at hL'
    have hpl : ∀ lo, lstep ⟨cop, cimm, 0, 0⟩ m.x.st loc m.mem R.max = lo → lo.t ≠ 10 → o = if lo.t = 0 then ⟨-1, 0, lo.loc, { (m.pd.st lo.ops) with mem := lo.mem }⟩ else ⟨-1, lo.t, loc, { (m.pd.st lo.ops) with mem := lo.mem }⟩ := fun lo h ht => by
      have := plainS_l (c := ⟨cop, cimm, ctab⟩) (m := m.pd) (loc := loc) (max := R.max) (lo := lo) ⟨by simp only; omega, by simp only; omega, by simp only; omega, by simp only; omega⟩ (by rw [est]; exact h) ht
      rw [hs] at this
      by_cases h0 : lo.t = 0
      · rw [if_pos h0] at this ⊢; exact Option.some.inj this
      · rw [if_neg h0] at this ⊢; exact Option.some.inj this
    by_cases e15 : cop = 15
    · subst e15
      rw [if_pos rfl] at hL'
      have := hpl _ hL' (by simp)
      simp only [if_true] at this
      rw [this]
      exact ystep_size hO hW hL hu hf hp depth cimm ctab (rest := m.x.st) rfl (by omega) hm32
    rw [if_neg e15] at hL'
    by_cases e16 : cop = 16
    · subst e16
      have e : (sigM 16).1 = [105] := rfl
      rw [e] at hle hty
      cases hs0 : m.x.st with
      | nil => rw [hs0] at hle; simp at hle
      | cons a r =>
        rw [hs0] at hL' hty hst
        simp at hty
        rw [if_pos rfl] at hL'
        simp only at hL'
        have := hpl _ (lstep_st hs0 hL') (by simp)
        simp only [if_true] at this
        rw [this]
        exact ystep_grow hO hW hL hu hf hp depth cimm ctab (a := a) (rest := r) hs0 (by simp at hst; omega) hty hm8 hm32
    rw [if_neg e16] at hL'
    by_cases e17 : cop = 17
    · subst e17
      rw [if_pos rfl] at hL'
      have := hpl _ hL' (by simp)
      simp only [if_true] at this
      rw [this]
      have hi : -2147483648 ≤ cimm ∧ cimm < 2147483648 := by
        unfold well at hw
        rw [if_neg (by simp)] at hw
        split at hw
        · cases hw
        · rw [if_neg (by simp), if_neg (by simp), if_pos rfl] at hw
          simp at hw
          exact hw
      exact ystep_c32 hO hW hL hu hf hp depth ctab (rest := m.x.st) rfl (by omega) cimm hi
    rw [if_neg e17] at hL'
    by_cases e18 : cop = 18
    · subst e18
      rw [if_pos rfl] at hL'
      have := hpl _ hL' (by simp)
      simp only [if_true] at this
      rw [this]
      exact ystep_c64 hO hW hL hu hf hp depth ctab (rest := m.x.st) rfl (by omega) cimm
    rw [if_neg e18] at hL'
    by_cases e19 : 19 ≤ cop ∧ cop ≤ 24
    · rw [sig_load e19] at hle hty
      cases hs0 : m.x.st with
      | nil => rw [hs0] at hle; simp at hle
      | cons a r =>
        rw [hs0] at hL' hty hst
        simp at hty
        rw [if_pos e19] at hL'
        simp only at hL'
        have herr := loadP_err m.mem cop a.num cimm
        by_cases e20 : cop = 20
        · subst e20
          refine ystep_load20 hO hW hL hu hf hp depth cimm ctab (a := a) (rest := r) hs0 (by simp at hst; omega) hty o ?_
          show o = _
          by_cases hz : (loadP m.mem 20 a.num cimm).2 = 0
          · rw [if_pos hz] at hL' ⊢
            have := hpl _ (lstep_st hs0 hL') (by simp)
            simp at this
            exact this
          · rw [if_neg hz] at hL' ⊢
            have := hpl _ (lstep_st hs0 hL') (by simp only; omega)
            simp only [if_neg hz] at this
            exact this
        · refine ystep_loadw hO hW hL hu hf hp depth cop cimm ctab (a := a) (rest := r) hs0 (by simp at hst; omega) hty e19.1 e19.2 e20 o ?_
          show o = _
          by_cases hz : (loadP m.mem cop a.num cimm).2 = 0
          · rw [if_pos hz, if_neg e20] at hL'
            rw [if_pos hz]
            have := hpl _ (lstep_st hs0 hL') (by simp)
            simp at this
            exact this
          · rw [if_neg hz] at hL' ⊢
            have := hpl _ (lstep_st hs0 hL') (by simp only; omega)
            simp only [if_neg hz] at this
            exact this
    rw [if_neg e19] at hL'
    by_cases e25 : 25 ≤ cop ∧ cop ≤ 28
    · have hsg := sig_store e25
      obtain ⟨tb, htb⟩ : ∃ tb, sigM cop = ([105, tb], []) := by
        by_cases h26 : cop = 26
        · exact ⟨108, by rw [hsg, if_pos h26]⟩
        · exact ⟨105, by rw [hsg, if_neg h26]⟩
      rw [htb] at hle hty
      cases hs0 : m.x.st with
      | nil => rw [hs0] at hle; simp at hle
      | cons v r0 =>
        cases hs1 : r0 with
        | nil => rw [hs0, hs1] at hle; simp at hle
        | cons a r =>
          rw [hs1] at hs0
          rw [hs0] at hL' hty hst
          simp at hty
          rw [if_pos e25] at hL'
          simp only at hL'
          have herr := storeP_err m.mem cop a.num cimm v.num
          refine ystep_store hO hW hL hu hf hp depth cop cimm ctab (a := a) (b := v) (rest := r) hs0 (by simp at hst; omega) tb htb hty.2 hty.1 e25.1 e25.2 o ?_
          show o = _
          by_cases hz : (storeP m.mem cop a.num cimm v.num).2 = 0
          · rw [if_pos hz] at hL'
            have := hpl _ (lstep_st hs0 hL') (by simp)
            simp only [if_true] at this
            rw [hz]
            exact this
          · rw [if_neg hz] at hL'
            have := hpl _ (lstep_st hs0 hL') (by simp only; omega)
            simp only [if_neg hz] at this
            exact this
    rw [if_neg e25] at hL'
    have aluO : ∀ (a b : Int) (r : List V), I64 a → lstep ⟨cop, cimm, 0, 0⟩ m.x.st loc m.mem R.max = aluL cop a b r loc m.mem → o = if (aluP cop a b).2 = 0 then ⟨-1, 0, loc, m.pd.st (pushV (aTo cop) (aluP cop a b).1 :: r)⟩ else ⟨-1, (aluP cop a b).2, loc, m.pd.st r⟩ := fun a b r ha h => by
      have ha2 := (aluP_ok (op := cop) (b := b) ha).2
      by_cases hz : (aluP cop a b).2 = 0
      · rw [aluL_ok _ _ _ hz rfl] at h
        have := hpl _ h (by simp)
        rw [if_pos hz]
        simp at this
        exact this
      · have h11 : (aluP cop a b).2 = 11 := by omega
        rw [aluL_no _ _ _ h11] at h
        have := hpl _ h (by simp)
        rw [if_neg hz, h11]
        simp at this
        exact this
    by_cases e33 : cop ≤ 33
    · have hop1 : 29 ≤ cop ∧ cop ≤ 33 := by omega
      have hsg := sig_alu1 hop1
      rw [hsg] at hle hty
      have h2w : aTwo cop = false := by unfold aTwo; simp; omega
      rw [h2w] at hL'
      cases hs0 : m.x.st with
      | nil => rw [hs0] at hle; simp at hle
      | cons a r =>
        rw [hs0] at hL' hty hst h2
        simp at hty
        have hL2 : lstep ⟨cop, cimm, 0, 0⟩ m.x.st loc m.mem R.max = aluL cop a.num 0 r loc m.mem := by rw [hs0, hL']; rfl
        have ha6 := fits_num (FitL.cons.1 h2).1
        have hoo := aluO a.num 0 r ha6 hL2
        rcases aTo_two cop with ht | ht
        · rw [ht] at hoo hsg
          exact ystep_alu1w hO hW hL hu hf hp depth cop cimm ctab (a := a) (rest := r) hs0 (by simp at hst; omega) _ hsg hty ha6 (.inl hop1) (aluP_w32 _ _ (.inl hop1) ht) o hoo
        · rw [ht] at hoo hsg
          exact ystep_alu1d hO hW hL hu hf hp depth cop cimm ctab (a := a) (rest := r) hs0 (by simp at hst; omega) _ hsg hty ha6 (.inl hop1) o hoo
    · have hop2 : (40 ≤ cop ∧ cop < 56) ∨ (60 ≤ cop ∧ cop < 76) := by omega
      have hsg := sig_alu2 hop2
      rw [hsg] at hle hty
      have h2w : aTwo cop = true := by unfold aTwo; simp; omega
      rw [h2w] at hL'
      cases hs0 : m.x.st with
      | nil => rw [hs0] at hle; simp at hle
      | cons b r0 =>
        cases hs1 : r0 with
        | nil => rw [hs0, hs1] at hle; simp at hle
        | cons a r =>
          rw [hs1] at hs0
          rw [hs0] at hL' hty hst h2
          simp at hty
          have hL2 : lstep ⟨cop, cimm, 0, 0⟩ m.x.st loc m.mem R.max = aluL cop a.num b.num r loc m.mem := by rw [hs0, hL']; rfl
          have hf2 := FitL.cons.1 (FitL.cons.1 h2).2
          have ha6 := fits_num hf2.1
          have hb6 := fits_num (FitL.cons.1 h2).1
          have hoo := aluO a.num b.num r ha6 hL2
          rcases aTo_two cop with ht | ht
          · rw [ht] at hoo hsg
            exact ystep_alu2w hO hW hL hu hf hp depth cop cimm ctab (a := a) (b := b) (rest := r) hs0 (by simp at hst; omega) _ hsg hty.2 hty.1 ha6 hb6 (.inr hop2) (aluP_w32 _ _ (.inr hop2) ht) o hoo
          · rw [ht] at hoo hsg
            exact ystep_alu2d hO hW hL hu hf hp depth cop cimm ctab (a := a) (b := b) (rest := r) hs0 (by simp at hst; omega) _ hsg hty.2 hty.1 ha6 hb6 (.inr hop2) o hoo
  obtain e | e | e | e | e | e | e | e | e : cop = 0 ∨ cop = 6 ∨ cop = 7 ∨ cop = 8 ∨ cop = 9 ∨ cop = 11 ∨ cop = 12 ∨ cop = 13 ∨ cop = 14 := by omega
  · subst e
    have := plainS_l (c := ⟨0, cimm, ctab⟩) (m := m.pd) (loc := loc) (max := R.max) (lo := ⟨13, m.pd.x.st, loc, m.pd.mem⟩) ⟨by simp, by simp, by simp, by simp⟩ rfl (by simp)
    rw [hs] at this
    simp at this
    rw [this]
    exact ystep_unr hO hW hL hu hf hp depth cimm ctab
  · subst e
    unfold plainS at hs
    simp at hs
    rw [← hs]
    exact ystep_br hO hW hL hu hf hp depth cimm ctab himm
  · subst e
    unfold tyS at h1
    unfold plainS at hs
    rw [est] at hs
    cases hs0 : m.x.st with
    | nil => rw [hs0] at h1; simp at h1
    | cons v r =>
      rw [hs0] at h1 hs hst
      simp at h1 hs
      by_cases hv : v.num = 0
      · rw [if_pos hv] at hs
        rw [← hs]
        exact ystep_brif0 hO hW hL hu hf hp depth cimm ctab hs0 (by simp at hst; omega) h1 hv
      · rw [if_neg hv] at hs
        rw [← hs]
        exact ystep_brif1 hO hW hL hu hf hp depth cimm ctab hs0 (by simp at hst; omega) h1 hv himm
  · subst e
    unfold tyS at h1
    unfold plainS at hs
    rw [est] at hs
    cases hs0 : m.x.st with
    | nil => rw [hs0] at h1; simp at h1
    | cons v r =>
      rw [hs0] at h1 hs hst
      simp at h1
      rw [if_neg (by simp), if_neg (by simp), if_pos rfl] at hs
      simp only at hs
      split at hs
      · rename_i tb htb
        simp at hs
        rw [← hs]
        exact ystep_tab hO hW hL hu hf hp depth cimm ctab hs0 (by simp at hst; omega) h1 (well_tab hw rfl) tb htb
      · cases hs
  · subst e
    unfold plainS at hs
    simp at hs
    rw [← hs]
    exact ystep_ret hO hW hL hu hf hp depth cimm ctab
  · subst e
    unfold tyS at h1
    cases hs0 : m.x.st with
    | nil => rw [hs0] at h1; simp at h1
    | cons v r =>
      have := plainS_l (c := ⟨11, cimm, ctab⟩) (m := m.pd) (loc := loc) (max := R.max) (lo := ⟨0, r, loc, m.pd.mem⟩) ⟨by simp, by simp, by simp, by simp⟩ (by rw [est, hs0]; rfl) (by simp)
      rw [hs] at this
      simp at this
      rw [this]
      rw [hs0] at hst
      exact ystep_drop hO hW hL hu hf hp depth cimm ctab hs0 (by simp at hst; omega)
  · subst e
    unfold tyS at h1
    rw [if_neg (by simp), if_neg (by simp), if_pos rfl] at h1
    split at h1
    · rename_i v b a r hs0
      simp at h1
      rw [hs0] at hst
      have := plainS_l (c := ⟨12, cimm, ctab⟩) (m := m.pd) (loc := loc) (max := R.max) (lo := ⟨0, (if v.num = 0 then b else a) :: r, loc, m.pd.mem⟩) ⟨by simp, by simp, by simp, by simp⟩ (by rw [est, hs0]; rfl) (by simp)
      rw [hs] at this
      simp only [if_true] at this
      rw [Option.some.inj this]
      by_cases hv : v.num = 0
      · rw [if_pos hv]
        exact ystep_sel0 hO hW hL hu hf hp depth cimm ctab hs0 h1.1 h1.2 (by simp at hst; omega) hv
      · rw [if_neg hv]
        exact ystep_sel1 hO hW hL hu hf hp depth cimm ctab hs0 h1.1 h1.2 (by simp at hst; omega) hv
    · cases h1
  · subst e
    have h13 : 0 ≤ cimm := well_imm hw (by simp)
    unfold tyS at h1
    simp at h1
    obtain ⟨j, rfl⟩ : ∃ j : Nat, cimm = j := ⟨cimm.toNat, by omega⟩
    have hj : j < loc.reverse.length := by simpa using h1
    have hv : loc.reverse[j]? = some loc.reverse[j] := List.getElem?_eq_getElem hj
    have := plainS_l (c := ⟨13, j, ctab⟩) (m := m.pd) (loc := loc) (max := R.max) (lo := ⟨0, loc.reverse[j] :: m.pd.x.st, loc, m.pd.mem⟩) ⟨by simp, by simp, by simp, by simp⟩ (by unfold lstep; rw [if_neg (by simp), if_neg (by simp), if_neg (by simp), if_pos rfl]; simp only [Int.toNat_natCast, hv]) (by simp)
    rw [hs] at this
    simp only [if_true] at this
    rw [Option.some.inj this]
    exact ystep_get hO hW hL hu hf hp depth ctab hv (by omega)
  · subst e
    have h14 : 0 ≤ cimm := well_imm hw (by simp)
    unfold tyS at h1
    rw [if_neg (by simp), if_neg (by simp), if_neg (by simp), if_neg (by simp), if_pos rfl] at h1
    split at h1
    · rename_i v r u hs0 hu0
      simp at h1
      obtain ⟨j, rfl⟩ : ∃ j : Nat, cimm = j := ⟨cimm.toNat, by omega⟩
      simp only [Int.toNat_natCast] at hu0
      have := plainS_l (c := ⟨14, j, ctab⟩) (m := m.pd) (loc := loc) (max := R.max) (lo := ⟨0, r, (loc.reverse.set j v).reverse, m.pd.mem⟩) ⟨by simp, by simp, by simp, by simp⟩ (by unfold lstep; rw [if_neg (by simp), if_neg (by simp), if_neg (by simp), if_neg (by simp), if_pos rfl, est, hs0]; simp only [Int.toNat_natCast]) (by simp)
      rw [hs] at this
      simp only [if_true] at this
      rw [Option.some.inj this]
      rw [hs0] at hst
      exact ystep_set hO hW hL hu hf hp depth ctab hu0 hs0 h1 (by simp at hst; omega)
    · cases h1
end
end Go.Proofs.Qxb6500575aGreatDoor
