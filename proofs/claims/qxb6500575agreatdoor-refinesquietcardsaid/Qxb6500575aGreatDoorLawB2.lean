/-
  WHERE A BLOCK ENDS: the scan of the source meets the checker's states. No program.
-/
import Derived.Test.Qxb6500575aGreatDoorLawB1
namespace Go.Proofs.Qxb6500575aGreatDoor
open Go Go.RowKit
set_option linter.unusedVariables false
set_option linter.unusedSimpArgs false

theorem cut_in {h h' : Nat} {l : List UInt8} (h1 : h ≤ h') (h2 : h' ≤ l.length) : cut h (cut h' l) = cut h l := by
  obtain ⟨x, hx⟩ := cut_suffix h' l
  conv => rhs; rw [hx]
  rw [cut_app (by rw [cut_len h2]; exact h1)]
/-- the same block -/
structure Same (t t' : Ctl) : Prop where
  bt : t'.bt = t.bt
  ht : t'.height = t.height
  at_ : t'.at_ = t.at_
theorem Same.refl (t : Ctl) : Same t t := ⟨rfl, rfl, rfl⟩
theorem Same.trans {a b c : Ctl} (h : Same a b) (h' : Same b c) : Same a c := ⟨h'.bt.trans h.bt, h'.ht.trans h.ht, h'.at_.trans h.at_⟩
/-- an accepted body -/
def AllSF (E : Env) (src : List Ins) : Prop := ∀ i, i < src.length → ∃ s c, SF E src i s c ∧ stateM E src (i + 1) = some (s.one E src i c).1
theorem AllSF.next {E : Env} {src : List Ins} (h : AllSF E src) {i : Nat} {s : Mk} {c : Ins} (hs : SF E src i s c) (hl : i + 1 < src.length) : ∃ c', SF E src (i + 1) (s.one E src i c).1 c' := by
  obtain ⟨s0, c0, h1, h2⟩ := h i (by omega)
  have e1 : s0 = s := by have := h1.st; rw [hs.st] at this; exact (Option.some.inj this).symm
  have e2 : c0 = c := by have := h1.at_; rw [hs.at_] at this; exact (Option.some.inj this).symm
  subst e1; subst e2
  obtain ⟨s1, c1, h3, _⟩ := h (i + 1) hl
  have := h3.st
  rw [h2] at this
  cases Option.some.inj this
  exact ⟨c1, h3⟩
theorem endsR_cons {src : List Ins} {j : Nat} {c : Ins} (hc : src[j]? = some c) (e : Int) (d : Nat) : endsR (src.drop j) j e d =
    if c.op = 1 ∨ c.op = 2 ∨ c.op = 3 then endsR (src.drop (j + 1)) ((j + 1 : Nat) : Int) e (d + 1)
    else if c.op = 4 then endsR (src.drop (j + 1)) ((j + 1 : Nat) : Int) (if d = 0 then (j : Int) else e) d
    else if c.op = 5 then (if d = 0 then (e, (j : Int)) else endsR (src.drop (j + 1)) ((j + 1 : Nat) : Int) e (d - 1))
    else endsR (src.drop (j + 1)) ((j + 1 : Nat) : Int) e d := by
  have hj : j < src.length := (List.getElem?_eq_some_iff.1 hc).1
  have hcj : src[j] = c := (List.getElem?_eq_some_iff.1 hc).2
  rw [List.drop_eq_getElem_cons hj, hcj]
  conv => lhs; unfold endsR
  simp only [Int.natCast_add, Int.natCast_one]
theorem scan {E : Env} {src : List Ins} (hall : AllSF E src) : ∀ (n j : Nat), src.length - j = n → ∀ (s : Mk) (c : Ins), SF E src j s c → ∀ (pre : List Ctl) (t : Ctl) (r : List Ctl) (e : Int), s.cs = pre ++ t :: r → r ≠ [] →
    ∃ (en : Nat) (sn : Mk) (cn : Ins) (t' : Ctl), (endsR (src.drop j) j e pre.length).2 = en ∧ j ≤ en ∧ SF E src en sn cn ∧ cn.op = 5 ∧ sn.cs = t' :: r ∧ Same t t' ∧ cut t.height sn.st = cut t.height s.st ∧
      (((endsR (src.drop j) j e pre.length).1 = e ∧ t'.op = t.op) ∨ ∃ (el : Nat) (sl : Mk) (cl : Ins) (t'' : Ctl), (endsR (src.drop j) j e pre.length).1 = el ∧ j ≤ el ∧ el < en ∧ SF E src el sl cl ∧ cl.op = 4 ∧ sl.cs = t'' :: r ∧ Same t t'' ∧ t''.op = t.op ∧ cut t.height sl.st = cut t.height s.st)
  | 0, j, hn, s, c, h, _, _, _, _, _, _ => by
    have := (List.getElem?_eq_some_iff.1 h.at_).1
    omega
  | n + 1, j, hn, s, c, h, pre, t, r, e, hs, hr => by
    have hj := (List.getElem?_eq_some_iff.1 h.at_).1
    have hmem : t ∈ s.cs := by rw [hs]; simp
    rw [endsR_cons h.at_]
    have go : ∀ (pre' : List Ctl) (t1 : Ctl) (e' : Int), j + 1 < src.length → (s.one E src j c).1.cs = pre' ++ t1 :: r → Same t t1 → t1.op = t.op → cut t.height (s.one E src j c).1.st = cut t.height s.st →
        ∃ (en : Nat) (sn : Mk) (cn : Ins) (t' : Ctl), (endsR (src.drop (j + 1)) ((j + 1 : Nat) : Int) e' pre'.length).2 = en ∧ j ≤ en ∧ SF E src en sn cn ∧ cn.op = 5 ∧ sn.cs = t' :: r ∧ Same t t' ∧ cut t.height sn.st = cut t.height s.st ∧
      (((endsR (src.drop (j + 1)) ((j + 1 : Nat) : Int) e' pre'.length).1 = e' ∧ t'.op = t.op) ∨ ∃ (el : Nat) (sl : Mk) (cl : Ins) (t'' : Ctl), (endsR (src.drop (j + 1)) ((j + 1 : Nat) : Int) e' pre'.length).1 = el ∧ j ≤ el ∧ el < en ∧ SF E src el sl cl ∧ cl.op = 4 ∧ sl.cs = t'' :: r ∧ Same t t'' ∧ t''.op = t.op ∧ cut t.height sl.st = cut t.height s.st) := by
      intro pre' t1 e' hlt hcs hsame hop hcut
      obtain ⟨c', hsf⟩ := hall.next h hlt
      obtain ⟨en, sn, cn, t', a1, a2, a3, a4, a5, a6, a7, a8⟩ := scan hall n (j + 1) (by omega) _ c' hsf pre' t1 r e' hcs hr
      rw [hsame.ht] at a7 a8
      refine ⟨en, sn, cn, t', a1, by omega, a3, a4, a5, hsame.trans a6, by rw [a7, hcut], ?_⟩
      rcases a8 with ⟨b1, b2⟩ | ⟨el, sl, cl, t'', b1, b2, b3, b4, b5, b6, b7, b8, b9⟩
      · exact .inl ⟨b1, by rw [b2, hop]⟩
      · exact .inr ⟨el, sl, cl, t'', b1, by omega, b3, b4, b5, b6, hsame.trans b7, by rw [b8, hop], by rw [b9, hcut]⟩
    by_cases h1 : c.op = 1 ∨ c.op = 2 ∨ c.op = 3
    · rw [if_pos h1]
      obtain ⟨a1, a2⟩ := one_open h h1
      have := go (⟨c.op, c.imm, (s.one E src j c).1.st.length, j, false⟩ :: pre) t e (h.nlast (by omega)) (by rw [a2, hs]; rfl) (Same.refl t) rfl (a1.cut h.hts t hmem)
      simpa using this
    rw [if_neg h1]
    by_cases h4 : c.op = 4
    · rw [if_pos h4]
      obtain ⟨t0, r0, b1, b2, b3, b4, b5, b6, b7⟩ := one_else h h4
      have hlt := h.nlast (by omega)
      have hh := h.hts
      rw [b1] at hh
      cases pre with
      | nil =>
        rw [b1] at hs
        simp at hs
        obtain ⟨rfl, rfl⟩ := hs
        simp only [List.length_nil]
        obtain ⟨c', hsf⟩ := hall.next h hlt
        obtain ⟨en, sn, cn, t', a1, a2, a3, a4, a5, a6, a7, a8⟩ := scan hall n (j + 1) (by omega) _ c' hsf [] { t0 with op := 4, dead := false } r0 (j : Int) b4 hr
        simp only [List.length_nil] at a1 a8
        rcases a8 with ⟨d1, d2⟩ | ⟨el, sl, cl, t'', d1, d2, d3, d4, d5, d6, d7, d8, d9⟩
        · refine ⟨en, sn, cn, t', by simpa using a1, by omega, a3, a4, a5, ⟨a6.bt, a6.ht, a6.at_⟩, ?_, .inr ⟨j, s, c, t0, by simpa using d1, Nat.le_refl _, by omega, h, h4, b1, Same.refl _, rfl, rfl⟩⟩
          have := a7
          simp only at this
          rw [this, b5, cut_in (Nat.le_refl _) hh.1]
        · obtain ⟨t3, r3, f1, f2, _⟩ := one_else d4 d5
          rw [d6] at f1
          cases f1
          rw [d8] at f2
          simp at f2
      | cons p pre' =>
        rw [b1] at hs
        simp at hs
        obtain ⟨rfl, rfl⟩ := hs
        have hth : t.height ≤ t0.height := HtsM.le hh.2 t (by simp)
        have := go ({ t0 with op := 4, dead := false } :: pre') t e hlt (by rw [b4]; rfl) (Same.refl t) rfl (by rw [b5, cut_in hth hh.1])
        simpa using this
    rw [if_neg h4]
    by_cases h5 : c.op = 5
    · rw [if_pos h5]
      obtain ⟨t0, r0, b1, b2, b3, b4, b5, b6⟩ := one_end h h5
      have hh := h.hts
      rw [b1] at hh
      cases pre with
      | nil =>
        rw [b1] at hs
        simp at hs
        obtain ⟨rfl, rfl⟩ := hs
        exact ⟨j, s, c, t0, by simp, Nat.le_refl _, h, h5, b1, Same.refl _, rfl, .inl ⟨by simp, rfl⟩⟩
      | cons p pre' =>
        rw [b1] at hs
        simp at hs
        obtain ⟨rfl, rfl⟩ := hs
        have hth : t.height ≤ t0.height := HtsM.le hh.2 t (by simp)
        have hlt : j + 1 < src.length := by
          have hx := h.last h5
          rw [b1] at hx
          have hy : ¬ (j + 1 = src.length) := fun e => by have := hx.2 e; simp at this
          omega
        have hcl : (cut t0.height s.st).length = t0.height := cut_len hh.1
        have := go pre' t e hlt b2 (Same.refl t) rfl (by rw [b3, cut_app (by rw [hcl]; exact hth), cut_in hth hh.1])
        simpa using this
    rw [if_neg h5]
    obtain ⟨a1, a2⟩ := one_flat h h1 h4 h5
    have hlt := h.nlast h5
    rcases a2 with a2 | ⟨t0, r0, a2, a3⟩
    · exact go pre t e hlt (by rw [a2, hs]) (Same.refl t) rfl (a1.cut h.hts t hmem)
    · cases pre with
      | nil =>
        rw [a2] at hs
        simp at hs
        obtain ⟨rfl, rfl⟩ := hs
        exact go [] { t0 with dead := true } e hlt a3 ⟨rfl, rfl, rfl⟩ rfl (a1.cut h.hts t0 hmem)
      | cons p pre' =>
        rw [a2] at hs
        simp at hs
        obtain ⟨rfl, rfl⟩ := hs
        exact go ({ t0 with dead := true } :: pre') t e hlt a3 (Same.refl t) rfl (a1.cut h.hts t hmem)
/-- a block that is opened at i: where it ends, where its else is -/
theorem ends_at {E : Env} {src : List Ins} (hall : AllSF E src) {i : Nat} {s : Mk} {c : Ins} (h : SF E src i s c) (ho : c.op = 1 ∨ c.op = 2 ∨ c.op = 3) :
    ∃ (en : Nat) (sn : Mk) (cn : Ins) (t' : Ctl), (endsM src i).2 = en ∧ i < en ∧ SF E src en sn cn ∧ cn.op = 5 ∧ sn.cs = t' :: s.cs ∧ (en + 1 < src.length) ∧ (sn.one E src en cn).1.cs = s.cs ∧ (sn.one E src en cn).1.st = (resOf c.imm).reverse ++ (s.one E src i c).1.st ∧
      (((endsM src i).1 = -1 ∧ (c.op = 3 → c.imm = 0)) ∨ ∃ (el : Nat) (sl : Mk) (cl : Ins), (endsM src i).1 = el ∧ i < el ∧ el < en ∧ SF E src el sl cl ∧ cl.op = 4 ∧ (sl.one E src el cl).1.cs = ⟨4, c.imm, (s.one E src i c).1.st.length, i, false⟩ :: s.cs ∧ (sl.one E src el cl).1.st = (s.one E src i c).1.st) := by
  obtain ⟨a1, a2⟩ := one_open h ho
  obtain ⟨c1, h1⟩ := hall.next h (h.nlast (by omega))
  obtain ⟨en, sn, cn, t', b1, b2, b3, b4, b5, b6, b7, b8⟩ := scan hall _ (i + 1) rfl _ c1 h1 [] _ s.cs (-1) a2 h.ne
  simp only [List.length_nil] at b1 b8
  have hE : endsM src i = endsR (src.drop (i + 1)) ((i + 1 : Nat) : Int) (-1) 0 := by unfold endsM; rw [Int.natCast_add]; rfl
  rw [← hE] at b1 b8
  obtain ⟨t0, r0, d1, d2, d3, d4, d5, d6⟩ := one_end b3 b4
  rw [b5] at d1
  cases d1
  have hself : cut (s.one E src i c).1.st.length (s.one E src i c).1.st = (s.one E src i c).1.st := by unfold cut; simp
  have hht : t'.height = (s.one E src i c).1.st.length := b6.ht
  simp only at b7
  rw [hself] at b7
  have hbt : t'.bt = c.imm := b6.bt
  refine ⟨en, sn, cn, t', b1, by omega, b3, b4, b5, ?_, d2, by rw [d3, hht, b7, hbt], ?_⟩
  · have hne := h.ne
    have hlen : sn.cs.length ≠ 1 := by
      rw [b5]
      cases hs : s.cs with
      | nil => exact absurd hs hne
      | cons a b => simp
    have h3 := (List.getElem?_eq_some_iff.1 b3.at_).1
    have hy : ¬ (en + 1 = src.length) := fun e => hlen ((b3.last b4).2 e)
    omega
  · rcases b8 with ⟨f1, f2⟩ | ⟨el, sl, cl, t'', f1, f2, f3, f4, f5, f6, f7, f8, f9⟩
    · refine .inl ⟨f1, fun h3 => ?_⟩
      have := d6 (by rw [f2]; exact h3)
      rw [← hbt]; exact this
    · obtain ⟨t3, r3, g1, g2, g3, g4, g5, _⟩ := one_else f4 f5
      rw [f6] at g1
      cases g1
      have e1 : t''.height = (s.one E src i c).1.st.length := f7.ht
      have e2 : t''.bt = c.imm := f7.bt
      have e3 : t''.at_ = i := f7.at_
      have f9 : cut (s.one E src i c).1.st.length sl.st = cut (s.one E src i c).1.st.length (s.one E src i c).1.st := f9
      rw [hself] at f9
      refine .inr ⟨el, sl, cl, f1, by omega, f3, f4, f5, ?_, by rw [g5, e1, f9]⟩
      rw [g4]
      obtain ⟨o, b, hh, a, d⟩ := t''
      subst e1; subst e2; subst e3
      rfl
end Go.Proofs.Qxb6500575aGreatDoor
