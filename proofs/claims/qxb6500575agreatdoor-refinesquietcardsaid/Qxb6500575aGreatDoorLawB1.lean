/-
  THE SOURCE of an accepted body, ahead of each instruction: what the plain law leans on. No program.
-/
import Derived.Test.Qxb6500575aGreatDoorLawM6a
import Derived.Test.Qxb6500575aGreatDoorLawT3
namespace Go.Proofs.Qxb6500575aGreatDoor
open Go Go.RowKit
set_option linter.unusedVariables false
set_option linter.unusedSimpArgs false

def HtsM : List Ctl → Nat → Prop
  | [], _ => True
  | t :: r, n => t.height ≤ n ∧ HtsM r t.height
theorem HtsM.le : ∀ {bs : List Ctl} {n : Nat}, HtsM bs n → ∀ b ∈ bs, b.height ≤ n
  | [], _, _, b, hb => by cases hb
  | x :: r, n, h, b, hb => by
    rcases List.mem_cons.1 hb with rfl | h1
    · exact h.1
    · exact Nat.le_trans (HtsM.le h.2 b h1) h.1
theorem HtsM.of : ∀ {bs : List Blk} {cs : List Ctl} {n : Nat}, bs.map (·.height) = cs.map (·.height) → Hts bs n → HtsM cs n
  | [], [], _, _, _ => trivial
  | [], _ :: _, _, e, _ => by simp at e
  | _ :: _, [], _, e, _ => by simp at e
  | b :: r, c :: q, n, e, h => by
    simp only [List.map_cons, List.cons.injEq] at e
    exact ⟨by rw [← e.1]; exact h.1, HtsM.of e.2 (by rw [← e.1]; exact h.2)⟩
/-- what holds ahead of instruction i, c, in state s -/
structure SF (E : Env) (src : List Ins) (i : Nat) (s : Mk) (c : Ins) : Prop where
  st : stateM E src i = some s
  at_ : src[i]? = some c
  wl : well c = true
  ok : (s.one E src i c).2 = 0
  hts : HtsM s.cs s.st.length
  ne : s.cs ≠ []
  ends : ∀ (k : Nat) t, s.cs[k]? = some t → 0 ≤ t.at_ → ∃ e : Int, endsM src t.at_.toNat = endsR (src.drop i) i e k ∧ (t.op ≠ 4 → e = -1)
  els : c.op = 4 → ∃ t r, s.cs = t :: r ∧ t.op = 3 ∧ 0 ≤ t.at_
  last : c.op = 5 → (s.cs.length = 1 ↔ i + 1 = src.length)
  nlast : c.op ≠ 5 → i + 1 < src.length
  pos : posM src i = s.code.length
  base : ∀ (k : Nat) t, s.cs[k]? = some t → (k + 1 = s.cs.length → t.at_ = -1) ∧ (k + 1 < s.cs.length → 0 ≤ t.at_)
  loop : ∀ t ∈ s.cs, t.op = 2 → 0 ≤ t.at_
  len : s.st.length ≤ i
theorem stateM_prev {E : Env} {src : List Ins} {k : Nat} {s' : Mk} (h : stateM E src (k + 1) = some s') : ∃ s c, stateM E src k = some s ∧ src[k]? = some c ∧ (s.one E src k c).2 = 0 ∧ s' = (s.one E src k c).1 := by
  simp only [stateM] at h
  split at h
  · rename_i s c hs hc
    split at h
    · rename_i h0
      simp at h
      exact ⟨s, c, hs, hc, h0, h.symm⟩
    · cases h
  · cases h
theorem stateM_le {E : Env} {src : List Ins} : ∀ (d k : Nat) (s' : Mk), stateM E src (k + d) = some s' → ∃ s, stateM E src k = some s
  | 0, k, s', h => ⟨s', h⟩
  | d + 1, k, s', h => by
    obtain ⟨s, _, h1, _⟩ := stateM_prev (k := k + d) h
    exact stateM_le d k s h1
theorem sf_at {E : Env} (hr : ∀ u ∈ E.funs, u.results.length ≤ 1) (hm : E.me.results.length ≤ 1) (hz : ∀ x ∈ E.me.results, x ≠ 0) (src : List Ins) (hl : src.length ≤ 24) (hn : nestR src [] = 0)
    {sf : Mk} (hf : stateM E src src.length = some sf) (i : Nat) (hi : i < src.length) : ∃ s c, SF E src i s c ∧ stateM E src (i + 1) = some (s.one E src i c).1 := by
  obtain ⟨s1, h1⟩ := stateM_le (src.length - (i + 1)) (i + 1) sf (by rw [show i + 1 + (src.length - (i + 1)) = src.length by omega]; exact hf)
  obtain ⟨s, c, hs, hc, h0, e⟩ := stateM_prev h1
  refine ⟨s, c, ?_, by rw [h1, e]⟩
  rcases rel_at hr hm hz src hl hn i (by omega) with ⟨_, h2⟩ | ⟨s0, m0, g1, g2, g3, _⟩
  · rw [h2] at hs; cases hs
  rw [g2] at hs
  cases hs
  obtain ⟨hrel, hpos⟩ := g3 hi
  obtain ⟨opn, i1, i2, i3⟩ := (inv_at hr hm src hl hn i s0 g1).1 hi
  obtain ⟨hw, hfit, b, r, htop, hal⟩ := body_ok hr hm src hl hn i s0 c g1 hc
  obtain ⟨c0, q, hcs, e1, e2⟩ := fg_cons hrel.ck htop.opn
  have hst : s0.st = s.st := fg_st hrel.ck
  have hlen := fg_len hrel.ck
  have hblen := i3.j.c.len
  have hci : src[i] = c := (List.getElem?_eq_some_iff.1 hc).2
  rw [List.drop_eq_getElem_cons hi, hci] at i1
  have hhts : s0.opn.map (·.height) = s.cs.map (·.height) := by
    have := congrArg (List.map Blk.height) (fg_opn hrel.ck)
    simpa [List.map_map, Function.comp_def, Blk.fg, Ctl.blk] using this
  have blk : ∀ (k : Nat) t, s.cs[k]? = some t → ∃ b, s0.opn[k]? = some b ∧ BR src i k s0.code s.code b t := fun k t ht => by
    have hk : k < s0.opn.length := by rw [hlen]; exact (List.getElem?_eq_some_iff.1 ht).1
    exact ⟨_, List.getElem?_eq_getElem hk, hrel.blk k _ t (List.getElem?_eq_getElem hk) ht⟩
  have hnest0 : ∀ o, nestR [] o ≠ 0 := by intro o ho; unfold nestR at ho; cases ho
  refine ⟨g2, hc, hw, h0, HtsM.of hhts (by rw [← hst]; exact i3.j.h), by rw [hcs]; simp, ?_, ?_, ?_, ?_, by rw [hpos, hrel.len], hrel.base, ?_, by rw [← hst]; exact i3.st⟩
  · intro k t ht h0
    obtain ⟨b', _, hb⟩ := blk k t ht
    exact hb.ends h0
  · intro h4
    obtain ⟨al, hal⟩ := hal h4
    have := (hrel.blk 0 b c0 (by rw [htop.opn]; rfl) (by rw [hcs]; rfl)).alt al hal
    exact ⟨c0, q, hcs, this.1, this.2.1⟩
  · intro h5
    have hop : opn.length + 1 = s.cs.length := by rw [← hlen]; exact hblen.symm
    unfold nestR at i1
    rw [if_neg (by simp [hw]), if_neg (by omega), if_neg (by omega), if_pos h5] at i1
    cases opn with
    | nil =>
      simp only at i1
      split at i1
      · rename_i he
        have := congrArg List.length he
        simp at this
        simp at hop
        constructor <;> intro <;> omega
      · cases i1
    | cons o q' =>
      simp only at i1
      constructor
      · intro h; simp at hop; omega
      · intro h
        rw [List.drop_eq_nil_of_le (by omega)] at i1
        exact absurd i1 (hnest0 _)
  · intro h5
    by_cases hlt : i + 1 < src.length
    · exact hlt
    · rw [List.drop_eq_nil_of_le (by omega)] at i1
      unfold nestR at i1
      rw [if_neg (by simp [hw])] at i1
      split at i1
      · split at i1
        · cases i1
        · exact absurd i1 (hnest0 _)
      split at i1
      · split at i1
        · cases i1
        · split at i1
          · exact absurd i1 (hnest0 _)
          · cases i1
      exact absurd i1 (hnest0 _)
  · intro t ht h2
    obtain ⟨k, hk⟩ := List.mem_iff_getElem?.1 ht
    obtain ⟨b', _, hb⟩ := blk k t hk
    exact (hb.loop h2).2
/-! ### one instruction -/
theorem Mk.ck_top {s : Mk} {t : Ctl} {r : List Ctl} (hc : s.cs = t :: r) (hl : t.height ≤ s.st.length) : s.ck.Top t.blk (r.map Ctl.blk) := ⟨by simp [Mk.ck, hc], hl⟩
theorem Mk.pops_suf (s : Mk) (l : List UInt8) : ∃ x, s.st = x ++ (s.pops l).1.st := pops_suffix s.ck l
theorem Mk.pop_suf (s : Mk) (l : UInt8) : ∃ x, s.st = x ++ (s.pop l).1.st := pop_suffix s.ck l
theorem Mk.pops_ht {s : Mk} {t : Ctl} {r : List Ctl} (hc : s.cs = t :: r) (hl : t.height ≤ s.st.length) (l : List UInt8) : t.height ≤ (s.pops l).1.st.length := (Ck.pops_top (Mk.ck_top hc hl) l).fl
theorem Mk.pop_ht {s : Mk} {t : Ctl} {r : List Ctl} (hc : s.cs = t :: r) (hl : t.height ≤ s.st.length) (l : UInt8) : t.height ≤ (s.pop l).1.st.length := (Ck.pop_top (Mk.ck_top hc hl) l).fl
theorem cut_suf {x y z : List UInt8} {h : Nat} (hl : h ≤ y.length) : cut h (z ++ y) = cut h (x ++ y) := by rw [cut_app hl, cut_app hl]
/-- the stack may change above the top block's floor alone -/
def Above (s : Mk) (st' : List UInt8) : Prop := ∃ x y z, s.st = x ++ y ∧ st' = z ++ y ∧ ∀ t r, s.cs = t :: r → t.height ≤ y.length
theorem Above.cut {s : Mk} {st' : List UInt8} (h : Above s st') (hh : HtsM s.cs s.st.length) : ∀ t ∈ s.cs, Go.Proofs.Qxb6500575aGreatDoor.cut t.height st' = Go.Proofs.Qxb6500575aGreatDoor.cut t.height s.st := by
  intro t ht
  obtain ⟨x, y, z, e1, e2, hy⟩ := h
  have hle : t.height ≤ y.length := by
    cases hs : s.cs with
    | nil => rw [hs] at ht; cases ht
    | cons a r =>
      rw [hs] at ht hh
      have := hy a r hs
      rcases List.mem_cons.1 ht with rfl | h1
      · exact this
      · have := HtsM.le hh.2 t h1; omega
  rw [e1, e2, cut_suf hle]
theorem Above.pops {s : Mk} {t : Ctl} {r : List Ctl} (hc : s.cs = t :: r) (hl : t.height ≤ s.st.length) (l z : List UInt8) : Above s (z ++ (s.pops l).1.st) := by
  obtain ⟨x, hx⟩ := s.pops_suf l
  exact ⟨x, _, z, hx, rfl, fun t' r' h => by rw [hc] at h; cases h; exact Mk.pops_ht hc hl l⟩
theorem Above.refl {s : Mk} {t : Ctl} {r : List Ctl} (hc : s.cs = t :: r) (hl : t.height ≤ s.st.length) (z : List UInt8) : Above s (z ++ s.st) := ⟨[], _, z, rfl, rfl, fun t' r' h => by rw [hc] at h; cases h; exact hl⟩
theorem Above.cutSelf {s : Mk} {t : Ctl} {r : List Ctl} (hc : s.cs = t :: r) (hl : t.height ≤ s.st.length) (l : List UInt8) : Above s (Go.Proofs.Qxb6500575aGreatDoor.cut t.height (s.pops l).1.st) := by
  obtain ⟨x, hx⟩ := s.pops_suf l
  obtain ⟨y, hy⟩ := cut_suffix t.height (s.pops l).1.st
  refine ⟨x ++ y, Go.Proofs.Qxb6500575aGreatDoor.cut t.height (s.pops l).1.st, [], by rw [List.append_assoc, ← hy]; exact hx, rfl, fun t' r' h => ?_⟩
  rw [hc] at h
  cases h
  rw [cut_len (Mk.pops_ht hc hl l)]
  exact Nat.le_refl _
/-- an instruction that opens or closes nothing -/
theorem one_flat {E : Env} {src : List Ins} {i : Nat} {s : Mk} {c : Ins} (h : SF E src i s c) (h1 : ¬ (c.op = 1 ∨ c.op = 2 ∨ c.op = 3)) (h4 : c.op ≠ 4) (h5 : c.op ≠ 5) : Above s (s.one E src i c).1.st ∧ ((s.one E src i c).1.cs = s.cs ∨ ∃ t r, s.cs = t :: r ∧ (s.one E src i c).1.cs = { t with dead := true } :: r) := by
  have h0 := h.ok
  cases hs : s.cs with
  | nil => exact absurd hs h.ne
  | cons t r =>
    have hh := h.hts
    rw [hs] at hh
    have hl := hh.1
    have kill : ∀ l, Above s (s.pops l).1.kill.st ∧ ((s.pops l).1.kill.cs = t :: r ∨ ∃ t' r', t :: r = t' :: r' ∧ (s.pops l).1.kill.cs = { t' with dead := true } :: r') := fun l => by
      unfold Mk.kill
      rw [Mk.pops_cs, hs]
      exact ⟨Above.cutSelf hs hl l, .inr ⟨t, r, rfl, rfl⟩⟩
    have kill0 : Above s s.kill.st ∧ (s.kill.cs = t :: r ∨ ∃ t' r', t :: r = t' :: r' ∧ s.kill.cs = { t' with dead := true } :: r') := kill []
    have pops : ∀ l z, Above s (z ++ (s.pops l).1.st) := Above.pops hs hl
    unfold Mk.one at h0 ⊢
    rw [if_neg (by omega), if_neg (by omega), if_neg h4, if_neg h5] at h0 ⊢
    by_cases h6 : c.op = 6
    · rw [if_pos h6] at h0 ⊢
      split at h0
      · simp at h0
      · rename_i hx
        rw [if_neg hx]
        exact kill _
    rw [if_neg h6] at h0 ⊢
    by_cases h7 : c.op = 7
    · rw [if_pos h7] at h0 ⊢
      split at h0
      · simp at h0
      · rename_i hx
        rw [if_neg hx]
        exact ⟨pops _ _, .inl hs⟩
    rw [if_neg h7] at h0 ⊢
    by_cases h8 : c.op = 8
    · rw [if_pos h8] at h0 ⊢
      split at h0
      · simp at h0
      · rename_i hx
        rw [if_neg hx]
        exact kill _
    rw [if_neg h8] at h0 ⊢
    cases hp : s.plain E c with
    | none => rw [hp] at h0; simp at h0
    | some p =>
      simp only
      unfold Mk.plain at hp
      split at hp
      · cases hp; exact kill0
      split at hp
      · cases hp; exact kill _
      split at hp
      · split at hp
        · cases hp
        · cases hp; exact ⟨pops _ _, .inl hs⟩
      split at hp
      · cases hp
        obtain ⟨x, hx⟩ := s.pop_suf 0
        exact ⟨⟨x, _, [], hx, rfl, fun t' r' h => by rw [hs] at h; cases h; exact Mk.pop_ht hs hl 0⟩, .inl hs⟩
      split at hp
      · cases hp
        obtain ⟨x, hx⟩ := s.pops_suf [105]
        have l1 := Mk.pops_ht hs hl [105]
        obtain ⟨x2, hx2⟩ := (s.pops [105]).1.pop_suf 0
        have l2 := Mk.pop_ht (s := (s.pops [105]).1) hs l1 0
        obtain ⟨x3, hx3⟩ := ((s.pops [105]).1.pop 0).1.pop_suf ((s.pops [105]).1.pop 0).2.1
        have l3 := Mk.pop_ht (s := ((s.pops [105]).1.pop 0).1) hs l2 ((s.pops [105]).1.pop 0).2.1
        refine ⟨⟨x ++ (x2 ++ x3), _, [_], ?_, rfl, fun t' r' h => by rw [hs] at h; cases h; exact l3⟩, .inl hs⟩
        rw [List.append_assoc, List.append_assoc, ← hx3, ← hx2]
        exact hx
      split at hp
      · split at hp
        · cases hp
        · cases hp; exact ⟨Above.refl hs hl [_], .inl hs⟩
      split at hp
      · split at hp
        · cases hp
        · cases hp; exact ⟨pops _ [], .inl hs⟩
      cases hp; exact ⟨pops _ _, .inl hs⟩
theorem one_open {E : Env} {src : List Ins} {i : Nat} {s : Mk} {c : Ins} (h : SF E src i s c) (h1 : c.op = 1 ∨ c.op = 2 ∨ c.op = 3) : Above s (s.one E src i c).1.st ∧ (s.one E src i c).1.cs = ⟨c.op, c.imm, (s.one E src i c).1.st.length, i, false⟩ :: s.cs := by
  cases hs : s.cs with
  | nil => exact absurd hs h.ne
  | cons t r =>
    have hh := h.hts
    rw [hs] at hh
    have hl := hh.1
    unfold Mk.one
    by_cases h3 : c.op = 3
    · rw [if_neg (by omega), if_pos h3]
      exact ⟨Above.pops hs hl [105] [], by simp [h3, hs]⟩
    · rw [if_pos (by omega)]
      exact ⟨Above.refl hs hl [], by simp [hs]⟩
theorem typedM_ok {b : Bool} (h : typedM b = 0) : b = true := by
  cases b with
  | true => rfl
  | false => simp [typedM] at h
theorem closes_ok {s : Mk} {t : Ctl} {r : List Ctl} (hs : s.cs = t :: r) (hl : t.height ≤ s.st.length) (hc : s.closes.2 = true) : s.closes.1 = (s.pops (resOf t.bt)).1 ∧ (s.pops (resOf t.bt)).2 = true ∧ (s.pops (resOf t.bt)).1.st = cut t.height s.st := by
  unfold Mk.closes at hc ⊢
  rw [hs] at hc ⊢
  simp only at hc ⊢
  simp only [Bool.and_eq_true, decide_eq_true_eq] at hc
  refine ⟨trivial, hc.1, ?_⟩
  obtain ⟨x, hx⟩ := s.pops_suf (resOf t.bt)
  rw [hx, cut_app (by rw [hc.2]; exact Nat.le_refl _)]
  unfold cut
  rw [hc.2, Nat.sub_self, List.drop_zero]
theorem one_else {E : Env} {src : List Ins} {i : Nat} {s : Mk} {c : Ins} (h : SF E src i s c) (h4 : c.op = 4) : ∃ t r, s.cs = t :: r ∧ t.op = 3 ∧ 0 ≤ t.at_ ∧ (s.one E src i c).1.cs = { t with op := 4, dead := false } :: r ∧ (s.one E src i c).1.st = cut t.height s.st ∧ (s.pops (resOf t.bt)).2 = true ∧ (s.pops (resOf t.bt)).1.st = cut t.height s.st := by
  obtain ⟨t, r, hs, ho, ha⟩ := h.els h4
  have hh := h.hts
  rw [hs] at hh
  have h0 := h.ok
  unfold Mk.one at h0 ⊢
  rw [if_neg (by omega), if_neg (by omega), if_pos h4, hs] at h0 ⊢
  simp only at h0 ⊢
  obtain ⟨e1, e2, e3⟩ := closes_ok hs hh.1 (typedM_ok h0)
  exact ⟨t, r, rfl, ho, ha, rfl, by rw [e1, e3], e2, e3⟩
theorem one_end {E : Env} {src : List Ins} {i : Nat} {s : Mk} {c : Ins} (h : SF E src i s c) (h5 : c.op = 5) : ∃ t r, s.cs = t :: r ∧ (s.one E src i c).1.cs = r ∧ (s.one E src i c).1.st = (resOf t.bt).reverse ++ cut t.height s.st ∧ (s.pops (resOf t.bt)).2 = true ∧ (s.pops (resOf t.bt)).1.st = cut t.height s.st ∧ (t.op = 3 → t.bt = 0) := by
  cases hs : s.cs with
  | nil => exact absurd hs h.ne
  | cons t r =>
    have hh := h.hts
    rw [hs] at hh
    have h0 := h.ok
    unfold Mk.one at h0 ⊢
    rw [if_neg (by omega), if_neg (by omega), if_neg (by omega), if_pos h5, hs] at h0 ⊢
    simp only at h0 ⊢
    split at h0
    · simp at h0
    rename_i hx
    obtain ⟨e1, e2, e3⟩ := closes_ok hs hh.1 (typedM_ok h0)
    refine ⟨t, r, rfl, rfl, by rw [e1, e3], e2, e3, fun h3 => ?_⟩
    by_cases hb : t.bt = 0
    · exact hb
    · exact absurd ⟨h3, hb⟩ hx
end Go.Proofs.Qxb6500575aGreatDoor
