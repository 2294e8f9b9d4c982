/-
  THE PLAIN LAWS of New, of what is due, of the builder. No program.
-/
import Derived.Test.Qxb6500575aGreatDoorLaw2
import Derived.Test.Qxb6500575aGreatDoorBelP
import Derived.Test.Qxb6500575aGreatDoorNew
namespace Go.Proofs.Qxb6500575aGreatDoor
open Go Go.RowKit
set_option linter.unusedVariables false
set_option linter.unusedSimpArgs false
/-! ### what New answers -/
def Code056 (e : Int) : Prop := e = 0 ∨ e = 5 ∨ e = 6
theorem popsR_codes : ∀ (l : List UInt8) (s : Ck), (Ck.popsR l s).2 = 0 ∨ (Ck.popsR l s).2 = 6
  | [], _ => .inl rfl
  | t :: ts, s => by
    unfold Ck.popsR
    split
    · exact popsR_codes ts _
    · exact .inr rfl
theorem pops_codes (s : Ck) (l : List UInt8) : (s.pops l).2 = 0 ∨ (s.pops l).2 = 6 := popsR_codes _ _
theorem leaves_codes (s : Ck) (l : List UInt8) : (s.leaves l).2 = 0 ∨ (s.leaves l).2 = 6 := by
  unfold Ck.leaves
  split
  · exact pops_codes s l
  · exact pops_codes s l
theorem swap_codes (s : Ck) (i o : List UInt8) : (s.swap i o).2 = 0 ∨ (s.swap i o).2 = 6 := pops_codes s i
theorem closes_codes (s : Ck) : s.closes.2 = 0 ∨ s.closes.2 = 6 := by
  unfold Ck.closes
  split
  · exact .inl rfl
  · simp only
    split
    · exact .inr rfl
    · exact pops_codes _ _
theorem two056 {e : Int} (h : e = 0 ∨ e = 6) : Code056 e := by
  rcases h with h | h
  · exact .inl h
  · exact .inr (.inr h)
set_option maxRecDepth 100000 in
theorem sigs_table : ∀ n : Fin 76, (15 ≤ n.val ∧ n.val ≤ 33) ∨ (40 ≤ n.val ∧ n.val < 56) ∨ 60 ≤ n.val → (sigsP (n.val : Int)).2.2 = true := by decide
theorem sigs_known {c : Ins} (hw : well c = true) (h : ¬ (c.op = 1 ∨ c.op = 2 ∨ c.op = 3)) (h4 : ¬ c.op = 4) (h5 : ¬ c.op = 5) (h6 : ¬ (c.op = 6 ∨ c.op = 7)) (h8 : ¬ c.op = 8)
    (a0 : ¬ c.op = 0) (a9 : ¬ c.op = 9) (a11 : ¬ c.op = 11) (a10 : ¬ c.op = 10) (a12 : ¬ c.op = 12) (a13 : ¬ (c.op = 13 ∨ c.op = 14)) : (sigsP c.op).2.2 = true := by
  have hr : (0 ≤ c.op ∧ c.op ≤ 33) ∨ (40 ≤ c.op ∧ c.op < 56) ∨ (60 ≤ c.op ∧ c.op < 76) := by
    unfold well at hw
    repeat' split at hw
    all_goals first | omega | (cases hw; done) | (simp at hw; omega)
  obtain ⟨n, hn⟩ : ∃ n : Nat, c.op = n := ⟨c.op.toNat, by omega⟩
  rw [hn]
  exact sigs_table ⟨n, by omega⟩ (by show (15 ≤ n ∧ n ≤ 33) ∨ (40 ≤ n ∧ n < 56) ∨ 60 ≤ n; omega)
theorem one_codes {E : Env} {s : Ck} {c : Ins} (hw : well c = true) : Code056 (s.one E c).2 := by
  unfold Ck.one
  split
  · unfold Ck.enter
    split
    · exact .inl rfl
    · split
      · exact two056 (pops_codes s [105])
      · exact .inl rfl
  split
  · unfold Ck.turn
    split
    · exact two056 (closes_codes s)
    · exact two056 (closes_codes s)
  split
  · unfold Ck.leave
    split
    · exact two056 (closes_codes s)
    · simp only
      split
      · exact .inr (.inr rfl)
      · exact two056 (closes_codes s)
  split
  · unfold Ck.branch
    split
    · exact .inr (.inl rfl)
    · split
      · exact two056 (leaves_codes _ _)
      · exact two056 (swap_codes _ _ _)
  split
  · unfold Ck.table
    split
    · exact .inr (.inl rfl)
    · simp only
      split
      · exact two056 (leaves_codes _ _)
      · exact .inr (.inr rfl)
  rename_i h1 h4 h5 h6 h8
  show Code056 (s.plainOne E c).2
  unfold Ck.plainOne
  split
  · rename_i p hp
    unfold Ck.handle at hp
    split at hp
    · have := Option.some.inj hp; subst this; exact two056 (leaves_codes _ _)
    split at hp
    · have := Option.some.inj hp; subst this; exact two056 (leaves_codes _ _)
    split at hp
    · have := Option.some.inj hp; subst this; exact two056 (pops_codes _ _)
    split at hp
    · have := Option.some.inj hp; subst this
      unfold Ck.call
      split
      · exact .inr (.inl rfl)
      · exact two056 (swap_codes _ _ _)
    split at hp
    · have := Option.some.inj hp; subst this
      unfold Ck.sel
      simp only
      split
      · exact .inr (.inr rfl)
      · exact two056 (pops_codes _ _)
    split at hp
    · have := Option.some.inj hp; subst this
      unfold Ck.local
      split
      · exact .inr (.inl rfl)
      · split
        · exact two056 (pops_codes _ _)
        · exact two056 (swap_codes _ _ _)
    · cases hp
  · rename_i hp
    have : (sigsP c.op).2.2 = true := by
      unfold Ck.handle at hp
      split at hp
      · cases hp
      split at hp
      · cases hp
      split at hp
      · cases hp
      split at hp
      · cases hp
      split at hp
      · cases hp
      split at hp
      · cases hp
      rename_i b0 b9 b11 b10 b12 b13
      exact sigs_known hw h1 h4 h5 h6 h8 b0 b9 b11 b10 b12 b13
    rw [if_pos this]
    exact two056 (swap_codes _ _ _)

/-- all of modm's promises -/
structure ModGood (m : ModD) : Prop where
  ok : ModOk m
  nest : ∀ f ∈ m.funcs, nestR f.code [] = 0
theorem ModD.body_at {m : ModD} (f : Nat) (h1 : m.imports.length ≤ f) (h2 : f < m.nall) : ∃ fn, m.funcs[f - m.imports.length]? = some fn ∧ m.body f = fn.code ∧ fn ∈ m.funcs := by
  have hl : f - m.imports.length < m.funcs.length := by unfold ModD.nall at h2; omega
  refine ⟨m.funcs[f - m.imports.length], List.getElem?_eq_getElem hl, ?_, List.getElem_mem hl⟩
  unfold ModD.body
  rw [if_neg (by omega), List.getElem?_eq_getElem hl]
  rfl
theorem ModGood.env {m : ModD} (h : ModGood m) (f : Nat) : (∀ u ∈ (m.env f).funs, u.results.length ≤ 1) ∧ (m.env f).me.results.length ≤ 1 := by
  refine ⟨fun u hu => ?_, (h.ok.funD f).2.1⟩
  simp only [ModD.env, ModD.sigs, List.mem_map] at hu
  obtain ⟨g, _, rfl⟩ := hu
  exact (h.ok.funD g).2.1
theorem ModGood.bodies {m : ModD} (h : ModGood m) : BodiesOk m := by
  intro f h1 h2 _
  obtain ⟨fn, _, e, hm⟩ := ModD.body_at f h1 h2
  rw [e]
  exact body_ok (h.env f).1 (h.env f).2 fn.code (h.ok.fc fn hm) (h.nest fn hm)

/-- the first fault's code -/
theorem runCk_codes {E : Env} : ∀ (k : Nat) (cs : List Ins) (s : Ck), (∀ c ∈ cs, well c = true) → ∀ i e, (runCk E k cs s).1 = some (i, e) → e = 5 ∨ e = 6
  | _, [], _, _, _, _, h => by cases h
  | k, c :: cs, s, hw, i, e, h => by
    unfold runCk at h
    split at h
    · exact runCk_codes (k + 1) cs _ (fun x hx => hw x (by simp [hx])) i e h
    · rename_i h0
      simp at h
      obtain ⟨_, rfl⟩ := h
      rcases one_codes (E := E) (s := s) (hw c (by simp)) with h1 | h1 | h1
      · exact absurd h1 h0
      · exact .inl h1
      · exact .inr h1
theorem nest_well : ∀ (code : List Ins) (opn : List Int), nestR code opn = 0 → ∀ c ∈ code, well c = true
  | [], _, h, _, _ => by cases h
  | x :: cs, opn, h, c, hc => by
    unfold nestR at h
    split at h
    · cases h
    rename_i hw
    have hw : well x = true := by simpa using hw
    rcases List.mem_cons.1 hc with rfl | hc
    · exact hw
    split at h
    · split at h
      · cases h
      · exact nest_well cs _ h c hc
    split at h
    · cases opn with
      | nil => cases h
      | cons o r =>
        simp only at h
        split at h
        · exact nest_well cs _ h c hc
        · cases h
    split at h
    · cases opn with
      | nil =>
        simp only at h
        split at h
        · rename_i e; subst e; cases hc
        · cases h
      | cons o r => exact nest_well cs _ h c hc
    · exact nest_well cs _ h c hc
theorem runCk_none {E : Env} (code : List Ins) : ∀ (n k : Nat) (s : Ck), code.length - k = n → k ≤ code.length → stateAt E code k = some s → (runCk E k (code.drop k) s).1 = none → stateAt E code code.length = some (runCk E k (code.drop k) s).2
  | 0, k, s, hn, hk, hs, _ => by
    have : k = code.length := by omega
    subst this
    simp [runCk, hs]
  | n + 1, k, s, hn, hk, hs, h => by
    have hlt : k < code.length := by omega
    rw [List.drop_eq_getElem_cons hlt] at h ⊢
    unfold runCk at h ⊢
    split at h
    · rename_i h0
      rw [if_pos h0]
      refine runCk_none code n (k + 1) _ (by omega) hlt ?_ h
      simp only [stateAt]
      rw [hs, List.getElem?_eq_getElem hlt]
      simp [h0]
    · cases h
theorem ModGood.final {m : ModD} (h : ModGood m) (f : Nat) (h1 : m.imports.length ≤ f) (h2 : f < m.nall) (hc : (m.chk f).1 = none) : FinalOk (m.code f) (emitsTo (m.body f) (m.body f).length) := by
  obtain ⟨fn, _, e, hm⟩ := ModD.body_at f h1 h2
  unfold ModD.code
  rw [if_neg (by omega)]
  have hs : stateAt (m.env f) (m.body f) 0 = some (Ck.start (m.funD f).results) := rfl
  have := runCk_none (E := m.env f) (m.body f) _ 0 _ rfl (Nat.zero_le _) hs (by simpa [ModD.chk] using hc)
  rw [List.drop_zero] at this
  refine (inv_at (h.env f).1 (h.env f).2 (m.body f) (by rw [e]; exact h.ok.fc fn hm) (by rw [e]; exact h.nest fn hm) _ _ this).2 rfl

theorem badBody_none2 (m : ModD) : ∀ (k f : Nat), m.badBody f k = none → ∀ g, f ≤ g → g < f + k → (m.chk g).1 = none
  | 0, f, _, g, h1, h2 => by omega
  | k + 1, f, h, g, h1, h2 => by
    unfold ModD.badBody at h
    split at h
    · cases h
    · rename_i hc
      by_cases hg : g = f
      · subst hg; exact hc
      · exact badBody_none2 m k (f + 1) h g (by omega) (by omega)
theorem badBody_codes (m : ModD) (h : ModGood m) : ∀ (k f : Nat), m.imports.length ≤ f → f + k ≤ m.nall → ∀ g i e, m.badBody f k = some (g, i, e) → e = 5 ∨ e = 6
  | 0, f, _, _, g, i, e, hb => by cases hb
  | k + 1, f, h1, h2, g, i, e, hb => by
    unfold ModD.badBody at hb
    split at hb
    · rename_i i' e' hc
      simp at hb
      obtain ⟨_, _, rfl⟩ := hb
      obtain ⟨fn, _, e0, hm⟩ := ModD.body_at f h1 (by omega)
      refine runCk_codes 0 (m.body f) _ ?_ i' e' hc
      rw [e0]
      exact nest_well _ _ (h.nest fn hm)
    · exact badBody_codes m h k (f + 1) (by omega) (by omega) g i e hb
theorem ModGood.load_codes {m : ModD} (h : ModGood m) : Code056 m.load.2.2 := by
  unfold ModD.load
  split
  · exact .inr (.inl rfl)
  · split
    · rename_i f i e hb
      rcases badBody_codes m h m.funcs.length m.imports.length (Nat.le_refl _) (Nat.le_refl _) f i e hb with h1 | h1
      · exact .inr (.inl h1)
      · exact .inr (.inr h1)
    · exact .inl rfl
theorem load_good {m : ModD} (h : m.load.2.2 = 0) (hg : ModGood m) : m.badSig 0 m.nall = none ∧ (∀ g, m.imports.length ≤ g → g < m.nall → (m.chk g).1 = none) := by
  unfold ModD.load at h
  split at h
  · cases h
  · rename_i hs
    split at h
    · rename_i f i e hb
      have := badBody_codes m hg m.funcs.length m.imports.length (Nat.le_refl _) (Nat.le_refl _) f i e hb
      simp only at h
      omega
    · rename_i hb
      exact ⟨hs, fun g h1 h2 => badBody_none2 m _ _ hb g h1 (by unfold ModD.nall at h2; omega)⟩
theorem load_zero {m : ModD} (h : m.load.2.2 = 0) (hg : ModGood m) : m.load = (0, 0, 0) := by
  obtain ⟨h1, h2⟩ := load_good h hg
  unfold ModD.load at h ⊢
  rw [h1] at h ⊢
  simp only at h ⊢
  split
  · rename_i f i e hb
    rw [hb] at h
    have := badBody_codes m hg m.funcs.length m.imports.length (Nat.le_refl _) (Nat.le_refl _) f i e hb
    simp only at h
    omega
  · rfl

/-! ### what is due -/
def ModD.due (m : ModD) : (Int × Int × Int) × Bool :=
  match m.badSig 0 m.nall with
  | some g => ((5, g, -1), true)
  | none =>
    if m.funcs.length = 0 then ((0, 0, 0), true)
    else if m.funcs.length ≠ 1 ∨ (m.funcAt 0).2.2 ≠ 1 then ((0, 0, 0), false)
    else if (m.typeAt (m.funcAt 0).1).2 = [] then ((0, 0, 0), true)
    else ((6, m.imports.length, 0), true)
theorem nest_one {c : Ins} (h : nestR [c] [] = 0) : c.op = 5 := by
  unfold nestR at h
  split at h
  · cases h
  split at h
  · split at h
    · cases h
    · cases h
  split at h
  · cases h
  split at h
  · rename_i h5; exact h5
  · cases h
theorem ModGood.due {m : ModD} (h : ModGood m) (hd : m.due.2 = true) : m.due.1 = (m.load.2.2, m.load.1, m.load.2.1) := by
  unfold ModD.due at hd ⊢
  unfold ModD.load
  cases hs : m.badSig 0 m.nall with
  | some g => rfl
  | none =>
    rw [hs] at hd
    simp only at hd ⊢
    by_cases h0 : m.funcs.length = 0
    · rw [if_pos h0]
      have : m.badBody m.imports.length m.funcs.length = none := by rw [h0]; rfl
      rw [this]
    · rw [if_neg h0] at hd ⊢
      by_cases h1 : m.funcs.length ≠ 1 ∨ (m.funcAt 0).2.2 ≠ 1
      · rw [if_pos h1] at hd; cases hd
      · rw [if_neg h1] at hd ⊢
        have hf1 : m.funcs.length = 1 := by omega
        have hk1 : (m.funcAt 0).2.2 = 1 := by omega
        have hna : m.imports.length < m.nall := by unfold ModD.nall; omega
        obtain ⟨fn, e1, e2, hm⟩ := ModD.body_at m.imports.length (Nat.le_refl _) hna
        rw [Nat.sub_self] at e1
        have hfa : m.funcAt 0 = (fn.typ, fn.locals, (fn.code.length : Int)) := by
          unfold ModD.funcAt
          rw [if_neg (by decide)]
          have : (0 : Int).toNat = 0 := rfl
          rw [this, e1]
        rw [hfa] at hk1 ⊢
        simp only at hk1 ⊢
        have hlen : fn.code.length = 1 := by omega
        obtain ⟨c, hc⟩ : ∃ c, fn.code = [c] := List.length_eq_one_iff.1 hlen
        have hop := nest_one (by have := h.nest fn hm; rw [hc] at this; exact this)
        have hfd : (m.funD m.imports.length).results = (m.typeAt fn.typ).2 := by
          unfold ModD.funD ModD.typOf
          rw [if_neg (by omega)]
          have : ((m.imports.length : Int) - (m.imports.length : Int)) = 0 := by omega
          rw [this, hfa]
        have hchk : m.chk m.imports.length = runCk (m.env m.imports.length) 0 [c] (Ck.start (m.typeAt fn.typ).2) := by
          unfold ModD.chk
          rw [e2, hc, hfd]
        have hone : (Ck.start (m.typeAt fn.typ).2).one (m.env m.imports.length) c = (Ck.start (m.typeAt fn.typ).2).leave := by
          unfold Ck.one
          rw [if_neg (by omega), if_neg (by omega), if_pos hop]
        have hrl : (m.typeAt fn.typ).2.length ≤ 1 := by rw [← hfd]; exact (h.ok.funD _).2.1
        generalize (m.typeAt fn.typ).2 = rs at *
        have hb : m.badBody m.imports.length m.funcs.length = (match (m.chk m.imports.length).1 with | some (i, e) => some (m.imports.length, i, e) | none => none) := by
          rw [hf1]
          conv => lhs; unfold ModD.badBody
          cases (m.chk m.imports.length).1 with
          | none => rfl
          | some p => obtain ⟨i, e⟩ := p; rfl
        match rs, hrl with
        | [], _ =>
          rw [if_pos rfl]
          have hz : ((Ck.start []).one (m.env m.imports.length) c).2 = 0 := by rw [hone]; rfl
          have : (m.chk m.imports.length).1 = none := by
            rw [hchk]
            unfold runCk
            rw [if_pos hz]
            rfl
          rw [hb, this]
        | [r], _ =>
          rw [if_neg (by simp)]
          have hz : ((Ck.start [r]).one (m.env m.imports.length) c).2 = 6 := by rw [hone]; rfl
          have : (m.chk m.imports.length).1 = some (0, 6) := by
            rw [hchk]
            unfold runCk
            rw [if_neg (by rw [hz]; decide), hz]
          rw [hb, this]
          rfl

/-! ### modm keeps its promises -/
theorem ModGood.empty : ModGood ModD.empty := by
  refine ⟨⟨by decide, rfl, by decide, by decide, ?_, ?_, ?_, ?_, ?_, ?_⟩, ?_⟩ <;> (intro x hx; cases hx)
theorem ModGood.addImport {m : ModD} (h : ModGood m) (t : Int) : ModGood (m.addImport t).1 := by
  unfold ModD.addImport
  split
  · exact h
  split
  · exact h
  · rename_i h1 h2
    refine ⟨{ h.ok with ni := by simp; omega, im := fun x hx => ?_ }, h.nest⟩
    rcases List.mem_append.1 hx with hx | hx
    · exact h.ok.im x hx
    · simp at hx; omega
theorem ModGood.setMem {m : ModD} (h : ModGood m) (a b : Int) : ModGood (m.setMem a b).1 := by
  unfold ModD.setMem
  split
  · exact h
  · exact ⟨{ h.ok with }, h.nest⟩
theorem ModGood.addType {m : ModD} (h : ModGood m) (p r : List UInt8) : ModGood (m.addType p r).1 := by
  unfold ModD.addType
  split
  · exact h
  split
  · exact h
  split
  · exact h
  · rename_i h1 h2 h3
    refine ⟨{ h.ok with np := by simp; omega, nr := by simp [h.ok.nr], pl := fun x hx => ?_, rl := fun x hx => ?_ }, h.nest⟩
    · rcases List.mem_append.1 hx with hx | hx
      · exact h.ok.pl x hx
      · simp at hx; subst hx; omega
    · rcases List.mem_append.1 hx with hx | hx
      · exact h.ok.rl x hx
      · simp at hx; subst hx; omega
theorem ModGood.addFunc {m : ModD} (h : ModGood m) (t : Int) (l : List UInt8) (c : List Ins) : ModGood (m.addFunc t l c).1 := by
  unfold ModD.addFunc
  split
  · exact h
  split
  · exact h
  split
  · exact h
  split
  · exact h
  · rename_i h1 h2 h3 h4
    have key : ∀ (Q : FnD → Prop), (∀ f ∈ m.funcs, Q f) → Q ⟨t, l, c⟩ → ∀ f ∈ m.funcs ++ [⟨t, l, c⟩], Q f := by
      intro Q q1 q2 f hf
      rcases List.mem_append.1 hf with hf | hf
      · exact q1 f hf
      · simp at hf; subst hf; exact q2
    refine ⟨{ h.ok with nf := by simp; omega, ft := key _ h.ok.ft (by show 0 ≤ t; omega), fl := key _ h.ok.fl (by show l.length ≤ 4; omega), fc := key _ h.ok.fc (by show c.length ≤ 24; omega) }, key _ h.nest ?_⟩
    show nestR c [] = 0
    exact Decidable.not_not.1 h4
structure BelGood (x : BelD) : Prop where
  m : ModGood x.m
  code : x.code.length ≤ 27
theorem BelGood.ground : BelGood BelD.ground := ⟨ModGood.empty, by decide⟩
theorem BelGood.build {x : BelD} (h : BelGood x) (o : OpD) : BelGood (x.build o).1 := by
  have hm := h.m
  have hc := h.code
  unfold BelD.build
  split
  · exact ⟨hm.addType _ _, hc⟩
  split
  · exact ⟨hm.addImport _, hc⟩
  split
  · exact ⟨hm.setMem _ _, hc⟩
  split
  · split
    · exact ⟨hm, by simp; omega⟩
    · exact h
  split
  · exact ⟨hm.addFunc _ _ _, by simp⟩
  split
  · exact ⟨ModGood.empty, hc⟩
  · exact h
/-! ### lengths -/
theorem emit_len {c : Ins} (hw : well c = true) (last : Bool) : (emitK c last).length = if c.op = 1 ∨ c.op = 2 ∨ (c.op = 5 ∧ last = false) then 0 else 1 + c.tab.length := by
  have ht : c.op ≠ 8 → c.tab = [] := by
    intro h8
    unfold well at hw
    rw [if_neg h8] at hw
    split at hw
    · cases hw
    · rename_i h; simpa using h
  have hno : ¬ (c.op = 1 ∨ c.op = 2) → ¬ c.op = 5 → ¬ (c.op = 1 ∨ c.op = 2 ∨ (c.op = 5 ∧ last = false)) := by
    rintro h1 h5 (h | h | h)
    · exact h1 (.inl h)
    · exact h1 (.inr h)
    · exact h5 h.1
  unfold emitK
  by_cases h1 : c.op = 1 ∨ c.op = 2
  · rw [if_pos h1, if_pos (by rcases h1 with h | h; exact .inl h; exact .inr (.inl h))]; rfl
  · rw [if_neg h1]
    by_cases h3 : c.op = 3 ∨ c.op = 4
    · rw [if_pos h3, if_neg (hno h1 (by omega)), ht (by omega)]; rfl
    · rw [if_neg h3]
      by_cases h5 : c.op = 5
      · rw [if_pos h5, ht (by omega)]
        cases last <;> simp [h5]
      · rw [if_neg h5, if_neg (hno h1 h5)]
        by_cases h6 : c.op = 6 ∨ c.op = 7
        · rw [if_pos h6, ht (by omega)]; rfl
        · rw [if_neg h6]
          by_cases h8 : c.op = 8
          · rw [if_pos h8]; simp; omega
          · rw [if_neg h8, ht h8]; rfl
theorem emitsTo_len_le (code : List Ins) (hw : ∀ c ∈ code, well c = true) : ∀ k, (emitsTo code k).length ≤ 6 * k
  | 0 => Nat.le_refl _
  | k + 1 => by
    have ih := emitsTo_len_le code hw k
    unfold emitsTo
    cases hc : code[k]? with
    | none => simp; omega
    | some c =>
      have hwc := hw c (List.mem_of_getElem? hc)
      have h1 := emit_len hwc (decide (k + 1 = code.length))
      have ht : c.tab.length ≤ 5 := by
        by_cases h8 : c.op = 8
        · exact well_tab hwc h8
        · unfold well at hwc
          rw [if_neg h8] at hwc
          split at hwc
          · cases hwc
          · rename_i h; have : c.tab = [] := by simpa using h
            rw [this]; simp
      simp only [List.length_append]
      split at h1 <;> omega
end Go.Proofs.Qxb6500575aGreatDoor
