/-
  THE TYPING of the flat code: the end; an accepted body is typed. No program.
-/
import Derived.Test.Qxb6500575aGreatDoorLawT6
namespace Go.Proofs.Qxb6500575aGreatDoor
open Go Go.RowKit
set_option linter.unusedVariables false
set_option linter.unusedSimpArgs false

variable {E : Env} {s : Ck} {T : Typing} {opn : List Int} {ks : List Kd}
/-- the typing of a whole body's flat code -/
structure FinT (E : Env) (code : List Flat) (T : Typing) : Prop where
  zero : T 0 = some []
  dom : ∀ a τ, T a = some τ → a < code.length
  ty : ∀ a τ, T a = some τ → TyL τ ∧ τ.length ≤ 24
  ok : ∀ (a : Nat) (c : Flat) (τ : List UInt8), code[a]? = some c → T a = some τ → InsOk E (fun _ imm ρ => 0 ≤ imm ∧ T imm.toNat = some ρ) T code a c τ

theorem TN.leaveCore (hj : J opn s ks) (h : TN E s T) (hs24 : s.leave.1.st.length ≤ 24) {b : Blk} {r : List Blk} (ho : s.opn = b :: r) (hb : b.height ≤ s.st.length) (hz : s.leave.2 = 0) :
    ∃ T', TN E { st := b.res.reverse ++ cut b.height s.st, opn := r, code := patchAll s.code s.code.length (b.wait ++ b.alt.toList) } T' ∧
      s.leave.1 = { st := b.res.reverse ++ cut b.height s.st, opn := r, code := patchAll s.code s.code.length (b.wait ++ b.alt.toList) ++ (if r.isEmpty then [{ op := 5, imm := 0, keep := 0, cut := 0 }] else []) } := by
  have hpl : ∀ a, Pend s.opn a → a < s.code.length := fun a ha => hj.c.pend_lt ha
  have e0 : s.leave = ({ st := b.res.reverse ++ s.closes.1.st, opn := r, code := patchAll s.closes.1.code s.closes.1.code.length (b.wait ++ b.alt.toList) ++ (if r.isEmpty then [{ op := 5, imm := 0, keep := 0, cut := 0 }] else []) }, if b.alt.isSome && !b.res.isEmpty then 6 else s.closes.2) := by
    unfold Ck.leave
    rw [s.closes_opn, ho]
  rw [e0] at hz hs24 ⊢
  simp only at hz hs24 ⊢
  have hz2 : s.closes.2 = 0 ∧ (∀ a, b.alt = some a → b.res = []) := by
    split at hz
    · cases hz
    · rename_i hn
      refine ⟨hz, fun a ha => ?_⟩
      rw [ha] at hn
      simpa using hn
  obtain ⟨c1, c2, c3⟩ := Ck.closes_ok ho hz2.1
  have hcode := s.closes_code
  obtain ⟨x, hx⟩ := pops_suffix s b.res
  have hcut : cut b.height s.st = (s.pops b.res).1.st := by
    conv => lhs; rw [hx]
    rw [cut_app (by omega), cut_all' c2]
  have hres := h.ti.res b (by rw [ho]; simp)
  have key : alive s.opn = true → s.st = b.res.reverse ++ cut b.height s.st := fun ha => by
    rw [hcut]
    exact pops_live ho (alive_top ho ha) (h.live ha).2.1 hres.1 c3
  rw [c1, ← hcut] at hs24
  rw [hcode, c1, ← hcut]
  obtain ⟨st', hst'⟩ : ∃ st', st' = b.res.reverse ++ cut b.height s.st := ⟨_, rfl⟩
  rw [← hst'] at key hs24 ⊢
  obtain ⟨T', hT'⟩ : ∃ T' : Typing, T' = upd T s.code.length (if alive r then some st' else none) := ⟨_, rfl⟩
  have hal : alive s.opn = true → alive r = true := fun ha => by rw [ho, alive_cons] at ha; simp at ha; exact ha.2
  have hmono : ∀ x ρ, T x = some ρ → T' x = some ρ := fun x ρ hx => by
    rw [hT']
    by_cases e : x = s.code.length
    · subst e
      rw [upd_same]
      by_cases ha : alive s.opn = true
      · rw [(h.live ha).1] at hx
        simp at hx; subst hx
        rw [if_pos (hal ha), ← key ha]
      · rw [h.dead ha] at hx; cases hx
    · rw [upd_ne _ _ e]; exact hx
  have hlow : ∀ x, x < s.code.length → T' x = T x := fun x hx => by rw [hT', upd_ne _ _ (by omega)]
  have hok := TI.patched h.ti ho (b.wait ++ b.alt.toList) s.code.length T' r
    (fun a ha => ⟨ha, hpl a ⟨b, by rw [ho]; simp, ha⟩⟩) hmono hlow
    (fun a ha hne τ h1 h2 => by
      have hal := h.ti.wl 0 b (by rw [ho]; rfl) a ha hne
      rw [ho] at hal
      simp at hal
      rw [hT', upd_same, if_pos hal, hst']
      rcases List.mem_append.1 ha with hw | hw
      · rw [h1 hw]
      · have hw : b.alt = some a := by simpa using hw
        rw [h2 hw, hz2.2 a hw]; simp)
    (fun x hx => ⟨x, by rw [ho]; simp [hx], rfl, rfl, fun _ => id, fun _ => id⟩)
    (fun a ha => by
      obtain ⟨y, hy, hp⟩ := ha
      rw [ho] at hy
      rcases List.mem_cons.1 hy with rfl | hy
      · exact .inr hp
      · exact .inl ⟨y, hy, hp⟩)
  have hd : ∀ l, s.opn.drop (l + 1 + 1) = r.drop (l + 1) := fun l => by rw [ho]; simp
  have hix : ∀ (l : Nat) (y : Blk), r[l]? = some y → s.opn[l + 1]? = some y := fun l y hy => by rw [ho]; simpa using hy
  have t1 : TI (fun _ => False) E { st := s.st, opn := r, code := patchAll s.code s.code.length (b.wait ++ b.alt.toList) } T' := by
    refine { zero := hmono _ _ h.ti.zero, dom := fun a τ ha => ?_, ok := fun a c τ _ hc hτ => hok a c τ hc hτ, ty := fun a τ ha => ?_, head := fun l y hy ha h0 => ?_, tyb := fun l y hy ha => ?_, wl := fun l y hy a ha ht => ?_, pk := fun y hy a ha c hc => ?_, res := fun y hy => ?_, last := fun y hy => ?_ }
    · simp only [patchAll_len]
      by_cases e : a = s.code.length
      · omega
      · rw [hT', upd_ne _ _ e] at ha
        exact h.ti.dom a τ ha
    · by_cases e : a = s.code.length
      · rw [hT', e, upd_same] at ha
        split at ha
        · rename_i hr
          simp at ha; subst ha
          refine ⟨?_, hs24⟩
          rw [hst']
          exact hres.1.reverse.append (h.ti.tyb 0 b (by rw [ho]; rfl) (by rw [ho]; simpa using hr))
        · cases ha
      · rw [hT', upd_ne _ _ e] at ha
        exact h.ti.ty a τ ha
    · exact hmono _ _ (h.ti.head (l + 1) y (hix l y hy) (by rw [hd]; exact ha) h0)
    · exact h.ti.tyb (l + 1) y (hix l y hy) (by rw [hd]; exact ha)
    · have hlt : a < s.code.length := hpl a ⟨y, List.mem_of_getElem? (hix l y hy), ha⟩
      rw [hlow a hlt] at ht
      have := h.ti.wl (l + 1) y (hix l y hy) a ha ht
      rw [hd] at this
      exact this
    · simp only [patchAll_get] at hc
      cases hc0 : s.code[a]? with
      | none => rw [hc0] at hc; cases hc
      | some c0 =>
        rw [hc0] at hc
        simp only [Option.map_some, Option.some.injEq] at hc
        have := h.ti.pk y (by rw [ho]; simp only at hy; simp [hy]) a ha c0 hc0
        have hop : c.op = c0.op := by rw [← hc]; split <;> rfl
        rw [hop]; exact this
    · exact h.ti.res y (by rw [ho]; simp only at hy; simp [hy])
    · refine h.ti.last y ?_
      rw [ho]
      simp only at hy
      cases r with
      | nil => simp at hy
      | cons r0 r1 => simpa using hy
  have t2 := t1.restack st' (fun y hy => by
    have hh := hj.h
    rw [ho] at hh
    have hyh := Hts.le hh.2 y hy
    simp only
    rw [hst']
    have hcl := cut_len hb
    rw [cut_app (by omega), cut_cut hyh hb])
  refine ⟨T', ⟨t2, ?_⟩, rfl⟩
  simp only [patchAll_len]
  rw [hT', upd_same]
  simp only [Now]

theorem TN.leave (hj : J opn s ks) (h : TN E s T) (hs24 : s.leave.1.st.length ≤ 24) (hz : s.leave.2 = 0) (hne : 2 ≤ s.opn.length) : ∃ T', TN E s.leave.1 T' := by
  obtain ⟨b, r, ho, hb⟩ := hj.cons
  obtain ⟨T', h1, h2⟩ := h.leaveCore hj hs24 ho hb hz
  refine ⟨T', ?_⟩
  rw [h2]
  have : r.isEmpty = false := by
    rw [ho] at hne
    cases r with
    | nil => simp at hne
    | cons _ _ => rfl
  rw [this]
  simpa using h1

theorem TN.final (hj : J opn s ks) (h : TN E s T) (hs24 : s.leave.1.st.length ≤ 24) (hz : s.leave.2 = 0) (h1 : s.opn.length = 1) : ∃ T', FinT E s.leave.1.code T' := by
  obtain ⟨b, r, ho, hb⟩ := hj.cons
  have hr : r = [] := by rw [ho] at h1; simpa using h1
  subst hr
  obtain ⟨T', t1, h2⟩ := h.leaveCore hj hs24 ho hb hz
  rw [h2]
  simp only [List.isEmpty_nil, if_true]
  obtain ⟨hl1, hl2⟩ := h.ti.last b (by rw [ho]; rfl)
  have np : ∀ a, ¬ Pend ([] : List Blk) a := fun a ⟨y, hy, _⟩ => by cases hy
  have t2 := t1.ti.push (fun a ha => absurd ha (np a)) (fun y hy => by cases hy) { op := 5, imm := 0, keep := 0, cut := 0 } [] none rfl (fun l y hy => by simp at hy) (fun τ e => by cases e) (fun y hy => by cases hy) (fun τ _ hτ => by
    have := t1.now
    rw [this] at hτ
    simp only [Now] at hτ
    rw [if_pos (by rfl)] at hτ
    simp at hτ; subst hτ
    have e9 : b.res.reverse ++ cut b.height s.st = E.me.results.reverse := by rw [hl1, hl2]; simp [cut]
    refine ⟨?_, ?_, ?_, fun _ => e9, ?_, ?_, ?_, ?_, ?_, ?_, ?_, ?_, ?_, ?_⟩ <;> simp only <;> intro e <;> omega)
  simp only at t2
  refine ⟨_, ⟨t2.zero, fun a τ ha => ?_, t2.ty, fun a c τ hc hτ => ?_⟩⟩
  · have hd := t2.dom a τ ha
    simp only [List.length_append, List.length_singleton] at hd ⊢
    by_cases e : a = (patchAll s.code s.code.length (b.wait ++ b.alt.toList)).length + 1
    · rw [e, upd_same] at ha; cases ha
    · omega
  · exact (t2.ok a c τ (fun f => f) hc hτ).mono (fun _ _ => id) (fun x e he => ⟨e, he, rfl⟩) rfl rfl rfl (.inl rfl) (fun ρ g => g.free (np a))

theorem TN.start (hr : TyL E.me.results) : TN E (Ck.start E.me.results) (fun a => if a = 0 then some [] else none) := by
  have hone : ∀ (l : Nat) (b : Blk), (Ck.start E.me.results).opn[l]? = some b → l = 0 ∧ b = { res := E.me.results, carry := E.me.results, height := 0, head := -1, dead := false, alt := none, wait := [] } := by
    intro l b hb
    cases l with
    | zero => simp [Ck.start] at hb; exact ⟨rfl, hb.symm⟩
    | succ l => simp [Ck.start] at hb
  have hmem : ∀ b ∈ (Ck.start E.me.results).opn, b = { res := E.me.results, carry := E.me.results, height := 0, head := -1, dead := false, alt := none, wait := [] } := by
    intro b hb
    simp [Ck.start] at hb
    exact hb
  refine ⟨{ zero := rfl, dom := fun a τ ha => ?_, ok := fun a c τ _ hc => by simp [Ck.start] at hc, ty := fun a τ ha => ?_, head := fun l b hb _ h0 => ?_, tyb := fun l b hb _ => ?_, wl := fun l b hb a ha => ?_, pk := fun b hb a ha => ?_, res := fun b hb => ?_, last := fun b hb => ?_ }, rfl⟩
  · split at ha
    · rename_i e; subst e; simp
    · cases ha
  · split at ha
    · simp at ha; subst ha; exact ⟨fun x hx => (by cases hx), by simp⟩
    · cases ha
  · obtain ⟨_, rfl⟩ := hone l b hb
    simp at h0
  · obtain ⟨_, rfl⟩ := hone l b hb
    intro x hx
    simp [cut, Ck.start] at hx
  · obtain ⟨_, rfl⟩ := hone l b hb
    simp at ha
  · rw [hmem b hb] at ha
    simp at ha
  · rw [hmem b hb]
    exact ⟨hr, fun _ => rfl, fun h0 => by simp at h0⟩
  · simp [Ck.start] at hb
    subst hb
    exact ⟨rfl, rfl⟩

/-- one source instruction -/
theorem TN.step {k : Nat} (hE : EnvTy E) (hrl : ∀ u ∈ E.funs, u.results.length ≤ 1) (h : Inv opn s ks k) (hk : k < 24) (hol : opn.length ≤ 4) (t : TN E s T) (c : Ins) (rest : List Ins) (hn : nestR (c :: rest) opn = 0) (hz : (s.one E c).2 = 0) :
    (rest = [] ∧ ∃ T', FinT E (s.one E c).1.code T') ∨ (rest ≠ [] ∧ ∃ T', TN E (s.one E c).1 T') := by
  have hst := h.st
  have hlen : s.opn.length = opn.length + 1 := h.j.c.len
  have hstep := h.step hrl hk hol c rest hn hz
  have hst' : rest ≠ [] → (s.one E c).1.st.length ≤ 24 := fun hne => by
    rcases hstep with ⟨e, _⟩ | ⟨_, opn', _, _, hI⟩
    · exact absurd e hne
    · have := hI.st; omega
  have nil3 : ∀ o, nestR rest o = 0 → rest ≠ [] := by
    intro o ho e
    subst e
    unfold nestR at ho
    cases ho
  unfold nestR at hn
  split at hn
  · cases hn
  rename_i hw
  have hw : well c = true := by simpa using hw
  unfold Ck.one at hz hst' ⊢
  split at hn
  · rename_i h1
    rw [if_pos h1] at hz hst' ⊢
    split at hn
    · cases hn
    · exact .inr ⟨nil3 _ hn, t.enter h.j c hw h1 hz⟩
  · rename_i h1
    rw [if_neg h1] at hz hst' ⊢
    split at hn
    · rename_i h4
      rw [if_pos h4] at hz hst' ⊢
      cases opn with
      | nil => cases hn
      | cons o r =>
        simp only at hn
        split at hn
        · rename_i h3
          refine .inr ⟨nil3 _ hn, t.turn h.j (by omega) hz (fun b r' ho => ?_)⟩
          have := h.j.c.alts 0 b (by rw [ho]; rfl)
          have := this.2 (by simp [h3])
          exact Option.isSome_iff_exists.1 this
        · cases hn
    · rename_i h4
      rw [if_neg h4] at hz hst' ⊢
      split at hn
      · rename_i h5
        rw [if_pos h5] at hz hst' ⊢
        cases opn with
        | nil =>
          simp only at hn
          split at hn
          · rename_i he
            obtain ⟨b, r, ho, hb⟩ := h.j.cons
            refine .inl ⟨he, t.final h.j ?_ hz (by simpa using hlen)⟩
            have h1 : s.leave.1.st = b.res.reverse ++ s.closes.1.st := by
              unfold Ck.leave
              rw [s.closes_opn, ho]
            have h2 := s.closes_len
            have h3 := (h.j.c.res b (by rw [ho]; simp)).1
            rw [h1]
            simp only [List.length_append, List.length_reverse]
            omega
          · cases hn
        | cons o r =>
          simp only at hn
          refine .inr ⟨nil3 _ hn, t.leave h.j (hst' (nil3 _ hn)) hz (by simp at hlen; omega)⟩
      · rename_i h5
        rw [if_neg h5] at hz hst' ⊢
        have hne := nil3 _ hn
        refine .inr ⟨hne, ?_⟩
        by_cases h6 : c.op = 6 ∨ c.op = 7
        · rw [if_pos h6] at hz hst' ⊢
          exact t.branch h.j c.op h6 _ hz (hst' hne)
        · rw [if_neg h6] at hz hst' ⊢
          by_cases h8 : c.op = 8
          · rw [if_pos h8] at hz hst' ⊢
            refine t.table h.j c.tab (by omega) ?_ (well_tab hw h8) hz
            intro e
            unfold well at hw
            rw [if_pos h8, e] at hw
            simp at hw
          · rw [if_neg h8] at hz hst' ⊢
            exact t.plain hE h.j c hw (hst' hne) hz

/-- an accepted body is typed -/
theorem typed_at (hE : EnvTy E) (hrl : ∀ u ∈ E.funs, u.results.length ≤ 1) (hm : E.me.results.length ≤ 1) (code : List Ins) (hl : code.length ≤ 24) (hn : nestR code [] = 0) :
    ∀ (k : Nat) (s : Ck), stateAt E code k = some s → (k < code.length → ∃ T, TN E s T) ∧ (k = code.length → ∃ T, FinT E s.code T)
  | 0, s, h => by
    simp [stateAt] at h
    subst h
    refine ⟨fun _ => ⟨_, TN.start hE.res⟩, fun e => ?_⟩
    have : code = [] := List.eq_nil_of_length_eq_zero e.symm
    subst this
    cases hn
  | k + 1, s, h => by
    simp only [stateAt] at h
    split at h
    · rename_i s0 c hs hc
      split at h
      · rename_i h0
        simp at h
        subst h
        have hlt : k < code.length := (List.getElem?_eq_some_iff.1 hc).1
        have hcc : code[k] = c := (List.getElem?_eq_some_iff.1 hc).2
        obtain ⟨opn, i1, i2, i3⟩ := (inv_at hrl hm code hl hn k s0 hs).1 hlt
        rw [List.drop_eq_getElem_cons hlt, hcc] at i1
        obtain ⟨T, hT⟩ := (typed_at hE hrl hm code hl hn k s0 hs).1 hlt
        rcases hT.step hE hrl i3 (by omega) i2 c _ i1 h0 with ⟨e, hf⟩ | ⟨e, hf⟩
        · have hkl : k + 1 = code.length := by
            have := congrArg List.length e
            simp at this; omega
          exact ⟨fun h => by omega, fun _ => hf⟩
        · have hkl : k + 1 < code.length := by
            have : ¬ code.length ≤ k + 1 := fun hle => e (List.drop_eq_nil_of_le hle)
            omega
          exact ⟨fun _ => hf, fun h => by omega⟩
      · cases h
    · cases h
end Go.Proofs.Qxb6500575aGreatDoor
