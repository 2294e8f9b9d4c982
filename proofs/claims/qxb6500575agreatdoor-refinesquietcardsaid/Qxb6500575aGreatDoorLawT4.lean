/-
  THE TYPING of the flat code: blocks and branches. No program.
-/
import Derived.Test.Qxb6500575aGreatDoorLawT3
namespace Go.Proofs.Qxb6500575aGreatDoor
open Go Go.RowKit
set_option linter.unusedVariables false
set_option linter.unusedSimpArgs false

variable {X : Nat → Prop} {E : Env} {s : Ck} {T : Typing} {opn : List Int} {ks : List Kd}
/-- a new block at the top -/
theorem TI.open (h : TI X E s T) (b : Blk) (hw : b.wait = []) (hal : ∀ a, b.alt = some a → a = s.code.length ∧ (T a ≠ none → alive s.opn = true)) (hne : s.opn ≠ [])
    (hh : alive s.opn = true → 0 ≤ b.head → T b.head.toNat = some (cut b.height s.st)) (hty : alive s.opn = true → TyL (cut b.height s.st))
    (hr : TyL b.res ∧ (b.head < 0 → b.carry = b.res) ∧ (0 ≤ b.head → b.carry = [])) : TI X E { s with opn := b :: s.opn } T := by
  refine { h with ok := fun a c τ hx0 hc hτ => ?_, head := fun l x hx ha h0 => ?_, tyb := fun l x hx ha => ?_, wl := fun l x hx a ha ht => ?_, pk := fun x hx a ha c hc => ?_, res := fun x hx => ?_, last := fun x hx => ?_ }
  · have hlt : a < s.code.length := (List.getElem?_eq_some_iff.1 hc).1
    refine (h.ok a c τ hx0 hc hτ).mono (fun _ _ => id) (fun x e he => ⟨e, he, rfl⟩) rfl rfl rfl (.inl rfl) (fun ρ g => ⟨fun x hx hw' => ?_, fun x hx hw' => ?_, fun hp => g.free (fun hp' => hp ?_)⟩)
    · rcases List.mem_cons.1 hx with rfl | hx
      · rw [hw] at hw'; cases hw'
      · exact g.wait x hx hw'
    · rcases List.mem_cons.1 hx with rfl | hx
      · have := (hal a hw').1; omega
      · exact g.alt x hx hw'
    · obtain ⟨x, hx, hp'⟩ := hp'
      exact ⟨x, by simp [hx], hp'⟩
  · cases l with
    | zero => simp at hx; subst hx; exact hh (by simpa using ha) h0
    | succ l => exact h.head l x (by simpa using hx) (by simpa using ha) h0
  · cases l with
    | zero => simp at hx; subst hx; exact hty (by simpa using ha)
    | succ l => exact h.tyb l x (by simpa using hx) (by simpa using ha)
  · cases l with
    | zero =>
      simp at hx; subst hx
      rw [hw] at ha
      simp at ha
      simpa using (hal a ha).2 ht
    | succ l => simpa using h.wl l x (by simpa using hx) a ha ht
  · rcases List.mem_cons.1 hx with rfl | hx
    · rw [hw] at ha
      simp at ha
      have := (hal a ha).1
      subst this
      simp only at hc
      rw [List.getElem?_eq_none (Nat.le_refl _)] at hc
      cases hc
    · exact h.pk x hx a ha c hc
  · rcases List.mem_cons.1 hx with rfl | hx
    · exact hr
    · exact h.res x hx
  · refine h.last x ?_
    cases ho : s.opn with
    | nil => exact absurd ho hne
    | cons y r => simp only [ho] at hx; simpa using hx

theorem resOf_ty {c : Ins} (hw : well c = true) (h : c.op = 1 ∨ c.op = 2 ∨ c.op = 3) : TyL (resOf c.imm) := by
  have hi : c.imm = 0 ∨ c.imm = 105 ∨ c.imm = 108 := by
    unfold well at hw
    rw [if_neg (by omega)] at hw
    split at hw
    · cases hw
    · simp at hw
      rcases hw with (h | h) | h
      · exact .inl h
      · exact .inr (.inl h)
      · exact .inr (.inr h)
  intro x hx
  unfold resOf at hx
  rcases hi with e | e | e
  · rw [e] at hx; simp at hx
  · rw [e] at hx; simp at hx; left; exact hx
  · rw [e] at hx; simp at hx; right; exact hx

theorem TN.enter (hj : J opn s ks) (h : TN E s T) (c : Ins) (hw : well c = true) (hc : c.op = 1 ∨ c.op = 2 ∨ c.op = 3) (hz : (s.enter c).2 = 0) : ∃ T', TN E (s.enter c).1 T' := by
  obtain ⟨b, r, ho, hb⟩ := hj.cons
  have hne : s.opn ≠ [] := by rw [ho]; simp
  have hty := resOf_ty hw hc
  unfold Ck.enter at hz ⊢
  by_cases h2 : c.op = 2
  · simp only [h2, if_true] at hz ⊢
    refine ⟨T, ⟨h.ti.open _ rfl (fun a ha => by cases ha) hne (fun ha h0 => ?_) (fun ha => ?_) ⟨hty, fun hn => ?_, fun _ => rfl⟩, ?_⟩⟩
    · simp only [cut_all]
      simpa using (h.live ha).1
    · simp only [cut_all]; exact (h.live ha).2.1
    · simp only at hn; omega
    · have := h.now
      simp only [Now] at this
      simp only [Now, alive_cons]
      simpa using this
  · rw [if_neg h2] at hz ⊢
    by_cases h3 : c.op = 3
    · rw [if_pos h3] at hz ⊢
      simp only at hz ⊢
      obtain ⟨x, hx⟩ := pops_suffix s [105]
      have hf := pops_floors hj [105] []
      have key : alive s.opn = true → s.st = 105 :: (s.pops [105]).1.st := fun ha => by
        have := pops_live (l := [105]) ho (alive_top ho ha) (h.live ha).2.1 (by intro x hx; simp at hx; subst hx; exact .inl rfl) hz
        simpa using this
      have hpl : ∀ a, Pend s.opn a → a < s.code.length := fun a ha => hj.c.pend_lt ha
      generalize s.pops [105] = p at *
      obtain ⟨s1, e1⟩ := p
      simp only at *
      obtain ⟨bn, hbn⟩ : ∃ bn : Blk, bn = { res := resOf c.imm, carry := resOf c.imm, height := s1.st.length, head := -1, dead := false, alt := some s.code.length, wait := [] } := ⟨_, rfl⟩
      have hcut : cut bn.height s.st = s1.st := by rw [hbn, hx]; simp only; rw [cut_app (Nat.le_refl _), cut_all]
      have t1 := h.ti.open bn (by rw [hbn]) (fun a ha => by
          rw [hbn] at ha; simp at ha; subst ha
          refine ⟨rfl, fun ht => ?_⟩
          by_cases ha : alive s.opn = true
          · exact ha
          · exact absurd (h.dead ha) ht) hne (fun _ h0 => by rw [hbn] at h0; simp at h0) (fun ha => by
          rw [hcut]
          have := (h.live ha).2.1
          rw [hx] at this
          exact this.right) (by rw [hbn]; exact ⟨hty, fun _ => rfl, fun h0 => by simp at h0⟩)
      have hal1 : alive (bn :: s.opn) = alive s.opn := by rw [alive_cons, hbn]; simp
      have t2 := t1.push (fun a ha => ?_) (fun y hy hm => ?_) { op := 3, imm := -1, keep := 0, cut := 0 } (bn :: s.opn) (if alive s.opn then some s1.st else none) rfl (fun l y hy => ⟨y, hy, rfl, rfl, rfl, rfl, rfl, rfl, .inl rfl⟩) (fun τ hτ => ?_) (fun y hy ha => rfl) (fun τ _ hτ => ?_)
      · have t3 := t2.restack s1.st (fun y hy => ?_)
        · refine ⟨upd T (s.code.length + 1) (if alive s.opn then some s1.st else none), ⟨?_, ?_⟩⟩
          · rw [← hbn]; exact t3
          · simp only [List.length_append, List.length_singleton]
            rw [upd_same]
            simp only [Now]
            rw [← hbn, hal1]
        · rcases List.mem_cons.1 hy with rfl | hy
          · simp only; rw [hcut, hbn]; simp only; rw [cut_all]
          · exact hf y hy
      · obtain ⟨y, hy, hp⟩ := ha
        simp only at hy
        rcases List.mem_cons.1 hy with rfl | hy
        · unfold Blk.pd at hp
          rw [hbn] at hp
          simp at hp
          exact .inr hp
        · exact .inl (hpl a ⟨y, hy, hp⟩)
      · rcases List.mem_cons.1 hy with rfl | hy
        · rw [hbn] at hm; cases hm
        · have := hpl s.code.length ⟨y, hy, by unfold Blk.pd; simp at hm ⊢; exact .inl hm⟩; omega
      · split at hτ
        · rename_i ha
          simp at hτ; subst hτ
          obtain ⟨_, l2, l3⟩ := h.live ha
          rw [key ha] at l2 l3
          exact ⟨fun x hx => l2 x (by simp [hx]), by simp at l3; omega⟩
        · cases hτ
      · simp only at hτ ⊢
        by_cases ha : alive s.opn = true
        · have := (h.live ha).1
          rw [this] at hτ
          simp at hτ; subst hτ
          have hg : Goes (bn :: s.opn) s.st (upd T (s.code.length + 1) (if alive s.opn then some s1.st else none)) s.code.length (-1) s1.st := by
            refine ⟨fun y hy hm => ?_, fun y hy hm => ?_, fun hp => ?_⟩
            · rcases List.mem_cons.1 hy with rfl | hy
              · rw [hbn] at hm; cases hm
              · have := hpl s.code.length ⟨y, hy, by unfold Blk.pd; simp [hm]⟩; omega
            · rcases List.mem_cons.1 hy with rfl | hy
              · exact hcut.symm
              · have := hpl s.code.length ⟨y, hy, by unfold Blk.pd; simp [hm]⟩; omega
            · exact absurd ⟨bn, by simp, by unfold Blk.pd; rw [hbn]; simp⟩ hp
          refine ⟨fun _ => ⟨_, key ha, by rw [upd_same, if_pos ha], hg⟩, ?_, fun _ => .inl rfl, ?_, ?_, ?_, ?_, ?_, ?_, ?_, ?_, ?_, ?_, ?_⟩ <;> simp only <;> intro e <;> omega
        · rw [h.dead ha] at hτ; cases hτ
    · rw [if_neg h3] at hz ⊢
      refine ⟨T, ⟨h.ti.open _ rfl (fun a ha => by cases ha) hne (fun ha h0 => ?_) (fun ha => ?_) ⟨hty, fun _ => rfl, fun h0 => ?_⟩, ?_⟩⟩
      · simp at h0
      · simp only [cut_all]; exact (h.live ha).2.1
      · simp at h0
      · have := h.now
        simp only [Now] at this
        simp only [Now, alive_cons]
        simpa using this

/-- a jump is laid -/
theorem TI.jump (h : TI X E s T) (hpl : ∀ a, Pend s.opn a → a < s.code.length) (op : Int) (hop : op = 6 ∨ op = 7) (l : Nat) (b : Blk) (hb : s.opn[l]? = some b) (v : Option (List UInt8)) (hv : ∀ τ, v = some τ → TyL τ ∧ τ.length ≤ 24)
    (τ' : List UInt8) (hτ : ∀ τ, T s.code.length = some τ → alive s.opn = true ∧ (op = 6 → τ = τ') ∧ (op = 7 → τ = 105 :: τ' ∧ v = some τ') ∧ ∃ x ρ, s.st = x ++ ρ ∧ b.height ≤ ρ.length ∧ τ' = b.carry.reverse ++ ρ) :
    TI X E (s.jump op l).1 (upd T (s.code.length + 1) v) := by
  have hll : l < s.opn.length := (List.getElem?_eq_some_iff.1 hb).1
  have hbm := List.mem_of_getElem? hb
  have hnw : ∀ y ∈ s.opn, s.code.length ∉ y.wait := fun y hy hm => by have := hpl s.code.length ⟨y, hy, by unfold Blk.pd; simp [hm]⟩; omega
  have hna : ∀ y ∈ s.opn, y.alt = some s.code.length → False := fun y hy hm => by have := hpl s.code.length ⟨y, hy, by unfold Blk.pd; simp [hm]⟩; omega
  have e0 : (s.jump op l).1 = { s with code := s.code ++ [{ op := op, imm := b.head, keep := b.carry.length, cut := b.height }], opn := if b.head < 0 then s.opn.set l { b with wait := b.wait ++ [s.code.length] } else s.opn } := by
    unfold Ck.jump; rw [hb]
  rw [e0]
  have hres := h.res b hbm
  refine h.push (fun a ha => .inl (hpl a ha)) hnw _ _ v (by split <;> simp) (fun i y hy => ?_) hv (fun y hy ha => (hna y hy ha).elim) (fun τ _ ht => ?_)
  · by_cases hneg : b.head < 0
    · rw [if_pos hneg] at hy
      by_cases hil : i = l
      · subst hil
        rw [List.getElem?_set_self hll] at hy
        simp at hy; subst hy
        refine ⟨b, hb, rfl, rfl, rfl, rfl, rfl, rfl, .inr ⟨rfl, ?_, fun hne => ?_⟩⟩
        · rcases hop with e | e
          · exact .inr (.inl e)
          · exact .inr (.inr e)
        · cases hT : T s.code.length with
          | none => exact absurd hT hne
          | some τ => exact alive_drop (hτ τ hT).1 _
      · rw [List.getElem?_set_ne (fun e => hil e.symm)] at hy
        exact ⟨y, hy, rfl, rfl, rfl, rfl, rfl, rfl, .inl rfl⟩
    · rw [if_neg hneg] at hy
      exact ⟨y, hy, rfl, rfl, rfl, rfl, rfl, rfl, .inl rfl⟩
  · obtain ⟨ha, h6, h7, x, ρ, e1, e2, e3⟩ := hτ τ ht
    have hg : ∀ T', (∀ x ρ, T x = some ρ → T' x = some ρ) → Goes (if b.head < 0 then s.opn.set l { b with wait := b.wait ++ [s.code.length] } else s.opn) s.st T' s.code.length b.head (b.carry.reverse ++ cut b.height ρ) := by
      intro T' hT'
      have hcut : cut b.height ρ = cut b.height s.st := by rw [e1, cut_app e2]
      by_cases hneg : b.head < 0
      · rw [if_pos hneg]
        have hcr := hres.2.1 hneg
        refine ⟨fun y hy hm => ?_, fun y hy hm => ?_, fun hp => ?_⟩
        · rcases mem_set_or hy with h1 | h1
          · exact absurd hm (hnw y h1)
          · rw [h1, hcr]; simp only; rw [hcut]
        · rcases mem_set_or hy with h1 | h1
          · exact (hna y h1 hm).elim
          · rw [h1] at hm; exact (hna b hbm hm).elim
        · refine absurd ⟨{ b with wait := b.wait ++ [s.code.length] }, List.mem_iff_getElem?.2 ⟨l, by rw [List.getElem?_set_self hll]⟩, ?_⟩ hp
          unfold Blk.pd
          simp
      · rw [if_neg hneg, hres.2.2 (by omega)]
        refine ⟨fun y hy hm => absurd hm (hnw y hy), fun y hy hm => (hna y hy hm).elim, fun hp => ⟨by omega, ?_⟩⟩
        rw [hcut]
        exact hT' _ _ (h.head l b hb (alive_drop ha _) (by omega))
    have hT' : ∀ x ρ, T x = some ρ → upd T (s.code.length + 1) v x = some ρ := fun x ρ hx => by
      have := h.dom x ρ hx
      rw [upd_ne _ _ (by omega)]; exact hx
    have hjk : JumpOk (Goes (if b.head < 0 then s.opn.set l { b with wait := b.wait ++ [s.code.length] } else s.opn) s.st (upd T (s.code.length + 1) v)) s.code.length { op := op, imm := b.head, keep := b.carry.length, cut := b.height } τ' :=
      ⟨b.carry.reverse, ρ, e3, by simp, by simp, by simpa using e2, by simpa using hg _ hT'⟩
    rcases hop with e | e
    · rw [← h6 e] at hjk
      refine ⟨?_, ?_, ?_, ?_, fun _ => hjk, ?_, ?_, ?_, ?_, ?_, ?_, ?_, ?_, ?_⟩ <;> simp only <;> intro e <;> omega
    · refine ⟨?_, ?_, ?_, ?_, ?_, fun _ => ⟨τ', (h7 e).1, by rw [upd_same]; exact (h7 e).2, hjk⟩, ?_, ?_, ?_, ?_, ?_, ?_, ?_, ?_⟩ <;> simp only <;> intro e <;> omega

theorem TN.branch (hj : J opn s ks) (h : TN E s T) (op : Int) (hop : op = 6 ∨ op = 7) (j : Nat) (hz : (s.branch op j).2 = 0) (hlen : (s.branch op j).1.st.length ≤ 24) : ∃ T', TN E (s.branch op j).1 T' := by
  obtain ⟨b, r, ho, hb⟩ := hj.cons
  have hpl : ∀ a, Pend s.opn a → a < s.code.length := fun a ha => hj.c.pend_lt ha
  unfold Ck.branch at hz hlen ⊢
  by_cases hj' : s.opn.length ≤ j
  · rw [if_pos hj'] at hz; cases hz
  rw [if_neg hj'] at hz hlen ⊢
  obtain ⟨t, ht⟩ : ∃ t, s.opn[j]? = some t := ⟨_, List.getElem?_eq_getElem (by omega)⟩
  have htm := List.mem_of_getElem? ht
  have hcar : (s.jump op j).2 = t.carry := by unfold Ck.jump; rw [ht]
  have hst : (s.jump op j).1.st = s.st := by unfold Ck.jump; rw [ht]
  have hcode : (s.jump op j).1.code.length = s.code.length + 1 := by unfold Ck.jump; rw [ht]; simp
  obtain ⟨b2, ho2, hb2, hd2, hh2⟩ : ∃ b2 r2, (s.jump op j).1.opn = b2 :: r2 ∧ b2.height = b.height ∧ b2.dead = b.dead ∧ (∀ y ∈ (s.jump op j).1.opn, ∃ z ∈ s.opn, y.height = z.height) ∧ alive (b2 :: r2) = alive s.opn := by
    unfold Ck.jump
    rw [ht]
    simp only
    split
    · rw [ho]
      cases j with
      | zero =>
        rw [ho] at ht
        simp at ht; subst ht
        refine ⟨_, _, rfl, rfl, rfl, fun y hy => ?_, by simp [alive_cons]⟩
        rcases List.mem_cons.1 hy with rfl | hy
        · exact ⟨b, by simp, rfl⟩
        · exact ⟨y, by simp [hy], rfl⟩
      | succ j =>
        rw [ho] at ht
        simp at ht
        refine ⟨b, _, rfl, rfl, rfl, fun y hy => ?_, ?_⟩
        · rcases List.mem_cons.1 hy with rfl | hy
          · exact ⟨y, by simp, rfl⟩
          · rcases mem_set_or hy with h1 | h1
            · exact ⟨y, by simp [h1], rfl⟩
            · exact ⟨t, by simp [List.mem_of_getElem? ht], by rw [h1]⟩
        · simp only [alive_cons]
          congr 1
          simp only [alive]
          have e1 : ∀ bs : List Blk, (bs.all fun b => !b.dead) = (bs.map (·.dead)).all (fun d => !d) := by intro bs; simp [List.all_map, Function.comp_def]
          rw [e1, e1, map_set_same (fun x : Blk => x.dead) r j t { t with wait := t.wait ++ [s.code.length] } ht rfl]
    · exact ⟨b, r, ho, rfl, rfl, fun y hy => ⟨y, hy, rfl⟩, by rw [ho]⟩
  obtain ⟨hd3, hh3, hal2⟩ := hh2
  have hres := h.ti.res t htm
  have hcty : TyL t.carry := by
    by_cases hn : t.head < 0
    · rw [hres.2.1 hn]; exact hres.1
    · rw [hres.2.2 (by omega)]; intro x hx; cases hx
  have hth : t.height ≤ b.height := by
    have hh := hj.h
    rw [ho] at hh htm
    rcases List.mem_cons.1 htm with rfl | h1
    · exact Nat.le_refl _
    · exact Hts.le hh.2 t h1
  -- pops depends on the stack and on the top block's height and flag alone
  have hfl1 : ∀ (st' : List UInt8), Floors s st' → ∀ y ∈ (s.jump op j).1.opn, cut y.height st' = cut y.height (s.jump op j).1.st := by
    intro st' hf y hy
    obtain ⟨z, hz1, hz2⟩ := hh3 y hy
    rw [hst, hz2]
    exact hf z hz1
  rw [hcar] at hz hlen ⊢
  have hbl : b2.height ≤ (s.jump op j).1.st.length := by rw [hst, hd2]; exact hb
  by_cases h6 : op = 6
  · rw [if_pos h6] at hz hlen ⊢
    rw [leaves_form hb2 hbl] at hz hlen ⊢
    simp only at hz
    have t1 := h.ti.jump hpl op hop j t ht none (fun τ e => by cases e) s.st (fun τ hτ => by
      by_cases ha : alive s.opn = true
      · have hl := h.live ha
        rw [hl.1] at hτ
        simp at hτ; subst hτ
        have := pops_live hb2 (by rw [hd3]; exact alive_top ho ha) (by rw [hst]; exact hl.2.1) hcty hz
        rw [hst] at this
        obtain ⟨_, hx⟩ := pops_suffix (s.jump op j).1 t.carry
        refine ⟨ha, fun _ => rfl, fun e => by omega, t.carry.reverse, _, this, ?_, this⟩
        have := (Ck.pops_top ⟨hb2, hbl⟩ t.carry).fl
        omega
      · rw [h.dead ha] at hτ; cases hτ)
    have t2 := t1.restack (cut b2.height (s.jump op j).1.st) (hfl1 _ (by rw [hst, hd2]; exact cut_floors hj ho hb))
    have t3 := TI.kill (b := b2) (by exact hb2) t2 true
    refine ⟨_, ⟨t3, ?_⟩⟩
    simp only [hcode]
    rw [upd_same]
    simp [Now, alive_cons]
  · rw [if_neg h6] at hz hlen ⊢
    have h7 : op = 7 := by omega
    have key : alive s.opn = true → s.st = 105 :: (t.carry.reverse ++ ((s.jump op j).1.pops (t.carry ++ [105])).1.st) := fun ha => by
      have hl := h.live ha
      have := pops_live (l := t.carry ++ [105]) hb2 (by rw [hd3]; exact alive_top ho ha) (by rw [hst]; exact hl.2.1) (hcty.append (by intro x hx; simp at hx; subst hx; exact .inl rfl)) hz
      rw [hst] at this
      simpa using this
    have t1 := h.ti.jump hpl op hop j t ht (if alive s.opn then some (t.carry.reverse ++ ((s.jump op j).1.pops (t.carry ++ [105])).1.st) else none) (fun τ e => by
      split at e
      · rename_i ha
        simp at e; subst e
        have hl := h.live ha
        rw [key ha] at hl
        exact ⟨fun x hx => hl.2.1 x (List.mem_cons_of_mem _ hx), hlen⟩
      · cases e) (t.carry.reverse ++ ((s.jump op j).1.pops (t.carry ++ [105])).1.st) (fun τ hτ => by
      by_cases ha : alive s.opn = true
      · have hl := h.live ha
        rw [hl.1] at hτ
        simp at hτ; subst hτ
        refine ⟨ha, fun e => by omega, fun _ => ⟨key ha, by rw [if_pos ha]⟩, 105 :: t.carry.reverse, _, by rw [key ha]; simp, ?_, rfl⟩
        have := (Ck.pops_top ⟨hb2, hbl⟩ (t.carry ++ [105])).fl
        omega
      · rw [h.dead ha] at hτ; cases hτ)
    obtain ⟨x, hx⟩ := pops_suffix (s.jump op j).1 (t.carry ++ [105])
    rw [hst] at hx
    have t2 := t1.restack (t.carry.reverse ++ ((s.jump op j).1.pops (t.carry ++ [105])).1.st) (hfl1 _ (floors_of hj ho hx (by have := (Ck.pops_top ⟨hb2, hbl⟩ (t.carry ++ [105])).fl; omega)))
    have hc2 := (s.jump op j).1.pops_code (t.carry ++ [105])
    have ho3 := (s.jump op j).1.pops_opn (t.carry ++ [105])
    have e9 : ((s.jump op j).1.swap (t.carry ++ [105]) t.carry).1 = { (s.jump op j).1 with st := t.carry.reverse ++ ((s.jump op j).1.pops (t.carry ++ [105])).1.st } := by
      unfold Ck.swap
      simp only
      rw [← hc2, ← ho3]
    rw [e9]
    refine ⟨_, ⟨t2, ?_⟩⟩
    simp only [hcode]
    rw [upd_same]
    simp only [Now]
    rw [hb2, hal2]
end Go.Proofs.Qxb6500575aGreatDoor
