/-
  THE TYPING of the flat code: holes filled, the else. No program.
-/
import Derived.Test.Qxb6500575aGreatDoorLawT5
namespace Go.Proofs.Qxb6500575aGreatDoor
open Go Go.RowKit
set_option linter.unusedVariables false
set_option linter.unusedSimpArgs false

variable {E : Env} {s : Ck} {T : Typing} {opn : List Int} {ks : List Kd}
/-- holes are filled -/
theorem TI.patched {b : Blk} {r : List Blk} (h : TI (fun _ => False) E s T) (ho : s.opn = b :: r) (ps : List Nat) (t : Nat) (T' : Typing) (bs' : List Blk)
    (hps : ∀ a ∈ ps, a ∈ b.wait ++ b.alt.toList ∧ a < t)
    (hT : ∀ x ρ, T x = some ρ → T' x = some ρ) (hTn : ∀ x, x < s.code.length → T' x = T x)
    (hgo : ∀ a ∈ ps, T a ≠ none → ∀ τ, (a ∈ b.wait → τ = b.res.reverse ++ cut b.height s.st) → (b.alt = some a → τ = cut b.height s.st) → T' t = some τ)
    (hbs : ∀ x ∈ bs', ∃ y ∈ s.opn, x.res = y.res ∧ x.height = y.height ∧ (∀ a, a ∈ x.wait → a ∈ y.wait) ∧ (∀ a, x.alt = some a → y.alt = some a))
    (hpd : ∀ a, Pend s.opn a → Pend bs' a ∨ a ∈ ps) :
    ∀ (a : Nat) (c : Flat) (τ : List UInt8), (patchAll s.code t ps)[a]? = some c → T' a = some τ → InsOk E (Goes bs' s.st T') T' (patchAll s.code t ps) a c τ := by
  intro a c τ hc hτ
  have hal : a < s.code.length := by
    have := (List.getElem?_eq_some_iff.1 hc).1
    rw [patchAll_len] at this; exact this
  rw [hTn a hal] at hτ
  rw [patchAll_get, List.getElem?_eq_getElem hal] at hc
  simp only [Option.map_some] at hc
  have hc := (Option.some.inj hc).symm
  have hc0 : s.code[a]? = some s.code[a] := List.getElem?_eq_getElem hal
  have hb0 : b ∈ s.opn := by rw [ho]; simp
  refine (h.ok a _ τ (fun f => f) hc0 hτ).mono hT (fun x e he => ?_) ?_ ?_ ?_ ?_ (fun ρ g => ⟨fun x hx hw => ?_, fun x hx hw => ?_, fun hp => ?_⟩)
  · rw [patchAll_get, he]
    refine ⟨_, rfl, ?_⟩
    split <;> rfl
  · rw [hc]; split <;> rfl
  · rw [hc]; split <;> rfl
  · rw [hc]; split <;> rfl
  · by_cases hm : a ∈ ps
    · rw [hc, if_pos hm]
      exact .inr ⟨h.pk b hb0 a (hps a hm).1 _ hc0, by have := (hps a hm).2; simp only; omega⟩
    · rw [hc, if_neg hm]; exact .inl rfl
  · obtain ⟨y, hy, e1, e2, e3, e4⟩ := hbs x hx
    rw [e1, e2]; exact g.wait y hy (e3 a hw)
  · obtain ⟨y, hy, e1, e2, e3, e4⟩ := hbs x hx
    rw [e2]; exact g.alt y hy (e4 a hw)
  · by_cases hm : a ∈ ps
    · rw [hc, if_pos hm]
      have := hgo a hm (by rw [hτ]; simp) ρ (fun hw => g.wait b hb0 hw) (fun hw => g.alt b hb0 hw)
      exact ⟨by simp, by simpa using this⟩
    · rw [hc, if_neg hm]
      obtain ⟨g1, g2⟩ := g.free (fun hp' => by
        rcases hpd a hp' with h1 | h1
        · exact hp h1
        · exact hm h1)
      exact ⟨g1, hT _ _ g2⟩

theorem TN.turn (hj : J opn s ks) (h : TN E s T) (hs24 : s.st.length ≤ 24) (hz : s.turn.2 = 0) (hal : ∀ b r, s.opn = b :: r → ∃ al, b.alt = some al) : ∃ T', TN E s.turn.1 T' := by
  obtain ⟨b, r, ho, hb⟩ := hj.cons
  obtain ⟨al, hal⟩ := hal b r ho
  have hpl : ∀ a, Pend s.opn a → a < s.code.length := fun a ha => hj.c.pend_lt ha
  have hall : al < s.code.length := hpl al ⟨b, by rw [ho]; simp, by unfold Blk.pd; rw [hal]; simp⟩
  have e0 : s.turn = ({ s.closes.1 with code := patchAt (s.closes.1.code ++ [{ op := 4, imm := -1, keep := 0, cut := 0 }]) (b.alt.getD 0) ((s.closes.1.code.length : Int) + 1), opn := { b with wait := b.wait ++ [s.closes.1.code.length], alt := none, dead := false } :: r }, s.closes.2) := by
    unfold Ck.turn
    rw [s.closes_opn, ho]
  rw [e0] at hz ⊢
  simp only at hz ⊢
  obtain ⟨c1, c2, c3⟩ := Ck.closes_ok ho hz
  have hcode := s.closes_code
  obtain ⟨x, hx⟩ := pops_suffix s b.res
  have hcut : cut b.height s.st = (s.pops b.res).1.st := by
    conv => lhs; rw [hx]
    rw [cut_app (by omega), cut_all' c2]
  have hres := h.ti.res b (by rw [ho]; simp)
  have key : alive s.opn = true → s.st = b.res.reverse ++ (s.pops b.res).1.st := fun ha => pops_live ho (alive_top ho ha) (h.live ha).2.1 hres.1 c3
  rw [hcode, c1, hal]
  obtain ⟨st1, hst1⟩ : ∃ st1, st1 = (s.pops b.res).1.st := ⟨_, rfl⟩
  have hst1l : st1.length = b.height := by rw [hst1]; exact c2
  rw [← hst1] at hcut key ⊢
  simp only [Option.getD_some]
  obtain ⟨v, hv⟩ : ∃ v : Option (List UInt8), v = if alive r then some st1 else none := ⟨_, rfl⟩
  have t1 := h.ti.push (fun a ha => .inl (hpl a ha)) (fun y hy hm => by have := hpl s.code.length ⟨y, hy, by unfold Blk.pd; simp [hm]⟩; omega) { op := 4, imm := -1, keep := 0, cut := 0 } ({ b with wait := b.wait ++ [s.code.length] } :: r) v (by rw [ho]; simp)
    (fun l y hy => by
      cases l with
      | zero =>
        simp at hy; subst hy
        refine ⟨b, by rw [ho]; rfl, rfl, rfl, rfl, rfl, rfl, rfl, .inr ⟨rfl, .inl rfl, fun hne => ?_⟩⟩
        by_cases ha : alive s.opn = true
        · exact alive_drop ha _
        · exact absurd (h.dead ha) hne
      | succ l => exact ⟨y, by rw [ho]; simpa using hy, rfl, rfl, rfl, rfl, rfl, rfl, .inl rfl⟩)
    (fun τ hτ => by
      rw [hv] at hτ
      split at hτ
      · rename_i ha
        simp at hτ; subst hτ
        have := h.ti.tyb 0 b (by rw [ho]; rfl) (by rw [ho]; simpa using ha)
        rw [hcut] at this
        exact ⟨this, by omega⟩
      · cases hτ)
    (fun y hy ha => by have := hpl s.code.length ⟨y, hy, by unfold Blk.pd; simp [ha]⟩; omega)
    (fun τ _ hτ => by
      by_cases ha : alive s.opn = true
      · have := (h.live ha).1
        rw [this] at hτ
        simp at hτ; subst hτ
        have hg : Goes ({ b with wait := b.wait ++ [s.code.length] } :: r) s.st (upd T (s.code.length + 1) v) s.code.length (-1) s.st := by
          refine ⟨fun y hy hm => ?_, fun y hy hm => ?_, fun hp => ?_⟩
          · rcases List.mem_cons.1 hy with rfl | hy
            · simp only; rw [hcut]; exact key ha
            · have := hpl s.code.length ⟨y, by rw [ho]; simp [hy], by unfold Blk.pd; simp [hm]⟩; omega
          · rcases List.mem_cons.1 hy with rfl | hy
            · have := hpl s.code.length ⟨b, by rw [ho]; simp, by unfold Blk.pd; simp only at hm; simp [hm]⟩; omega
            · have := hpl s.code.length ⟨y, by rw [ho]; simp [hy], by unfold Blk.pd; simp [hm]⟩; omega
          · exact absurd ⟨_, List.mem_cons_self, by unfold Blk.pd; simp⟩ hp
        refine ⟨?_, fun _ => hg, fun _ => .inl rfl, ?_, ?_, ?_, ?_, ?_, ?_, ?_, ?_, ?_, ?_, ?_⟩ <;> simp only <;> intro e <;> omega
      · rw [h.dead ha] at hτ; cases hτ)
  have hle : ∀ y ∈ s.opn, y.height ≤ b.height := fun y hy => by
    have hh := hj.h
    rw [ho] at hh hy
    rcases List.mem_cons.1 hy with rfl | h1
    · exact Nat.le_refl _
    · exact Hts.le hh.2 y h1
  have t2 := t1.restack st1 (fun y hy => by
    have hyh : y.height ≤ b.height := by
      simp only at hy
      rcases List.mem_cons.1 hy with rfl | hy
      · exact Nat.le_refl _
      · exact hle y (by rw [ho]; simp [hy])
    simp only
    rw [show cut y.height s.st = cut y.height st1 from by rw [hx, ← hst1, cut_app (by omega)]])
  simp only at t2
  have hbc : cut b.height st1 = st1 := cut_all' hst1l
  have hpa : ∀ code : List Flat, patchAt code al ((s.code.length : Int) + 1) = patchAll code ((s.code.length + 1 : Nat) : Int) [al] := fun code => by simp [patchAll]
  have hok := TI.patched (b := { b with wait := b.wait ++ [s.code.length] }) (r := r) t2 rfl [al] (s.code.length + 1) (upd T (s.code.length + 1) v) ({ b with wait := b.wait ++ [s.code.length], alt := none, dead := false } :: r)
    (fun a ha => by
      simp at ha; subst ha
      exact ⟨by simp [hal], by omega⟩)
    (fun _ _ => id) (fun _ _ => rfl)
    (fun a ha hne τ _ h2 => by
      simp at ha; subst ha
      have h2 := h2 hal
      simp only at h2
      rw [hbc] at h2
      rw [upd_same, hv]
      rw [upd_ne _ _ (by omega)] at hne
      have := h.ti.wl 0 b (by rw [ho]; rfl) a (by simp [hal]) hne
      rw [ho] at this
      simp at this
      rw [if_pos this, h2])
    (fun x hx => by
      rcases List.mem_cons.1 hx with rfl | hx
      · exact ⟨_, List.mem_cons_self, rfl, rfl, fun a ha => ha, fun a ha => by cases ha⟩
      · exact ⟨x, by simp [hx], rfl, rfl, fun a ha => ha, fun a ha => ha⟩)
    (fun a ha => by
      obtain ⟨y, hy, hp⟩ := ha
      rcases List.mem_cons.1 hy with rfl | hy
      · unfold Blk.pd at hp
        simp only [hal, List.mem_append] at hp
        rcases hp with hp | hp
        · left; exact ⟨_, List.mem_cons_self, by unfold Blk.pd; simp only [List.mem_append]; exact .inl hp⟩
        · right; simpa using hp
      · left; exact ⟨y, by simp [hy], hp⟩)
  rw [hpa]
  have hl : ∀ (l : Nat) (x : Blk), ({ b with wait := b.wait ++ [s.code.length], alt := none, dead := false } :: r)[l]? = some x → ∃ y : Blk, ({ b with wait := b.wait ++ [s.code.length] } :: r)[l]? = some y ∧ x.res = y.res ∧ x.carry = y.carry ∧ x.height = y.height ∧ x.head = y.head ∧ x.wait = y.wait ∧ (x.alt = y.alt ∨ x.alt = none) := by
    intro l x hx
    cases l with
    | zero => simp at hx; subst hx; exact ⟨_, rfl, rfl, rfl, rfl, rfl, rfl, .inr rfl⟩
    | succ l => simp at hx; exact ⟨x, by simpa using hx, rfl, rfl, rfl, rfl, rfl, .inl rfl⟩
  have hsub : ∀ {x y : Blk}, x.wait = y.wait → (x.alt = y.alt ∨ x.alt = none) → ∀ a ∈ x.wait ++ x.alt.toList, a ∈ y.wait ++ y.alt.toList := by
    intro x y e1 e2 a ha
    rw [e1] at ha
    rcases e2 with e2 | e2
    · rw [e2] at ha; exact ha
    · rw [e2] at ha; simp at ha; simp [ha]
  refine ⟨upd T (s.code.length + 1) v, ⟨?_, ?_⟩⟩
  · refine { zero := t2.zero, dom := fun a τ ha => ?_, ok := fun a c τ _ hc hτ => hok a c τ hc hτ, ty := t2.ty, head := fun l y hy ha h0 => ?_, tyb := fun l y hy ha => ?_, wl := fun l y hy a ha ht => ?_, pk := fun y hy a ha c hc => ?_, res := fun y hy => ?_, last := fun y hy => ?_ }
    · simp only [patchAll_len]; exact t2.dom a τ ha
    · obtain ⟨z, e1, e2, e3, e4, e5, e6, e7⟩ := hl l y hy
      rw [e4, e5]
      exact t2.head l z e1 (by simpa using ha) (by rw [← e5]; exact h0)
    · obtain ⟨z, e1, e2, e3, e4, e5, e6, e7⟩ := hl l y hy
      rw [e4]
      exact t2.tyb l z e1 (by simpa using ha)
    · obtain ⟨z, e1, e2, e3, e4, e5, e6, e7⟩ := hl l y hy
      have := t2.wl l z e1 a (hsub e6 e7 a ha) ht
      simpa using this
    · obtain ⟨l, hyl⟩ := List.mem_iff_getElem?.1 hy
      obtain ⟨z, e1, e2, e3, e4, e5, e6, e7⟩ := hl l y hyl
      simp only [patchAll_get] at hc
      cases hc0 : (s.code ++ [({ op := 4, imm := -1, keep := 0, cut := 0 } : Flat)])[a]? with
      | none => rw [hc0] at hc; cases hc
      | some c0 =>
        rw [hc0] at hc
        simp only [Option.map_some, Option.some.injEq] at hc
        have := t2.pk z (List.mem_of_getElem? e1) a (hsub e6 e7 a ha) c0 hc0
        have hop : c.op = c0.op := by rw [← hc]; split <;> rfl
        rw [hop]; exact this
    · obtain ⟨l, hyl⟩ := List.mem_iff_getElem?.1 hy
      obtain ⟨z, e1, e2, e3, e4, e5, e6, e7⟩ := hl l y hyl
      rw [e2, e3, e5]
      exact t2.res z (List.mem_of_getElem? e1)
    · rw [List.getLast?_eq_getElem?] at hy
      obtain ⟨z, e1, e2, e3, e4, e5, e6, e7⟩ := hl _ y hy
      rw [e4, e2]
      refine t2.last z ?_
      rw [List.getLast?_eq_getElem?]
      simpa using e1
  · simp only [patchAll_len, List.length_append, List.length_singleton]
    rw [upd_same, hv]
    simp only [Now, alive_cons]
    simp
end Go.Proofs.Qxb6500575aGreatDoor
