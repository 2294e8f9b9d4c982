/-
  THE TYPING of the flat code: the table. No program.
-/
import Derived.Test.Qxb6500575aGreatDoorLawT4
namespace Go.Proofs.Qxb6500575aGreatDoor
open Go Go.RowKit
set_option linter.unusedVariables false
set_option linter.unusedSimpArgs false

variable {X : Nat → Prop} {E : Env} {s : Ck} {T : Typing} {opn : List Int} {ks : List Kd}
theorem alive_map {bs bs' : List Blk} (h : bs.map (·.dead) = bs'.map (·.dead)) : alive bs = alive bs' := by
  simp only [alive]
  have e1 : ∀ bs : List Blk, (bs.all fun b => !b.dead) = (bs.map (·.dead)).all (fun d => !d) := by intro bs; simp [List.all_map, Function.comp_def]
  rw [e1, e1, h]
/-- a jump leaves all of each block but its waiting list -/
theorem jump_opn (s : Ck) (op : Int) (l : Nat) : (s.jump op l).1.opn.map (·.dead) = s.opn.map (·.dead) ∧ (s.jump op l).1.opn.map (·.height) = s.opn.map (·.height) ∧ (s.jump op l).1.opn.map (·.carry) = s.opn.map (·.carry) ∧ (s.jump op l).1.st = s.st := by
  unfold Ck.jump
  split
  · exact ⟨rfl, rfl, rfl, rfl⟩
  · rename_i b hb
    simp only
    split
    · exact ⟨map_set_same _ _ _ _ { b with wait := b.wait ++ [s.code.length] } hb rfl, map_set_same _ _ _ _ { b with wait := b.wait ++ [s.code.length] } hb rfl, map_set_same _ _ _ _ { b with wait := b.wait ++ [s.code.length] } hb rfl, trivial⟩
    · exact ⟨rfl, rfl, rfl, trivial⟩
def stepJ (d : List UInt8) (p : Ck × Bool) (t : UInt8) : Ck × Bool := ((p.1.jump 6 t.toNat).1, p.2 && (p.1.jump 6 t.toNat).2 == d)
theorem foldJ_true (d : List UInt8) : ∀ (tab : List UInt8) (s : Ck) (q : Bool), (tab.foldl (stepJ d) (s, q)).2 = true → q = true
  | [], s, q, h => h
  | t :: tab, s, q, h => by
    have := foldJ_true d tab _ _ h
    simp at this
    exact this.1
theorem TI.jumps (d ρ x0 : List UInt8) (v : Option (List UInt8)) (hv : ∀ τ, v = some τ → TyL τ ∧ τ.length ≤ 24 ∧ τ = d.reverse ++ ρ) : ∀ (tab : List UInt8) (s : Ck) (ks : List Kd) (T : Typing) (q : Bool), tab ≠ [] → J opn s ks → s.st.length ≤ 24 → TI X E s T → (∀ a, s.code.length ≤ a → ¬ X a) → T s.code.length = v →
    (v ≠ none → alive s.opn = true) → s.st = x0 ++ ρ → (v ≠ none → ∀ b ∈ s.opn, b.height ≤ ρ.length) → (∀ t ∈ tab, t.toNat < s.opn.length) → (tab.foldl (stepJ d) (s, q)).2 = true →
    ∃ T', TI X E (tab.foldl (stepJ d) (s, q)).1 T' ∧ T' (s.code.length + tab.length) = none ∧ (∀ x, x ≤ s.code.length → T' x = T x) ∧ (∀ k τ, k < tab.length → v = some τ → T' (s.code.length + k) = some τ) ∧
      (∀ k, k < tab.length → ∃ e : Flat, (tab.foldl (stepJ d) (s, q)).1.code[s.code.length + k]? = some e ∧ e.op = 6) ∧ (∀ (a : Nat) (c : Flat), s.code[a]? = some c → (tab.foldl (stepJ d) (s, q)).1.code[a]? = some c) ∧
      (tab.foldl (stepJ d) (s, q)).1.st = s.st ∧ (tab.foldl (stepJ d) (s, q)).1.opn.map (·.dead) = s.opn.map (·.dead) ∧ (tab.foldl (stepJ d) (s, q)).1.opn.map (·.height) = s.opn.map (·.height)
  | [], _, _, _, _, h, _, _, _, _, _, _, _, _, _, _ => absurd rfl h
  | t :: tab, s, ks, T, q, _, hj, hst, h, hX, hT, hva, hsx, hhb, htl, hq => by
    simp only [List.foldl_cons] at hq ⊢
    obtain ⟨b, hb⟩ : ∃ b, s.opn[t.toNat]? = some b := ⟨_, List.getElem?_eq_getElem (htl t (by simp))⟩
    have hbm := List.mem_of_getElem? hb
    have hpl : ∀ a, Pend s.opn a → a < s.code.length := fun a ha => hj.c.pend_lt ha
    have hcar : b.carry = d := by
      have := foldJ_true d tab _ _ hq
      simp at this
      have h2 := this.2
      unfold Ck.jump at h2
      rw [hb] at h2
      exact h2
    obtain ⟨j1, j2, j3, j4, j5⟩ := hj.jump hst 6 t.toNat (htl t (by simp))
    obtain ⟨m1, m2, m3, m4⟩ := jump_opn s 6 t.toNat
    have e1 : stepJ d (s, q) t = ((s.jump 6 t.toNat).1, q && (s.jump 6 t.toNat).2 == d) := rfl
    have hcode1 : ∀ (a : Nat) (c : Flat), s.code[a]? = some c → (s.jump 6 t.toNat).1.code[a]? = some c := by
      intro a c hc
      unfold Ck.jump
      rw [hb]
      simp only
      rw [List.getElem?_append_left (List.getElem?_eq_some_iff.1 hc).1]; exact hc
    have hnew : ∃ e : Flat, (s.jump 6 t.toNat).1.code[s.code.length]? = some e ∧ e.op = 6 := by
      unfold Ck.jump
      rw [hb]
      exact ⟨_, by simp only; rw [List.getElem?_append_right (Nat.le_refl _)]; simp; rfl, rfl⟩
    by_cases hnil : tab = []
    · subst hnil
      have t1 := h.jump hpl 6 (.inl rfl) t.toNat b hb none (fun τ e => by cases e) (d.reverse ++ ρ) (fun τ hτ => by
        rw [hT] at hτ
        refine ⟨hva (by rw [hτ]; simp), fun _ => (hv τ hτ).2.2, fun e => by omega, x0, ρ, hsx, hhb (by rw [hτ]; simp) b hbm, by rw [hcar]⟩)
      simp only [List.foldl_nil]
      rw [e1] at hq ⊢
      refine ⟨_, t1, ?_, fun x hx => ?_, fun k τ hk hvv => ?_, fun k hk => ?_, hcode1, m4, m1, m2⟩
      · simp [upd_same]
      · rw [upd_ne _ _ (by omega)]
      · simp at hk
        subst hk
        rw [upd_ne _ _ (by omega), Nat.add_zero, hT]; exact hvv
      · simp at hk
        subst hk
        exact hnew
    · have t1 := h.jump hpl 6 (.inl rfl) t.toNat b hb v (fun τ e => ⟨(hv τ e).1, (hv τ e).2.1⟩) (d.reverse ++ ρ) (fun τ hτ => by
        rw [hT] at hτ
        refine ⟨hva (by rw [hτ]; simp), fun _ => (hv τ hτ).2.2, fun e => by omega, x0, ρ, hsx, hhb (by rw [hτ]; simp) b hbm, by rw [hcar]⟩)
      have hmono : ∀ x ρ, T x = some ρ → upd T (s.code.length + 1) v x = some ρ := fun x ρ hx => by
        have := h.dom x ρ hx
        rw [upd_ne _ _ (by omega)]; exact hx
      obtain ⟨T', r1, r2, r3, r4, r5, r6, r7, r8, r9⟩ := TI.jumps d ρ x0 v hv tab (s.jump 6 t.toNat).1 (ks ++ [⟨2, 6, 0⟩]) (upd T (s.code.length + 1) v) (q && (s.jump 6 t.toNat).2 == d) hnil j1 (by rw [j2]; exact hst) t1
        (fun a ha => hX a (by omega)) (by rw [j4, upd_same]) (fun hn => by rw [alive_map m1]; exact hva hn) (by rw [m4]; exact hsx) (fun hn y hy => by
          obtain ⟨i, hi⟩ := List.mem_iff_getElem?.1 hy
          have := congrArg (fun l => l[i]?) m2
          simp only [List.getElem?_map, hi, Option.map_some] at this
          cases hs : s.opn[i]? with
          | none => rw [hs] at this; cases this
          | some z =>
            rw [hs] at this
            simp at this
            rw [this]
            exact hhb hn z (List.mem_of_getElem? hs)) (fun u hu => by rw [j3]; exact htl u (by simp [hu])) hq
      rw [j4] at r2 r4 r5
      refine ⟨T', r1, by rw [← r2]; congr 1; simp; omega, fun x hx => by rw [r3 x (by omega), upd_ne _ _ (by omega)], fun k τ hk hvv => ?_, fun k hk => ?_, fun a c hc => r6 a c (hcode1 a c hc), by rw [← m4]; exact r7, r8.trans m1, r9.trans m2⟩
      · cases k with
        | zero =>
          rw [Nat.add_zero]
          rw [r3 _ (by omega), upd_ne _ _ (by omega), hT, hvv]
        | succ k =>
          rw [show s.code.length + (k + 1) = s.code.length + 1 + k by omega]
          exact r4 k τ (by simp at hk; omega) hvv
      · cases k with
        | zero =>
          obtain ⟨e, h1, h2⟩ := hnew
          exact ⟨e, by rw [Nat.add_zero]; exact r6 _ _ h1, h2⟩
        | succ k =>
          rw [show s.code.length + (k + 1) = s.code.length + 1 + k by omega]
          exact r5 k (by simp at hk; omega)

theorem TN.table (hj : J opn s ks) (h : TN E s T) (tab : List UInt8) (hs : s.st.length ≤ 24) (hne : tab ≠ []) (hl5 : tab.length ≤ 5) (hz : (s.table tab).2 = 0) : ∃ T', TN E (s.table tab).1 T' := by
  obtain ⟨b, r, ho, hb⟩ := hj.cons
  have hpl : ∀ a, Pend s.opn a → a < s.code.length := fun a ha => hj.c.pend_lt ha
  unfold Ck.table at hz ⊢
  by_cases hany : tab.any (fun t => decide (s.opn.length ≤ t.toNat)) = true
  · rw [if_pos hany] at hz; cases hz
  rw [if_neg hany] at hz ⊢
  simp only at hz ⊢
  have htl : ∀ t ∈ tab, t.toNat < s.opn.length := by
    intro t ht
    simp only [List.any_eq_true, decide_eq_true_eq, not_exists, not_and] at hany
    have := hany t ht
    omega
  obtain ⟨d, hd⟩ : ∃ d, d = s.def_ tab := ⟨_, rfl⟩
  rw [← hd] at hz ⊢
  obtain ⟨s1, hs1⟩ : ∃ s1 : Ck, s1 = { s with code := s.code ++ [{ op := 8, imm := (tab.length : Int) - 1, keep := 0, cut := 0 }] } := ⟨_, rfl⟩
  rw [← hs1] at hz ⊢
  have ej : s1.jumps d tab = tab.foldl (stepJ d) (s1, true) := rfl
  have hj1 : J opn s1 (ks ++ [⟨0, 8, (tab.length : Int) - 1⟩]) := by rw [hs1]; exact hj.emit 8 _
  have hjj := J.jumps d tab s1 _ true hj1 (by rw [hs1]; exact hs) (by rw [hs1]; exact htl)
  have hq : (s1.jumps d tab).2 = true := by
    cases hq : (s1.jumps d tab).2 with
    | true => rfl
    | false => rw [hq] at hz; simp at hz
  rw [hq] at hz
  simp only [if_true] at hz
  -- the type of the entries
  have hdty : TyL d := by
    rw [hd]
    unfold Ck.def_
    split
    · intro x hx; cases hx
    · rename_i t ht
      have hres := h.ti.res t (List.mem_of_getElem? ht)
      by_cases hn : t.head < 0
      · rw [hres.2.1 hn]; exact hres.1
      · rw [hres.2.2 (by omega)]; intro x hx; cases hx
  obtain ⟨s2, hs2⟩ : ∃ s2, s2 = (s1.jumps d tab).1 := ⟨_, rfl⟩
  rw [← hs2] at hz ⊢
  have hst2 : s2.st = s.st := by rw [hs2, ej]; have := hjj.2.1; rw [hs1] at this ⊢; exact this
  -- the top block behind the jumps
  have hmaps : s2.opn.map (·.dead) = s.opn.map (·.dead) ∧ s2.opn.map (·.height) = s.opn.map (·.height) := by
    rw [hs2, ej]
    have gen : ∀ (tab : List UInt8) (s : Ck) (q : Bool), (tab.foldl (stepJ d) (s, q)).1.opn.map (·.dead) = s.opn.map (·.dead) ∧ (tab.foldl (stepJ d) (s, q)).1.opn.map (·.height) = s.opn.map (·.height) := by
      intro tab
      induction tab with
      | nil => intro s q; exact ⟨rfl, rfl⟩
      | cons t tab ih =>
        intro s q
        obtain ⟨m1, m2, _, _⟩ := jump_opn s 6 t.toNat
        simp only [List.foldl_cons]
        obtain ⟨i1, i2⟩ := ih (stepJ d (s, q) t).1 (stepJ d (s, q) t).2
        exact ⟨i1.trans m1, i2.trans m2⟩
    have := gen tab s1 true
    rw [hs1] at this ⊢
    exact this
  obtain ⟨b2, r2, ho2, hh2, hd2⟩ : ∃ b2 r2, s2.opn = b2 :: r2 ∧ b2.height = b.height ∧ b2.dead = b.dead := by
    have h1 := hmaps.1
    have h2 := hmaps.2
    rw [ho] at h1 h2
    cases ho2 : s2.opn with
    | nil => rw [ho2] at h1; simp at h1
    | cons b2 r2 =>
      rw [ho2] at h1 h2
      simp at h1 h2
      exact ⟨b2, r2, rfl, h2.1, h1.1⟩
  have hb2 : b2.height ≤ s2.st.length := by rw [hst2, hh2]; exact hb
  have key : alive s.opn = true → s.st = 105 :: (d.reverse ++ (s2.pops (d ++ [105])).1.st) := fun ha => by
    have hl := h.live ha
    rw [leaves_form ho2 hb2] at hz
    have := pops_live (l := d ++ [105]) ho2 (by rw [hd2]; exact alive_top ho ha) (by rw [hst2]; exact hl.2.1) (hdty.append (by intro x hx; simp at hx; subst hx; exact .inl rfl)) hz
    rw [hst2] at this
    simpa using this
  obtain ⟨x0, hx0⟩ := pops_suffix s2 (d ++ [105])
  rw [hst2] at hx0
  have hfl := (Ck.pops_top ⟨ho2, hb2⟩ (d ++ [105])).fl
  obtain ⟨ρ, hρ⟩ : ∃ ρ, ρ = (s2.pops (d ++ [105])).1.st := ⟨_, rfl⟩
  rw [← hρ] at key hx0 hfl
  obtain ⟨v, hv⟩ : ∃ v : Option (List UInt8), v = if alive s.opn then some (d.reverse ++ ρ) else none := ⟨_, rfl⟩
  have hvt : ∀ τ, v = some τ → alive s.opn = true ∧ τ = d.reverse ++ ρ ∧ TyL τ ∧ τ.length ≤ 24 := fun τ hτ => by
    rw [hv] at hτ
    split at hτ
    · rename_i ha
      simp at hτ; subst hτ
      have hl := h.live ha
      rw [key ha] at hl
      exact ⟨ha, rfl, fun x hx => hl.2.1 x (List.mem_cons_of_mem _ hx), by have := hl.2.2; simp at this ⊢; omega⟩
    · cases hτ
  have hval : v ≠ none → alive s.opn = true := fun hn => by
    rw [hv] at hn
    split at hn
    · assumption
    · exact absurd rfl hn
  have hweak : TI (fun a => a = s.code.length) E s T := { h.ti with ok := fun a c τ _ hc hτ => h.ti.ok a c τ (fun f => f) hc hτ }
  have t1 := hweak.push (fun a ha => .inl (hpl a ha)) (fun y hy hm => by have := hpl s.code.length ⟨y, hy, by unfold Blk.pd; simp [hm]⟩; omega) { op := 8, imm := (tab.length : Int) - 1, keep := 0, cut := 0 } s.opn v rfl
    (fun l y hy => ⟨y, hy, rfl, rfl, rfl, rfl, rfl, rfl, .inl rfl⟩) (fun τ hτ => ⟨(hvt τ hτ).2.2.1, (hvt τ hτ).2.2.2⟩) (fun y hy ha => by have := hpl s.code.length ⟨y, hy, by unfold Blk.pd; simp [ha]⟩; omega) (fun τ hx _ => absurd rfl hx)
  have es1 : ({ st := s.st, opn := s.opn, code := s.code ++ [{ op := 8, imm := (tab.length : Int) - 1, keep := 0, cut := 0 }] } : Ck) = s1 := by rw [hs1]
  rw [es1] at t1
  have hcl1 : s1.code.length = s.code.length + 1 := by rw [hs1]; simp
  obtain ⟨T', r1, r2', r3, r4, r5, r6, r7, r8, r9⟩ := TI.jumps (opn := opn) d ρ x0 v (fun τ hτ => ⟨(hvt τ hτ).2.2.1, (hvt τ hτ).2.2.2, (hvt τ hτ).2.1⟩) tab s1 _ (upd T (s.code.length + 1) v) true hne hj1 (by rw [hs1]; exact hs) t1 (fun a ha e => by omega) (by rw [hcl1, upd_same])
    (fun hn => by rw [hs1]; exact hval hn) (by rw [hs1]; exact hx0) (fun hn y hy => by
      rw [hs1] at hy
      have hh := hj.h
      simp only at hy
      rw [ho] at hh hy
      have : y.height ≤ b.height := by
        rcases List.mem_cons.1 hy with rfl | h1
        · exact Nat.le_refl _
        · exact Hts.le hh.2 y h1
      omega) (by rw [hs1]; exact htl) (by rw [← ej]; exact hq)
  rw [← ej, ← hs2] at r1 r5 r6 r7 r8 r9
  have hmono : ∀ x ρ, T x = some ρ → upd T (s.code.length + 1) v x = some ρ := fun x ρ hx => by
    have := h.ti.dom x ρ hx
    rw [upd_ne _ _ (by omega)]; exact hx
  have hc8 : s2.code[s.code.length]? = some { op := 8, imm := (tab.length : Int) - 1, keep := 0, cut := 0 } := by
    refine r6 _ _ ?_
    rw [hs1]; simp
  have hlen2 : s2.code.length = s.code.length + 1 + tab.length := by
    have := hjj.2.2
    rw [hs2, ej]
    rw [hcl1] at this
    exact this
  -- the table itself
  have full : TI (fun _ => False) E s2 T' := by
    refine { r1 with ok := ?_ }
    intro a c τ _ hc hτ
    · by_cases ha : a = s.code.length
      · subst ha
        rw [hc8] at hc
        simp at hc; subst hc
        by_cases hal : alive s.opn = true
        · have hT0 : T' s.code.length = some s.st := by rw [r3 _ (by omega), upd_ne _ _ (by omega)]; exact (h.live hal).1
          rw [hT0] at hτ
          simp at hτ; subst hτ
          have hvs : v = some (d.reverse ++ ρ) := by rw [hv, if_pos hal]
          refine ⟨?_, ?_, ?_, ?_, ?_, ?_, fun _ => ⟨d.reverse ++ ρ, key hal, ?_, fun k hk => ?_⟩, ?_, ?_, ?_, ?_, ?_, ?_, ?_⟩
          case refine_7 =>
            have : tab.length ≠ 0 := fun e => hne (List.eq_nil_of_length_eq_zero e)
            simp only; omega
          case refine_8 =>
            simp only at hk
            obtain ⟨e, e1, e2⟩ := r5 k (by omega)
            rw [hcl1] at e1
            refine ⟨e, e1, e2, ?_⟩
            have := r4 k _ (by omega) hvs
            rw [hcl1] at this
            exact this
          all_goals simp only; intro e; omega
        · exfalso
          rw [r3 _ (by omega), upd_ne _ _ (by omega), h.dead hal] at hτ
          cases hτ
      · exact r1.ok a c τ ha hc hτ
  rw [leaves_form ho2 hb2]
  have t3 := full.restack (cut b2.height s2.st) (fun y hy => by
    obtain ⟨i, hi⟩ := List.mem_iff_getElem?.1 hy
    have := congrArg (fun l => l[i]?) r9
    simp only [List.getElem?_map, hi, Option.map_some] at this
    rw [hs1] at this
    simp only at this
    cases hsi : s.opn[i]? with
    | none => rw [hsi] at this; cases this
    | some z =>
      rw [hsi] at this
      simp at this
      rw [this, hst2, hh2]
      exact cut_floors hj ho hb z (List.mem_of_getElem? hsi))
  have t4 := TI.kill (b := b2) (by exact ho2) t3 true
  refine ⟨T', ⟨t4, ?_⟩⟩
  simp only
  rw [hlen2]
  rw [hcl1] at r2'
  rw [r2']
  simp [Now, alive_cons]
end Go.Proofs.Qxb6500575aGreatDoor
