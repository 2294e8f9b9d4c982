/-
  THE TYPES where the code is live: the plain instructions. No program.
-/
import Derived.Test.Qxb6500575aGreatDoorLawB3
namespace Go.Proofs.Qxb6500575aGreatDoor
open Go Go.RowKit
set_option linter.unusedVariables false
set_option linter.unusedSimpArgs false

section
variable {E : Env} {src : List Ins} {C : List Flat} {i : Nat} {s : Mk} {c : Ins}
theorem mk_plain (hc : c.op = 0 ∨ 9 ≤ c.op) : s.one E src i c = match s.plain E c with | none => (s, 5) | some p => ({ p.1 with code := s.code ++ [⟨c.op, c.imm, 0, 0⟩] }, typedM p.2) := by
  unfold Mk.one
  rw [if_neg (by omega), if_neg (by omega), if_neg (by omega), if_neg (by omega), if_neg (by omega), if_neg (by omega), if_neg (by omega)]
  rfl
theorem plain_ok (h : SF E src i s c) (hc : c.op = 0 ∨ 9 ≤ c.op) : ∃ p, s.plain E c = some p ∧ p.2 = true ∧ (s.one E src i c).1.st = p.1.st ∧ (s.one E src i c).1.cs = p.1.cs := by
  have h0 := h.ok
  rw [mk_plain hc] at h0 ⊢
  cases hp : s.plain E c with
  | none => rw [hp] at h0; simp at h0
  | some p =>
    rw [hp] at h0
    exact ⟨p, rfl, typedM_ok h0, rfl, rfl⟩
theorem live_ret (hb : Body E src C) (h : SF E src i s c) (hl : Live s) (h9 : c.op = 9) : ∃ y, s.st = E.me.results.reverse ++ y := by
  obtain ⟨p, hp, hz, _⟩ := plain_ok h (by omega)
  unfold Mk.plain at hp
  rw [if_neg (by omega), if_pos h9] at hp
  cases hp
  exact ⟨_, hl.pops h.ne hb.ty.res hz⟩
theorem live_call (hb : Body E src C) (h : SF E src i s c) (hl : Live s) (h10 : c.op = 10) : ∃ u y, E.funs[c.imm.toNat]? = some u ∧ s.st = u.params.reverse ++ y ∧ (s.one E src i c).1.st = u.results.reverse ++ y ∧ (s.one E src i c).1.cs = s.cs ∧ Live (s.one E src i c).1 := by
  obtain ⟨p, hp, hz, h1, h2⟩ := plain_ok h (by omega)
  unfold Mk.plain at hp
  rw [if_neg (by omega), if_neg (by omega), if_pos h10] at hp
  split at hp
  · cases hp
  rename_i u hu
  cases hp
  have hum := List.mem_of_getElem? hu
  have e := hl.pops h.ne (hb.ty.ps u hum) hz
  refine ⟨u, (s.pops u.params).1.st, hu, e, h1, h2, ?_, ?_⟩
  · rw [h2]; exact hl.on
  · rw [h1]; exact TyL.app.2 ⟨(hb.ty.rs u hum).rev, hl.low e⟩
theorem live_drop (h : SF E src i s c) (hl : Live s) (h11 : c.op = 11) : ∃ u, s.st = u :: (s.one E src i c).1.st ∧ (s.one E src i c).1.cs = s.cs ∧ Live (s.one E src i c).1 := by
  obtain ⟨p, hp, hz, h1, h2⟩ := plain_ok h (by omega)
  unfold Mk.plain at hp
  rw [if_neg (by omega), if_neg (by omega), if_neg (by omega), if_pos h11] at hp
  cases hp
  obtain ⟨u, e, _⟩ := hl.pop h.ne hz
  rw [← h1] at e
  refine ⟨u, e, h2, ?_, hl.low (x := [u]) e⟩
  rw [h2]; exact hl.on
theorem live_sel (h : SF E src i s c) (hl : Live s) (h12 : c.op = 12) : ∃ u y, s.st = 105 :: u :: u :: y ∧ (s.one E src i c).1.st = u :: y ∧ (s.one E src i c).1.cs = s.cs ∧ Live (s.one E src i c).1 := by
  obtain ⟨p, hp, hz, h1, h2⟩ := plain_ok h (by omega)
  unfold Mk.plain at hp
  rw [if_neg (by omega), if_neg (by omega), if_neg (by omega), if_neg (by omega), if_pos h12] at hp
  cases hp
  unfold Mk.sel at hz h1
  simp only [Bool.and_eq_true] at hz h1
  have e := hl.pops h.ne ty105 hz.1.1
  have l1 : Live (s.pops [105]).1 := ⟨hl.on, hl.low e⟩
  obtain ⟨u, e2, f2, _, t2⟩ := l1.pop h.ne hz.1.2
  have l2 : Live ((s.pops [105]).1.pop 0).1 := ⟨hl.on, l1.low (x := [u]) e2⟩
  obtain ⟨v, e3, f3, g3, t3⟩ := l2.pop h.ne hz.2
  have hvu : v = u := by
    rcases g3 with g3 | g3
    · rw [f2] at g3
      rcases t2 with t2 | t2 <;> rw [t2] at g3 <;> exact absurd g3 (by decide)
    · rw [g3, f2]
  subst hvu
  refine ⟨v, _, by rw [e, e2, e3]; rfl, by rw [h1, f3], h2, ?_, ?_⟩
  · rw [h2]; exact hl.on
  · rw [h1, f3]
    intro x hx
    rcases List.mem_cons.1 hx with rfl | hx
    · exact t3
    · exact l2.low (x := [v]) e3 x hx
theorem live_get (hb : Body E src C) (h : SF E src i s c) (hl : Live s) (h13 : c.op = 13) : ∃ t, (E.me.params ++ E.me.locals)[c.imm.toNat]? = some t ∧ (s.one E src i c).1.st = t :: s.st ∧ (s.one E src i c).1.cs = s.cs ∧ Live (s.one E src i c).1 := by
  obtain ⟨p, hp, hz, h1, h2⟩ := plain_ok h (by omega)
  unfold Mk.plain at hp
  rw [if_neg (by omega), if_neg (by omega), if_neg (by omega), if_neg (by omega), if_neg (by omega), if_pos h13] at hp
  split at hp
  · cases hp
  rename_i t ht
  cases hp
  refine ⟨t, ht, h1, h2, ?_, ?_⟩
  · rw [h2]; exact hl.on
  · rw [h1]
    intro x hx
    rcases List.mem_cons.1 hx with rfl | hx
    · exact hb.ty.loc x (List.mem_of_getElem? ht)
    · exact hl.ty x hx
theorem live_set (hb : Body E src C) (h : SF E src i s c) (hl : Live s) (h14 : c.op = 14) : ∃ t, (E.me.params ++ E.me.locals)[c.imm.toNat]? = some t ∧ s.st = t :: (s.one E src i c).1.st ∧ (s.one E src i c).1.cs = s.cs ∧ Live (s.one E src i c).1 := by
  obtain ⟨p, hp, hz, h1, h2⟩ := plain_ok h (by omega)
  unfold Mk.plain at hp
  rw [if_neg (by omega), if_neg (by omega), if_neg (by omega), if_neg (by omega), if_neg (by omega), if_neg (by omega), if_pos h14] at hp
  split at hp
  · cases hp
  rename_i t ht
  cases hp
  have e := hl.pops h.ne (l := [t]) (fun x hx => by simp at hx; subst hx; exact hb.ty.loc x (List.mem_of_getElem? ht)) hz
  rw [← h1] at e
  refine ⟨t, ht, by simpa using e, h2, ?_, hl.low e⟩
  rw [h2]; exact hl.on
theorem live_sig (h : SF E src i s c) (hl : Live s) (h15 : 15 ≤ c.op) : ∃ y, s.st = (sigM c.op).1.reverse ++ y ∧ (s.one E src i c).1.st = (sigM c.op).2.reverse ++ y ∧ (s.one E src i c).1.cs = s.cs ∧ Live (s.one E src i c).1 := by
  obtain ⟨p, hp, hz, h1, h2⟩ := plain_ok h (by omega)
  unfold Mk.plain at hp
  rw [if_neg (by omega), if_neg (by omega), if_neg (by omega), if_neg (by omega), if_neg (by omega), if_neg (by omega), if_neg (by omega)] at hp
  cases hp
  have e := hl.pops h.ne (sigM_ty c.op).1 hz
  refine ⟨(s.pops (sigM c.op).1).1.st, e, h1, h2, ?_, ?_⟩
  · rw [h2]; exact hl.on
  · rw [h1]; exact TyL.app.2 ⟨(sigM_ty c.op).2.rev, hl.low e⟩
end
end Go.Proofs.Qxb6500575aGreatDoor
