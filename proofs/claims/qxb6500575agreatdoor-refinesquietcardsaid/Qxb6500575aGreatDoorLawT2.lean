/-
  THE TYPING of the flat code: stacks, a plain emission. No program.
-/
import Derived.Test.Qxb6500575aGreatDoorLawT1
namespace Go.Proofs.Qxb6500575aGreatDoor
open Go Go.RowKit
set_option linter.unusedVariables false
set_option linter.unusedSimpArgs false

variable {X : Nat → Prop} {E : Env} {s : Ck} {T : Typing}
theorem cut_app {h : Nat} {x y : List UInt8} (hl : h ≤ y.length) : cut h (x ++ y) = cut h y := by
  unfold cut
  rw [List.length_append, show x.length + y.length - h = x.length + (y.length - h) by omega, List.drop_append, List.drop_eq_nil_of_le (by omega), List.nil_append, show x.length + (y.length - h) - x.length = y.length - h by omega]
theorem cut_all (y : List UInt8) : cut y.length y = y := by simp [cut]
theorem cut_all' {h : Nat} {y : List UInt8} (e : y.length = h) : cut h y = y := by rw [← e]; exact cut_all y
theorem cut_cut {h n : Nat} {y : List UInt8} (h1 : h ≤ n) (h2 : n ≤ y.length) : cut h (cut n y) = cut h y := by
  unfold cut
  rw [List.drop_drop, List.length_drop]
  congr 1
  omega
theorem cut_suffix (h : Nat) (y : List UInt8) : ∃ x, y = x ++ cut h y := ⟨y.take (y.length - h), by simp [cut]⟩
theorem popsR_suffix : ∀ (l : List UInt8) (s : Ck), ∃ x, s.st = x ++ (Ck.popsR l s).1.st
  | [], s => ⟨[], rfl⟩
  | t :: l, s => by
    have h1 : ∃ x, s.st = x ++ (s.pop t).1.st := by
      unfold Ck.pop
      split
      · exact ⟨[], rfl⟩
      · split
        · exact ⟨[], rfl⟩
        · split
          · exact ⟨[], rfl⟩
          · rename_i e
            split
            · exact ⟨[_], e⟩
            · exact ⟨[_], e⟩
    obtain ⟨x, hx⟩ := h1
    unfold Ck.popsR
    split
    · obtain ⟨y, hy⟩ := popsR_suffix l (s.pop t).1
      exact ⟨x ++ y, by rw [hx, List.append_assoc, ← hy]⟩
    · exact ⟨x, hx⟩
theorem pops_suffix (s : Ck) (l : List UInt8) : ∃ x, s.st = x ++ (s.pops l).1.st := popsR_suffix _ _
theorem pop_suffix (s : Ck) (t : UInt8) : ∃ x, s.st = x ++ (s.pop t).1.st := by
  unfold Ck.pop
  split
  · exact ⟨[], rfl⟩
  · split
    · exact ⟨[], rfl⟩
    · split
      · exact ⟨[], rfl⟩
      · rename_i e
        split
        · exact ⟨[_], e⟩
        · exact ⟨[_], e⟩
theorem Ty.ne0 {t : UInt8} (h : Ty t) : t ≠ 0 := by rcases h with rfl | rfl <;> decide
theorem pop_live {b : Blk} {r : List Blk} (ho : s.opn = b :: r) (hd : b.dead = false) (ht : TyL s.st) (t : UInt8) (hz : (s.pop t).2.2 = true) : ∃ u, s.st = u :: (s.pop t).1.st ∧ (s.pop t).2.1 = u ∧ (t = 0 ∨ u = t) ∧ Ty u := by
  unfold Ck.pop at hz ⊢
  rw [ho] at hz ⊢
  simp only at hz ⊢
  split
  · rename_i h; rw [if_pos h] at hz; simp [hd] at hz
  · rename_i h
    rw [if_neg h] at hz
    cases hs : s.st with
    | nil => rw [hs] at hz; simp at hz
    | cons u st' =>
      rw [hs] at hz
      have hu := ht u (by rw [hs]; simp)
      simp only [hu.ne0, if_false] at hz ⊢
      simp at hz
      exact ⟨u, rfl, rfl, hz, hu⟩
theorem popsR_live : ∀ (l : List UInt8) (s : Ck) {b : Blk} {r : List Blk}, s.opn = b :: r → b.dead = false → TyL s.st → TyL l → (Ck.popsR l s).2 = 0 → s.st = l ++ (Ck.popsR l s).1.st
  | [], s, b, r, _, _, _, _, _ => rfl
  | t :: l, s, b, r, ho, hd, ht, hl, hz => by
    unfold Ck.popsR at hz ⊢
    split
    · rename_i h
      rw [if_pos h] at hz
      obtain ⟨u, e1, e2, e3, e4⟩ := pop_live ho hd ht t h
      have h3 : u = t := by
        rcases e3 with e | e
        · exact absurd e (hl t (by simp)).ne0
        · exact e
      have ih := popsR_live l (s.pop t).1 (b := b) (r := r) (by rw [s.pop_opn]; exact ho) hd (fun x hx => ht x (by rw [e1]; simp [hx])) (fun x hx => hl x (by simp [hx])) hz
      rw [e1, h3, List.cons_append, ← ih]
    · rename_i h
      rw [if_neg h] at hz
      cases hz
theorem pops_live {b : Blk} {r : List Blk} (ho : s.opn = b :: r) (hd : b.dead = false) (ht : TyL s.st) {l : List UInt8} (hl : TyL l) (hz : (s.pops l).2 = 0) : s.st = l.reverse ++ (s.pops l).1.st :=
  popsR_live _ s ho hd ht (fun x hx => hl x (by simpa using hx)) hz
theorem TyL.append {a b : List UInt8} (ha : TyL a) (hb : TyL b) : TyL (a ++ b) := fun x hx => by
  rcases List.mem_append.1 hx with h | h
  · exact ha x h
  · exact hb x h
theorem TyL.left {a b : List UInt8} (h : TyL (a ++ b)) : TyL a := fun x hx => h x (by simp [hx])
theorem TyL.right {a b : List UInt8} (h : TyL (a ++ b)) : TyL b := fun x hx => h x (by simp [hx])
theorem TyL.reverse {a : List UInt8} (h : TyL a) : TyL a.reverse := fun x hx => h x (by simpa using hx)

/-- TI, and the type of the place to come -/
structure TN (E : Env) (s : Ck) (T : Typing) : Prop where
  ti : TI (fun _ => False) E s T
  now : T s.code.length = Now s
theorem TN.live (h : TN E s T) (ha : alive s.opn = true) : T s.code.length = some s.st ∧ TyL s.st ∧ s.st.length ≤ 24 := by
  have h1 := h.now
  unfold Now at h1
  rw [if_pos ha] at h1
  exact ⟨h1, h.ti.ty _ _ h1⟩
theorem TN.dead (h : TN E s T) (ha : ¬ alive s.opn = true) : T s.code.length = none := by
  have h1 := h.now
  unfold Now at h1
  rw [if_neg ha] at h1
  exact h1

/-- a change of the stack that leaves every block's floor -/
def Floors (s : Ck) (st' : List UInt8) : Prop := ∀ b ∈ s.opn, cut b.height st' = cut b.height s.st
theorem floors_of {opn : List Int} {ks : List Kd} (hj : J opn s ks) {b : Blk} {r : List Blk} (ho : s.opn = b :: r) {x y z : List UInt8} (e : s.st = x ++ y) (hl : b.height ≤ y.length) : Floors s (z ++ y) := by
  intro b' hb'
  have hh := hj.h
  rw [ho] at hh hb'
  have hle : b'.height ≤ y.length := by
    rcases List.mem_cons.1 hb' with rfl | h1
    · exact hl
    · have := Hts.le hh.2 b' h1; omega
  rw [e, cut_app hle, cut_app hle]

/-- a plain emission: the stack changes above the floor, the top block may die, one instruction is laid -/
theorem TN.emit {opn : List Int} {ks : List Kd} (hj : J opn s ks) (h : TN E s T) (s1 : Ck) (hc1 : s1.code = s.code) (hf : Floors s s1.st)
    (hopn : s1.opn = s.opn ∨ ∃ b r, s.opn = b :: r ∧ s1.opn = { b with dead := true } :: r) (c : Flat) (hty : alive s.opn = true → alive s1.opn = true → TyL s1.st ∧ s1.st.length ≤ 24)
    (hn : ∀ (G : Nat → Int → List UInt8 → Prop) (T' : Typing) (code' : List Flat), alive s.opn = true → (alive s1.opn = true → T' (s.code.length + 1) = some s1.st) → InsOk E G T' code' s.code.length c s.st) :
    ∃ T', TN E { s1 with code := s1.code ++ [c] } T' := by
  have hal : alive s1.opn = true → alive s.opn = true := fun ha => by
    rcases hopn with e | ⟨b, r, e1, e2⟩
    · rw [← e]; exact ha
    · rw [e2, alive_cons] at ha; simp at ha
  have hpend : ∀ a, Pend s.opn a → a < s.code.length := fun a ha => hj.c.pend_lt ha
  have h1 := h.ti.push (fun a ha => .inl (hpend a ha)) (fun b hb hm => by have := hpend s.code.length ⟨b, hb, by unfold Blk.pd; simp [hm]⟩; omega) c s.opn (Now { s1 with code := s1.code ++ [c] }) rfl
    (fun l b hb => ⟨b, hb, rfl, rfl, rfl, rfl, rfl, rfl, .inl rfl⟩)
    (fun τ hτ => by
      unfold Now at hτ
      split at hτ
      · rename_i ha
        simp at hτ; subst hτ
        exact hty (hal ha) ha
      · cases hτ)
    (fun b hb ha => by have := hpend s.code.length ⟨b, hb, by unfold Blk.pd; simp [ha]⟩; omega)
    (fun τ _ hτ => by
      by_cases ha : alive s.opn = true
      · have := (h.live ha).1
        rw [this] at hτ
        simp at hτ; subst hτ
        refine hn _ _ _ ha (fun ha1 => ?_)
        rw [upd_same]
        unfold Now
        rw [if_pos ha1]
      · rw [h.dead ha] at hτ; cases hτ)
  have h2 := h1.restack s1.st hf
  simp only at h2
  have hnow : ∀ opn', opn' = s1.opn → upd T (s.code.length + 1) (Now { s1 with code := s1.code ++ [c] }) (s1.code ++ [c]).length = Now { st := s1.st, opn := opn', code := s1.code ++ [c] } := by
    rintro _ rfl
    rw [show (s1.code ++ [c]).length = s.code.length + 1 by simp [hc1], upd_same]
  rcases hopn with e | ⟨b, r, e1, e2⟩
  · refine ⟨_, ⟨?_, hnow _ rfl⟩⟩
    have e' : ({ s1 with code := s1.code ++ [c] } : Ck) = { st := s1.st, opn := s.opn, code := s.code ++ [c] } := by simp only [e, hc1]
    rw [e']
    rw [← e'] at h2 ⊢
    exact h2
  · have h3 := TI.kill (b := b) (r := r) (by exact e1) h2 true
    refine ⟨_, ⟨?_, hnow _ rfl⟩⟩
    have e' : ({ s1 with code := s1.code ++ [c] } : Ck) = { st := s1.st, opn := { b with dead := true } :: r, code := s.code ++ [c] } := by simp only [e2, hc1]
    simp only [e'] at h3 ⊢
    exact h3
end Go.Proofs.Qxb6500575aGreatDoor
