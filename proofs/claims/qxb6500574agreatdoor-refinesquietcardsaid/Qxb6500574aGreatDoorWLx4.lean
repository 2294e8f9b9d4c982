/-
  THE WALK of the parser layer: scan: its ground.
-/
import Derived.Test.Qxb6500574aGreatDoorWLx3
import Derived.Test.Qxb6500574aGreatDoorWScan
import Derived.Test.Qxb6500574aGreatDoorVApp
import Derived.Lib.OthersKept
namespace Go.Proofs.Qxb6500574aGreatDoor
open Go Go.RowKit
set_option linter.unusedVariables false
set_option linter.unusedSimpArgs false
open Go.Lib
/-- a token's cells -/
def tokC (t : Tok) : List Value := [.int .i64 t.k, .int .i64 t.p, sv t.s, .int .u64 t.n, .int .i64 t.e]
theorem tokC_len (t : Tok) : (tokC t).length = 5 := rfl
theorem tokC_one (t : Tok) : ∀ u ∈ tokC t, u.oneCell' = true := by
  intro u hu
  simp [tokC] at hu
  rcases hu with h | h | h | h | h <;> subst h <;> rfl
theorem row_toks : IsRow Tryz.prog 79 132 (.agg #[.int .i64 0, .int .i64 0, sv [], .int .u64 0, .int .i64 0]) 5 48 := ⟨by kernel_rfl, by kernel_rfl, rfl, by decide⟩
/-- a package-level list of texts; its blocks bear the label 1039 -/
structure TabL (w : World) (o : Nat → Nat) (g : Nat) (l : List Bs) : Prop where
  ex : ∃ b j c, w.cell? ⟨g, 0, none⟩ = some (.slice (some ⟨b, j, none⟩) l.length c) ∧ g < w.heap.size ∧ b < w.heap.size ∧ o g = 1039 ∧ o b = 1039 ∧ ∀ i x, l[i]? = some x → w.cell? ⟨b, j + i, none⟩ = some (sv x)
theorem TabL.tab {w : World} {o : Nat → Nat} {g : Nat} {l : List Bs} (h : TabL w o g l) : StrTab w g l := by
  obtain ⟨b, j, c, h1, h2, h3, _, _, h4⟩ := h.ex
  exact ⟨b, j, c, h1, h2, h3, h4⟩
theorem Stp.cellQ {Q : Nat → Prop} {w w1 : World} {o o1 : Nat → Nat} (s : Stp Q w o w1 o1) {b : Nat} (hb : b < w.heap.size) (hq : ¬ Q (o b)) (i : Nat) : w1.cell? ⟨b, i, none⟩ = w.cell? ⟨b, i, none⟩ := by
  unfold World.cell?
  simp only [s.fr.block b hb hq]
theorem TabL.st {Q : Nat → Prop} {w w1 : World} {o o1 : Nat → Nat} {g : Nat} {l : List Bs} (h : TabL w o g l) (s : Stp Q w o w1 o1) (hq : ¬ Q 1039) : TabL w1 o1 g l := by
  obtain ⟨b, j, c, h1, h2, h3, h4, h5, h6⟩ := h.ex
  have hs := s.fr.size
  refine ⟨b, j, c, ?_, by omega, by omega, (s.ext g h2).trans h4, (s.ext b h3).trans h5, fun i x hx => ?_⟩
  · rw [s.cellQ h2 (by rw [h4]; exact hq)]; exact h1
  · rw [s.cellQ h3 (by rw [h5]; exact hq)]; exact h6 i x hx
/-- the iterator goes on -/
theorem iter_st {w : World} {o : Nat → Nat} {k : Nat} {s : ByteArray} {q : Nat} (ho : o k = 1045) (p : Nat) : Stp (fun l => l = 1045) w o (w.iterAt k s p) o := by
  refine ⟨⟨rfl, rfl, rfl, by rw [iterAt_size]; exact Nat.le_refl _, fun j hj hn => iterAt_other w k j s p fun e => ?_⟩, fun _ _ => rfl, fun x j hj => x j (by rw [iterAt_size] at hj; exact hj)⟩
  subst e
  exact hn ho
/-! ### runes -/
theorem get_lt (s : Bs) {i : Nat} {c : UInt8} (h : s[i]? = some c) : (⟨s.toArray⟩ : ByteArray).get! i = c := by
  obtain ⟨h1, h2⟩ := List.getElem?_eq_some_iff.1 h
  simp [ByteArray.get!, h1, h2]
/-- a rune of several bytes covers no ASCII byte -/
theorem decode_cont (s : ByteArray) (pos k : Nat) (hk : 0 < k) (h2 : k < (Utf8.decode s pos).2) : pos + k < s.size ∧ 128 ≤ (s.get! (pos + k)).toNat := by
  unfold Utf8.decode at h2
  simp only at h2
  have key : ∀ j, (decide (pos + j < s.size) && ((s.get! (pos + j)).toNat / 64 == 2)) = true → pos + j < s.size ∧ 128 ≤ (s.get! (pos + j)).toNat := by
    intro j hj
    simp only [Bool.and_eq_true, decide_eq_true_eq, beq_iff_eq] at hj
    exact ⟨hj.1, by omega⟩
  split at h2
  · simp at h2; omega
  · split at h2
    · rename_i hc
      simp only [Bool.and_eq_true] at hc
      split at h2
      · simp at h2
        have : k = 1 := by omega
        subst this
        exact key 1 (by simp only [Bool.and_eq_true]; exact hc.2)
      · simp at h2; omega
    · split at h2
      · rename_i hc
        simp only [Bool.and_eq_true] at hc
        split at h2
        · simp at h2
          have : k = 1 ∨ k = 2 := by omega
          rcases this with rfl | rfl
          · exact key 1 (by simp only [Bool.and_eq_true]; exact hc.1.2)
          · exact key 2 (by simp only [Bool.and_eq_true]; exact hc.2)
        · simp at h2; omega
      · split at h2
        · rename_i hc
          simp only [Bool.and_eq_true] at hc
          split at h2
          · simp at h2
            have : k = 1 ∨ k = 2 ∨ k = 3 := by omega
            rcases this with rfl | rfl | rfl
            · exact key 1 (by simp only [Bool.and_eq_true]; exact hc.1.1.2)
            · exact key 2 (by simp only [Bool.and_eq_true]; exact hc.1.2)
            · exact key 3 (by simp only [Bool.and_eq_true]; exact hc.2)
          · simp at h2; omega
        · simp at h2; omega
/-- a place at which a rune begins -/
def Bd (s : Bs) (e : Nat) : Prop := s.length ≤ e ∨ e = 0 ∨ (∃ c, 1 ≤ e ∧ s[e - 1]? = some c ∧ c.toNat < 128) ∨ (∃ c, s[e]? = some c ∧ c.toNat < 128)
theorem Bd.step {s : Bs} {q e : Nat} (h : Bd s e) (hq : q < e) (he : e ≤ s.length) : q + (Utf8.decode ⟨s.toArray⟩ q).2 ≤ e ∨ s.length ≤ e := by
  refine Decidable.byContradiction fun hn => ?_
  have h1 : ¬ q + (Utf8.decode ⟨s.toArray⟩ q).2 ≤ e := fun x => hn (.inl x)
  have h2 : ¬ s.length ≤ e := fun x => hn (.inr x)
  have hk := decode_cont ⟨s.toArray⟩ q (e - q) (by omega) (by omega)
  rw [show q + (e - q) = e by omega] at hk
  rcases h with h | h | ⟨c, hc1, hc2, hc3⟩ | ⟨c, hc2, hc3⟩
  · exact h2 h
  · omega
  · by_cases e1 : q = e - 1
    · have hw : 1 < (Utf8.decode ⟨s.toArray⟩ q).2 := by omega
      have hlt : q < (⟨s.toArray⟩ : ByteArray).size := by show q < s.toArray.size; simp; omega
      have hb : ((⟨s.toArray⟩ : ByteArray)[q]'hlt).toNat < 128 := by
        have : (⟨s.toArray⟩ : ByteArray)[q]'hlt = c := by
          rw [← e1] at hc2
          exact (List.getElem?_eq_some_iff.1 hc2).2
        rw [this]; exact hc3
      rw [decode_ascii _ q hlt hb] at hw
      simp at hw
    · have hk2 := decode_cont ⟨s.toArray⟩ q (e - 1 - q) (by omega) (by omega)
      rw [show q + (e - 1 - q) = e - 1 by omega, get_lt s hc2] at hk2
      omega
  · rw [get_lt s hc2] at hk
    omega
end Go.Proofs.Qxb6500574aGreatDoor
