/-
  THE WALK of comp: a name's slot.
-/
import Derived.Test.Qxb6500574aGreatDoorWCm6
namespace Go.Proofs.Qxb6500574aGreatDoor
open Go Go.RowKit
set_option linter.unusedVariables false
set_option linter.unusedSimpArgs false
open Go.Lib
theorem slotL_none {l : List Bs} {s : Bs} (h : ∀ (j : Nat) v, l[j]? = some v → v ≠ s) : slotL l s = none := by
  unfold slotL
  have : l.reverse.findIdx? (fun w => w == s) = none := by
    rw [List.findIdx?_eq_none_iff]
    intro v hv
    obtain ⟨j, hj⟩ := List.mem_iff_getElem?.1 (List.mem_reverse.1 hv)
    simpa using h j v hj
  rw [this]
  rfl
theorem slotL_some {l : List Bs} {s : Bs} {i : Nat} (h : l[i]? = some s) (g : ∀ (j : Nat) v, i < j → l[j]? = some v → v ≠ s) : slotL l s = some i := by
  have hi := (List.getElem?_eq_some_iff.1 h).1
  unfold slotL
  have : l.reverse.findIdx? (fun w => w == s) = some (l.length - 1 - i) := by
    rw [List.findIdx?_eq_some_iff_getElem]
    refine ⟨by rw [List.length_reverse]; omega, ?_, fun j hj => ?_⟩
    · rw [List.getElem_reverse]
      have : l.length - 1 - (l.length - 1 - i) = i := by omega
      simp only [this]
      rw [(List.getElem?_eq_some_iff.1 h).2]
      simp
    · rw [List.getElem_reverse]
      have := g (l.length - 1 - j) (l[l.length - 1 - j]'(by omega)) (by omega) (by simp)
      simpa using this
  rw [this]
  simp only [Option.map_some, Option.some.injEq]
  omega
def slotI : Option Nat → Int
  | some k => k
  | none => -1
section
set_option maxRecDepth 100000
set_option maxHeartbeats 1000000
variable {w : World} {o : Nat → Nat} {C : CC} {N : List Nd} {c : CmD} {x : Nat}
theorem slot_any (R : CRep w o C N c) (hx : x < c.np) (s : Bs) (hl : (c.fn x).locals.length ≤ 1000) :
    Calls Tryz.prog 273 #[fptr C.gF x, sv s] w fun e w' => e = .returned (.int .i64 (slotI (slotL (c.fn x).locals s))) ∧ w' = w := by
  obtain ⟨xs, L, F⟩ := R.fn hx
  have c3 := F.cell 3 (by omega)
  have hlt := F.lt
  have HR : Hid (Row w o (labF x 0) 9 1 L.lo (c.fn x).locals.length ((c.fn x).locals.flatMap nmV)) := F.one.lo
  simp only [fnV, List.getElem?_cons_succ, List.getElem?_cons_zero, Sl.v] at c3
  generalize (c.fn x).locals = l at *
  obtain ⟨n, HN⟩ : ∃ n : Nat, Hid (l.length = n) := ⟨_, rfl⟩
  obtain ⟨Q, HQ⟩ : ∃ Q, Hid (slotI (slotL l s) = Q) := ⟨_, rfl⟩
  rw [HN.out] at c3 hl HR
  rw [HQ.out]
  clear F R
  unfold fptr
  go_enter Tryz.func273, Tryz.ntmps273
  go_wp2_with fail
  go_loopw [5] (fun a wr => ∃ (k : Nat), k ≤ n ∧ a = .int .i64 ((k : Int) - 1) ∧ (∀ (j : Nat) v, k ≤ j → l[j]? = some v → v ≠ s) ∧ wr = w) (fun a _ => (intOf a + 1).toNat)
  case atStart => exact ⟨n, Nat.le_refl _, rfl, (fun j v h1 h2 => by have := (List.getElem?_eq_some_iff.1 h2).1; have := HN.out; omega), rfl⟩
  case round =>
    obtain ⟨k, hk, rfl, hR, rfl⟩ := hrel
    have HRR : Hid (∀ (j : Nat) v, k ≤ j → l[j]? = some v → v ≠ s) := hR
    clear hR
    by_cases h0 : k = 0
    · have e1 : decide ((0 : Int) ≤ (k : Int) - 1) = false := by simp; omega
      have HF : Hid (Q = -1) := by
        show _ = _
        rw [← HQ.out, slotL_none (fun j v h => HRR.out j v (by omega) h)]
        rfl
      clear HR
      go_wp2_with fail
      go_ret
      exact ⟨by rw [HF.out]; rfl, rfl⟩
    · obtain ⟨i, rfl⟩ : ∃ i, k = i + 1 := ⟨k - 1, by omega⟩
      have ei : ((i + 1 : Nat) : Int) - 1 = i := by omega
      rw [ei]
      obtain ⟨v, hv⟩ : ∃ v, l[i]? = some v := ⟨_, List.getElem?_eq_getElem (by rw [HN.out]; omega)⟩
      obtain ⟨g1, a1, a2, a3, a4, a5, a6⟩ := HR.out.cells (by omega)
      have cv : wr.cell? ⟨g1, i, none⟩ = some (sv v) := by
        rw [a5 i (by omega)]
        have := flatMap_at nmV 1 nmV_len l i 0 v hv (by omega)
        simpa [nmV] using this
      rw [a1] at c3
      clear a3 a5 a6 a1
      by_cases he : v = s
      · subst he
        have HF : Hid (Q = i) := by
          show _ = _
          rw [← HQ.out, slotL_some hv (fun j v h => HRR.out j v (by omega))]
          rfl
        clear hv
        go_wp2_with fail
        go_ret
        exact ⟨by rw [HF.out]; rfl, rfl⟩
      · have hb : (v == s) = false := by simpa using he
        have HV : Hid (l[i]? = some v) := hv
        clear hv
        go_wp2_with fail
        refine ⟨⟨i, by omega, rfl, ?_, trivial⟩, by simp [intOf]⟩
        intro j u h1 h2
        by_cases e : j = i
        · subst e
          rw [HV.out] at h2
          cases h2
          exact he
        · exact HRR.out j u (by omega) h2
end
end Go.Proofs.Qxb6500574aGreatDoor
