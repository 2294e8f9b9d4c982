/-
  THE WALKS of run: top, cut, jump.
-/
import Derived.Test.Qxb6500575aGreatDoorRPop
import Derived.Test.Qxb6500575aGreatDoorReg2
namespace Go.Proofs.Qxb6500575aGreatDoor
open Go Go.RowKit
set_option linter.unusedVariables false
set_option linter.unusedSimpArgs false

section
variable {bx : Nat} {p k : Value} {L : InL} {x : InD} {w : World}
set_option maxRecDepth 100000
set_option maxHeartbeats 2000000
theorem rtop_any (h : InRep w bx p k L x) {seg rest : List V} (hs : x.st = seg ++ rest) (types : List UInt8) (ht : seg.map V.ty = types.reverse) (low : Nat) (hlow : low ≤ rest.length) (hl : x.st.length ≤ 1000) :
    Calls Tryz.prog 94 #[.pointer (some ⟨bx, 0, none⟩), sv types, .int .i64 low] w fun e w' => e = .returned (.int .i64 rest.length) ∧ w' = w := by
  have htl : types.length = seg.length := by have := congrArg List.length ht; simpa using this.symm
  have hxl : x.st.length = rest.length + types.length := by rw [hs]; simp; omega
  have c2 := h.here.cell 2
  simp at c2
  rw [hxl] at c2
  rcases owns_form h.st with ⟨n1, n2, n3⟩ | ⟨gs, n1, n2⟩
  · have ht0 : types = [] := List.eq_nil_of_length_eq_zero (by omega)
    have hr0 : rest.length = 0 := by omega
    have hl0 : low = 0 := by omega
    subst ht0
    subst hl0
    rw [n1, n3, hr0] at c2
    rw [hr0]
    clear h htl hs ht hxl hl hlow n1 n2 n3 hr0
    simp only [List.length_nil, Nat.add_zero] at c2
    go_enter Tryz.func94, Tryz.ntmps94
    go_wp2
    go_end0
    go_wp2
    go_loopw [24] (fun i wr => i = .int .i64 0 ∧ wr = w) (fun _ _ => 0)
    case atStart => exact ⟨rfl, rfl⟩
    case round =>
      obtain ⟨rfl, rfl⟩ := hrel
      go_wp2
      go_ret
      exact ⟨rfl, rfl⟩
  have HAT : Hid (∀ i, (hi : i < types.length) → ∃ v : V, v.ty = types[i] ∧ w.cell? ⟨gs, rest.length + i, none⟩ = some v.val) := by
    intro i hi
    have hsr : x.st.reverse[rest.length + i]? = seg.reverse[i]? := by
      rw [hs, List.reverse_append, List.getElem?_append_right (by simp)]; simp
    have hm : seg.reverse.map V.ty = types := by rw [List.map_reverse, ht, List.reverse_reverse]
    have hil : i < seg.reverse.length := by simp; omega
    refine ⟨seg.reverse[i], ?_, ?_⟩
    · have := congrArg (fun l => l[i]?) hm
      simp only [List.getElem?_map, List.getElem?_eq_getElem hil, List.getElem?_eq_getElem hi, Option.map_some, Option.some.injEq] at this
      exact this
    · obtain ⟨g, h1, h2, _⟩ := h.stAt (i := rest.length + i) (v := seg.reverse[i]) (by rw [hsr, List.getElem?_eq_getElem hil])
      rw [n1] at h1
      simp at h1
      subst h1
      exact h2
  have m1 := method32
  have m2 := method64
  simp only [String.reduceSingleton, String.reduceAppend] at m1 m2
  have hrl : rest.length ≤ 1000 := by omega
  have htyl : types.length ≤ 1000 := by omega
  rw [n1] at c2
  clear h htl hs ht hxl hl n1 n2
  go_enter Tryz.func94, Tryz.ntmps94
  go_wp2
  go_end0
  go_wp2
  go_loopw [24] (fun i wr => ∃ j : Nat, j ≤ types.length ∧ i = .int .i64 j ∧ wr = w) (fun i _ => types.length - (intOf i).toNat)
  case atStart => exact ⟨0, Nat.zero_le _, rfl, rfl⟩
  case round =>
    obtain ⟨j, hj, rfl, rfl⟩ := hrel
    by_cases hlt : j < types.length
    · obtain ⟨v, hv, hcell⟩ := HAT.out j hlt
      cases v using V.on with
      | w n =>
        have hb : ∀ h, (((⟨types.toArray⟩ : ByteArray)[j]'h).toNat : Int) = 105 := fun h => by
          show (types[j].toNat : Int) = 105
          rw [← hv]; rfl
        simp only [V.val] at hcell
        go_wp2
        go_end0
        go_wp2
        go_roundw
        case rel => exact ⟨j + 1, by omega, by go_num, trivial⟩
        case measure => simp [intOf]; omega
      | d n =>
        have hb : ∀ h, (((⟨types.toArray⟩ : ByteArray)[j]'h).toNat : Int) = 108 := fun h => by
          show (types[j].toNat : Int) = 108
          rw [← hv]; rfl
        simp only [V.val] at hcell
        go_wp2
        go_end0
        go_wp2
        go_roundw
        case rel => exact ⟨j + 1, by omega, by go_num, trivial⟩
        case measure => simp [intOf]; omega
    · go_wp2
      go_ret
      exact ⟨rfl, rfl⟩
end
end Go.Proofs.Qxb6500575aGreatDoor
