/-
  THE WALKS of modm: types, AddType, SetMem, New.
-/
import Derived.Test.Qxb6500575aGreatDoorRead
import Derived.Test.Qxb6500575aGreatDoorPlain1
namespace Go.Proofs.Qxb6500575aGreatDoor
open Go Go.RowKit
set_option linter.unusedVariables false
set_option linter.unusedSimpArgs false

theorem typesOk_take (s : List UInt8) (i : Nat) (h : i < s.length) : typesOk (s.take (i + 1)) = (typesOk (s.take i) && (s[i] == 105 || s[i] == 108)) := by
  unfold typesOk
  rw [List.take_succ_eq_append_getElem h, List.all_append]
  simp
theorem u8_ne (a b : UInt8) (h : a ≠ b) : a.toNat ≠ b.toNat := fun e => h (UInt8.toNat_inj.1 e)

set_option maxHeartbeats 1000000 in
theorem types_any (s : List UInt8) (w : World) (hl : s.length ≤ 1000) :
    Calls Tryz.prog 48 #[sv s] w fun e w' => e = .returned (.bool (typesOk s)) ∧ w' = w := by
  obtain ⟨v, hv⟩ : ∃ v, v = typesOk s := ⟨_, rfl⟩
  rw [← hv]
  have HV : Hid (v = typesOk s) := hv
  clear hv
  go_enter Tryz.func48, Tryz.ntmps48
  go_wp2
  go_loopw [3] (fun t wr => ∃ i : Nat, i ≤ s.length ∧ t = .int .i64 i ∧ wr = w ∧ Hid (typesOk (s.take i) = true)) (fun t _ => s.length - (intOf t).toNat)
  case atStart => exact ⟨0, Nat.zero_le _, rfl, rfl, rfl⟩
  case round =>
    obtain ⟨i, hi, rfl, hwr, G1⟩ := hrel
    obtain rfl := hwr.symm
    clear hwr
    by_cases hlt : i < s.length
    · obtain ⟨t, ht⟩ : ∃ t, s[i].toNat = t := ⟨_, rfl⟩
      have ht5 : t ≤ 255 := by have := s[i].toNat_lt; omega
      have hz : ((⟨s.toArray⟩ : ByteArray)[i]'hlt).toNat = t := ht
      have hst := typesOk_take s i hlt
      rw [G1.out] at hst
      by_cases h1 : s[i] = 105
      · have e1 : t = 105 := by rw [← ht, h1]; rfl
        subst e1
        have N1 : Hid (typesOk (s.take (i + 1)) = true) := by show _ = _; rw [hst, h1]; rfl
        clear hst ht G1 h1
        go_wp2
        go_roundw
        case rel => exact ⟨i + 1, by omega, by go_num, trivial, N1⟩
        case measure => simp [intOf]; omega
      · have e1 : ((t : Int) != 105) = true := by
          rw [bne_iff_ne]; intro e; apply u8_ne _ _ h1; rw [ht]; show t = 105; omega
        by_cases h2 : s[i] = 108
        · have e2 : t = 108 := by rw [← ht, h2]; rfl
          subst e2
          have N1 : Hid (typesOk (s.take (i + 1)) = true) := by show _ = _; rw [hst, h2]; rfl
          clear hst ht G1 h1 h2
          go_wp2
          go_roundw
          case rel => exact ⟨i + 1, by omega, by go_num, trivial, N1⟩
          case measure => simp [intOf]; omega
        · have e2 : ((t : Int) != 108) = true := by
            rw [bne_iff_ne]; intro e; apply u8_ne _ _ h2; rw [ht]; show t = 108; omega
          have N1 : Hid (typesOk s = false) := by
            show _ = _
            unfold typesOk
            rw [List.all_eq_false]
            exact ⟨s[i], List.getElem_mem _, by simp [h1, h2]⟩
          clear hst ht G1 h1 h2
          go_wp2
          go_ret
          rw [HV.out, N1.out]
          exact ⟨rfl, rfl⟩
    · have hie : s.take i = s := List.take_of_length_le (by omega)
      have N1 : Hid (typesOk s = true) := by have := G1.out; rw [hie] at this; exact this
      clear G1 hie
      go_wp2
      go_ret
      rw [HV.out, N1.out]
      exact ⟨rfl, rfl⟩

theorem zeroMod (w : World) : Has (w.alloc (.cells #[.slice none 0 0, .slice none 0 0, .slice none 0 0, .int .i64 0, .int .i64 0, .slice none 0 0] 113)) w.heap.size #[.slice none 0 0, .slice none 0 0, .slice none 0 0, .int .i64 0, .int .i64 0, .slice none 0 0] 113 := Has.new _ _ _
/-- the empty module -/
def ModD.empty : ModD := { params := [], results := [], imports := [], min := 0, max := 0, funcs := [] }
set_option maxHeartbeats 1000000 in
theorem modNew_any (w : World) :
    Calls Tryz.prog 26 #[] w fun e w' => e = .returned (.pointer (some ⟨w.heap.size, 0, none⟩)) ∧ (∃ L, ModRep (fun k => k = w.heap.size) w' w.heap.size L ModD.empty) ∧ Fr (fun _ => False) w w' ∧ w.heap.size < w'.heap.size := by
  go_enter Tryz.func26, Tryz.ntmps26
  go_wp2
  go_ret
  refine ⟨rfl, ⟨{ pa := none, ra := none, ia := none, fa := none, pc := 0, rc := 0, ic := 0, fc := 0, cv := [] }, ?_⟩, (Fr.refl _ _).alloc _, by simp⟩
  exact {
    here := Has.new _ _ _
    params := ⟨rfl, .inl ⟨rfl, rfl⟩⟩
    results := ⟨rfl, .inl ⟨rfl, rfl⟩⟩
    imports := ⟨rfl, .inl ⟨rfl, rfl⟩⟩
    funcs := ⟨rfl, .inl ⟨rfl, rfl⟩⟩
    cvlen := rfl
    codes := fun i f v hi => by simp [ModD.empty] at hi
    apart := fun g hg => by simp [Value.ownBlock] at hg
    own := rfl
    ownP := fun g hg => by simp [Value.ownBlock] at hg
    ownR := fun g hg => by simp [Value.ownBlock] at hg
    ownI := fun g hg => by simp [Value.ownBlock] at hg
    ownF := fun g hg => by simp [Value.ownBlock] at hg
    ownC := fun i v hi => by simp at hi }

def ModD.setMem (m : ModD) (a b : Int) : ModD × Int := if a < 0 ∨ b < a ∨ 4 < b then (m, 7) else ({ m with min := a, max := b }, 0)
set_option maxHeartbeats 1000000 in
theorem setMem_any (S : Nat → Prop) (bm : Nat) (L : ModL) (m : ModD) (a b : Int) (w : World) (h : ModRep S w bm L m) :
    Calls Tryz.prog 29 #[.pointer (some ⟨bm, 0, none⟩), .int .i64 a, .int .i64 b] w fun e w' => e = .returned (.int .i64 (m.setMem a b).2) ∧ (∃ L', ModRep (Own S w w') w' bm L' (m.setMem a b).1) ∧ Fr S w w' := by
  have c3 := h.here.cell 3
  have c4 := h.here.cell 4
  simp at c3 c4
  have f3 := h.here.frozen 3
  have f4 := h.here.frozen 4
  have hb := h.here.lt
  by_cases hbad : a < 0 ∨ b < a ∨ 4 < b
  · have e0 : m.setMem a b = (m, 7) := by unfold ModD.setMem; rw [if_pos hbad]
    rw [e0]
    have fin := h.still
    clear e0 h
    rcases hbad with h1 | h1 | h1
    · go_enter Tryz.func29, Tryz.ntmps29
      go_wp2
      go_ret
      exact ⟨rfl, fin⟩
    · by_cases h2 : a < 0
      · go_enter Tryz.func29, Tryz.ntmps29
        go_wp2
        go_ret
        exact ⟨rfl, fin⟩
      · go_enter Tryz.func29, Tryz.ntmps29
        go_wp2
        go_ret
        exact ⟨rfl, fin⟩
    · by_cases h2 : a < 0
      · go_enter Tryz.func29, Tryz.ntmps29
        go_wp2
        go_ret
        exact ⟨rfl, fin⟩
      · by_cases h3 : b < a
        · go_enter Tryz.func29, Tryz.ntmps29
          go_wp2
          go_ret
          exact ⟨rfl, fin⟩
        · go_enter Tryz.func29, Tryz.ntmps29
          go_wp2
          go_ret
          exact ⟨rfl, fin⟩
  · have e0 : m.setMem a b = ({ m with min := a, max := b }, 0) := by unfold ModD.setMem; rw [if_neg hbad]
    rw [e0]
    have h1 : ¬ a < 0 := by omega
    have h2 : ¬ b < a := by omega
    have h3 : ¬ 4 < b := by omega
    have hH := (h.here.put 3 (.int .i64 a)).put 4 (.int .i64 b)
    have hF : Fr (fun k => k = bm) w ((w.setCell ⟨bm, 3, none⟩ (.int .i64 a)).setCell ⟨bm, 4, none⟩ (.int .i64 b)) := ((Fr.refl (fun k => k = bm) w).setCell (p := ⟨bm, 3, none⟩) (.inl rfl) _).setCell (p := ⟨bm, 4, none⟩) (.inl rfl) _
    have fin : (∃ L', ModRep (Own S w ((w.setCell ⟨bm, 3, none⟩ (.int .i64 a)).setCell ⟨bm, 4, none⟩ (.int .i64 b))) ((w.setCell ⟨bm, 3, none⟩ (.int .i64 a)).setCell ⟨bm, 4, none⟩ (.int .i64 b)) bm L' { m with min := a, max := b }) ∧ Fr S w ((w.setCell ⟨bm, 3, none⟩ (.int .i64 a)).setCell ⟨bm, 4, none⟩ (.int .i64 b)) := by
      refine ⟨⟨L, ?_⟩, hF.weaken (fun k _ hk => by subst hk; exact h.own)⟩
      have h2 := h.sub (S' := Own S w ((w.setCell ⟨bm, 3, none⟩ (.int .i64 a)).setCell ⟨bm, 4, none⟩ (.int .i64 b))) fun _ => .inl
      have far : ∀ {v : Value} {e : TypeId} {size n : Nat} {xs : List Value}, w.ownsRow 0 e size v n xs → 113 ≠ e → ((w.setCell ⟨bm, 3, none⟩ (.int .i64 a)).setCell ⟨bm, 4, none⟩ (.int .i64 b)).ownsRow 0 e size v n xs := fun ho hT =>
        owns_fr ho hF (fun k hk e => by subst e; exact owns_ne ho h.here hT hk)
      exact { h2 with
        here := by simpa using hH
        params := far h.params (by decide)
        results := far h.results (by decide)
        imports := far h.imports (by decide)
        funcs := far h.funcs (by decide)
        codes := fun i f v hi hv => far (h.codes i f v hi hv) (by decide) }
    clear e0 h hH hF hbad
    go_enter Tryz.func29, Tryz.ntmps29
    go_wp2
    go_ret
    exact ⟨rfl, fin⟩
end Go.Proofs.Qxb6500575aGreatDoor
