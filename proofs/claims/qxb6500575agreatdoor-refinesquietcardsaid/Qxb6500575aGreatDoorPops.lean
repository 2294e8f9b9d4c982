import Derived.Test.Qxb6500575aGreatDoorPop
namespace Go.Proofs.Qxb6500575aGreatDoor
open Go Go.RowKit
set_option linter.unusedVariables false
set_option linter.unusedSimpArgs false

theorem popsR_take (types : List UInt8) (k : Nat) (hk : k < types.length) (s : Ck) : Ck.popsR (types.take (k + 1)).reverse s = if (s.pop types[k]).2.2 = true then Ck.popsR (types.take k).reverse (s.pop types[k]).1 else ((s.pop types[k]).1, 6) := by
  rw [List.take_succ_eq_append_getElem hk, List.reverse_append]
  rfl

set_option maxHeartbeats 1000000 in
theorem pops_any (B bk : Nat) (fx : CkF) (L : CkL) (s : Ck) (types : List UInt8) (w : World) (h : CkRep B w bk fx L s) {b : Blk} {r : List Blk} (ht : s.Top b r) (hr : r.length ≤ 1000) (hs : s.st.length ≤ 1000) (hty : types.length ≤ 1000) :
    Calls Tryz.prog 115 #[.pointer (some ⟨bk, 0, none⟩), sv types] w fun e w' => e = .returned (.int .i64 (s.pops types).2) ∧ CkRep B w' bk fx L (s.pops types).1 ∧ CkStep w w' bk L L := by
  go_enter Tryz.func115, Tryz.ntmps115
  go_wp2
  go_loopw [5] (fun i wr => ∃ k sk, k ≤ types.length ∧ i = .int .i64 ((k : Int) - 1) ∧ Hid (CkRep B wr bk fx L sk) ∧ Hid (CkStep w wr bk L L) ∧ Hid (sk.Top b r) ∧ sk.st.length ≤ 1000 ∧ Hid (s.pops types = Ck.popsR (types.take k).reverse sk)) (fun i _ => (intOf i + 1).toNat)
  case atStart => exact ⟨types.length, s, Nat.le_refl _, rfl, h, CkStep.refl _ _ _, ht, hs, by show s.pops types = _; rw [List.take_length]; rfl⟩
  case round =>
    obtain ⟨k, sk, hk, rfl, H1, H2, H3, hsk, H4⟩ := hrel
    cases k with
    | zero =>
      go_wp2
      go_ret
      have e0 : s.pops types = (sk, 0) := H4.out
      rw [e0]
      exact ⟨rfl, H1.out, H2.out⟩
    | succ k =>
      have hlt : k < types.length := by omega
      have e1 := H4.out
      rw [popsR_take types k hlt] at e1
      have E1 : Hid (_ = _) := e1
      clear e1 H4
      go_wp2_with fail
      refine (pop_any B bk fx L sk types[k] wr H1.out H3.out hr hsk).mono ?_
      rintro e w1 ⟨rfl, g1, g2⟩
      have G1 : Hid (CkRep B w1 bk fx L (sk.pop types[k]).1) := g1
      have G2 : Hid (CkStep w w1 bk L L) := H2.out.trans g2
      have G3 : Hid ((sk.pop types[k]).1.Top b r) := Ck.pop_top H3.out _
      have hl2 := sk.pop_len types[k]
      clear g1 g2 H1 H2 H3
      cases hok : (sk.pop types[k]).2.2 with
      | true =>
        have E2 : Hid (s.pops types = Ck.popsR (types.take k).reverse (sk.pop types[k]).1) := by
          have := E1.out; rw [if_pos hok] at this; exact this
        clear E1
        go_wp2
        go_roundw
        case rel => exact ⟨k, (sk.pop types[k]).1, by omega, by go_num, G1, G2, G3, by omega, E2⟩
        case measure => simp [intOf]
      | false =>
        have E2 : Hid (s.pops types = ((sk.pop types[k]).1, 6)) := by
          have := E1.out; rw [if_neg (by rw [hok]; decide)] at this; exact this
        clear E1
        go_wp2
        go_ret
        rw [E2.out]
        exact ⟨rfl, G1.out, G2.out⟩
end Go.Proofs.Qxb6500575aGreatDoor
