import Derived.Test.Qxb6500575aGreatDoorPatch
import Derived.Test.Qxb6500575aGreatDoorHole
namespace Go.Proofs.Qxb6500575aGreatDoor
open Go Go.RowKit
set_option linter.unusedVariables false
set_option linter.unusedSimpArgs false
theorem rowFunc : IsRow Tryz.prog 224 221 .nilFunc 1 8 := ⟨by kernel_rfl, by kernel_rfl, rfl, by decide⟩

/-- the jump to the l-th label outward -/
def Ck.jump (s : Ck) (op : Int) (l : Nat) : Ck × List UInt8 :=
  match s.opn[l]? with
  | none => (s, [])
  | some b =>
    ({ s with code := s.code ++ [{ op := op, imm := b.head, keep := b.carry.length, cut := b.height }], opn := if b.head < 0 then s.opn.set l { b with wait := b.wait ++ [s.code.length] } else s.opn }, b.carry)

set_option maxHeartbeats 1000000 in
theorem jump_any (B bk : Nat) (fx : CkF) (L : CkL) (s : Ck) (op : Int) (j : Nat) (w : World) (h : CkRep B w bk fx L s) {b : Blk} (hb : s.opn[j]? = some b) (hn : s.code.length ≤ 1000) (ho : s.opn.length ≤ 1000) (hw : b.wait.length ≤ 1000) :
    Calls Tryz.prog 138 #[.pointer (some ⟨bk, 0, none⟩), .int .i64 op, .int .i64 j] w fun e w' => e = .returned (sv (s.jump op j).2) ∧ ∃ ca cc ls, CkRep B w' bk fx { L with ca := ca, cc := cc, ls := ls } (s.jump op j).1 ∧ CkStep w w' bk L { L with ca := ca, cc := cc, ls := ls } := by
  obtain ⟨go, l, ha, hl, hc, hf, hlt, hbo⟩ := h.at j hb
  have hjl : j < s.opn.length := (List.getElem?_eq_some_iff.1 hb).1
  obtain ⟨m, hm⟩ : ∃ m, s.opn.length = m + 1 + j := ⟨s.opn.length - 1 - j, by omega⟩
  have hml : s.opn.length - 1 - j = m := by omega
  have c3 := h.here.cell 3
  have d1 := hc 1 (by omega)
  have d2 := hc 2 (by omega)
  have d3 := hc 3 (by omega)
  rw [hml] at d1 d2 d3
  rw [hm] at c3
  simp [blkCells, ha] at c3 d1 d2 d3
  have hcall := fun n => hole_any B bk fx L s { op := op, imm := b.head, keep := b.carry.length, cut := b.height } (w.drewN n) (h.drewN n) hn
  have HC : Hid (∀ n : Nat, _) := hcall
  have HCS : Hid (CkRep B w bk fx L s) := h
  have HA : Hid (L.oa = some ⟨go, 0, none⟩) := ha
  clear hcall hc h ha
  have e0 : s.jump op j = ({ s with code := s.code ++ [{ op := op, imm := b.head, keep := b.carry.length, cut := b.height }], opn := if b.head < 0 then s.opn.set j { b with wait := b.wait ++ [s.code.length] } else s.opn }, b.carry) := by
    unfold Ck.jump; rw [hb]
  rw [e0]
  clear e0
  go_enter Tryz.func138, Tryz.ntmps138
  go_wp2
  go_quiet (fail)
  go_wp2
  refine wp_region_tail 16 (by kernel_rfl) (by kernel_rfl) (fun _ _ _ _ _ h => h) ?_
  simp only [List.take_succ_cons, List.take_zero, List.drop_succ_cons, List.drop_zero]
  repeat go_big_quiet_step (fail)
  refine wpQuiet_nil ?_
  go_wp2_with fail
  refine (HC.out _).mono ?_
  clear HC
  rintro e w1 ⟨v, ca, cc, rfl, hv, g1, g2⟩
  have G2 : Hid (CkStep w w1 bk L { L with ca := ca, cc := cc }) := ((CkStep.refl w bk L).drewN _).trans g2
  obtain ⟨go', l', ha', hl', hc', hf', hlt', hbo'⟩ := g1.at j hb
  obtain rfl : go = go' := by have := HA.out.symm.trans ha'; simpa using this
  obtain rfl : l = l' := by have := hl.symm.trans hl'; simpa using this
  have k1 := hc' 1 (by omega)
  have k3 := hc' 3 (by omega)
  have k6 := hc' 6 (by omega)
  simp only [hml] at k1 k3 k6
  simp [blkCells] at k1 k3 k6
  have f6 := hf' (m * 7 + 6)
  clear hc' hf' hf g2 hbo' ha'
  by_cases hh : b.head < 0
  · obtain ⟨b1, b2, rfl, hb1, hb2⟩ := hv
    obtain ⟨hA, hvs, hw0, hh0⟩ := g1.blk j b l hb hl
    have hown : (Value.slice L.oa s.opn.length L.oc).ownBlock = some go := by rw [HA.out]; rfl
    go_wp2_with (at_builtin; refine wpList_app rowFunc _ rfl (.tmp 48) (.tmp 50) rfl _ _ _ rfl (owns_alloc hw0 _) _ [.func (.func 144) #[] #[.pointer (some ⟨b1, 0, none⟩), .pointer (some ⟨b2, 0, none⟩)]] rfl (Has.new _ _ _) rfl ?one ?bd ?go)
    case one => simp [Value.oneCell']
    case bd => omega
    case go =>
      intro g cap w2 q1 q2 q3 q4
      have hgo2 : l.2.ownBlock ≠ some go := fun e => owns_apart hw0 g1.opn (by decide) go e hown
      have hopn2 : w2.ownsRow 0 226 7 (CkL.opnV { L with ca := ca, cc := cc } { s with code := s.code ++ [{ op := op, imm := b.head, keep := b.carry.length, cut := b.height }] }) s.opn.length ((s.opn.zip L.ls).reverse.flatMap blkCells) :=
        owns_fr (owns_alloc g1.opn _) q2 (fun k hk hk' => owns_apart hw0 g1.opn (by decide) k hk' hk)
      have hgne : (Value.slice (some ⟨g, 0, none⟩) (b.wait.length + 1) cap).ownBlock ≠ some go := fun e => owns_apart q1 hopn2 (by decide) go e hown
      have m6 : w2.cell? ⟨go, m * 7 + 6, none⟩ = some l.2 := by
        rw [World.cell?_of_block (w := w1.alloc (.cells #[.func (.func 144) #[] #[.pointer (some ⟨b1, 0, none⟩), .pointer (some ⟨b2, 0, none⟩)]] 221)) (q2.block go (by simp; omega) hgo2), World.cell?_alloc_past _ _ _ hlt', k6]
      have e6 : w2.frozen? ⟨go, m * 7 + 6, none⟩ = false := by
        rw [World.frozen?_of_block (w := w1.alloc (.cells #[.func (.func 144) #[] #[.pointer (some ⟨b1, 0, none⟩), .pointer (some ⟨b2, 0, none⟩)]] 221)) (q2.block go (by simp; omega) hgo2), World.frozen?_alloc_past _ _ _ hlt', f6]
      have m1 : w2.cell? ⟨go, m * 7 + 1, none⟩ = some (sv b.carry) := by
        rw [World.cell?_of_block (w := w1.alloc (.cells #[.func (.func 144) #[] #[.pointer (some ⟨b1, 0, none⟩), .pointer (some ⟨b2, 0, none⟩)]] 221)) (q2.block go (by simp; omega) hgo2), World.cell?_alloc_past _ _ _ hlt', k1]
      have knd : ∀ k cs T, Has w1 k cs T → (l.2.ownBlock = some k ∨ k = go) → T ≠ 189 ∧ T ≠ 3 := by
        rintro k cs T hk (h1 | rfl)
        · rw [owns_type hw0 h1 hk]; decide
        · rw [owns_type g1.opn hown hk]; decide
      have F3 : Fr (fun k => l.2.ownBlock = some k ∨ k = go) w1 (w2.setCell ⟨go, m * 7 + 6, none⟩ (.slice (some ⟨g, 0, none⟩) (b.wait.length + 1) cap)) :=
        (Fr.trans (S := fun k => l.2.ownBlock = some k ∨ k = go) ((Fr.refl _ w1).alloc _) q2 (fun k _ hk => .inl hk)).setCell (p := ⟨go, m * 7 + 6, none⟩) (.inl (.inr rfl)) _
      have hO := g1.opnSet j 6 hb HA.out hl { b with wait := b.wait ++ [s.code.length] } (l.1, .slice (some ⟨g, 0, none⟩) (b.wait.length + 1) cap) (.slice (some ⟨g, 0, none⟩) (b.wait.length + 1) cap) (by decide) rfl hopn2
      simp only [hml] at hO
      have fin := g1.putBlk j hb HA.out hl { b with wait := b.wait ++ [s.code.length] } (l.1, .slice (some ⟨g, 0, none⟩) (b.wait.length + 1) cap) F3 hO
        ⟨hA.fr F3 knd, _, by have := owns_other q1 (p := ⟨go, m * 7 + 6, none⟩) hgne (.slice (some ⟨g, 0, none⟩) (b.wait.length + 1) cap); simpa using this, ?_⟩ ?_
      · have FIN : Hid (_ ∧ _) := ⟨fin.1, G2.out.trans fin.2⟩
        clear fin q1 q2 q3 q4 g1 hA hw0 hh0 hopn2 hgne knd F3 hO G2 hown hgo2 HCS hb1 hb2
        go_wp2
        go_ret
        first | (exact ⟨rfl, _, _, _, FIN.out⟩) | (rw [if_pos hh]; exact ⟨rfl, _, _, _, FIN.out⟩)
      · intro i u a hi ha'
        by_cases hlt2 : i < b.wait.length
        · have hil : i < hvs.length := by have := hw0.1; omega
          rw [List.getElem?_append_left hil] at hi
          rw [List.getElem?_append_left hlt2] at ha'
          exact (hh0 i u a hi ha').fr F3 knd
        · have hvl : hvs.length = b.wait.length := by have := hw0.1; omega
          have hib : i = b.wait.length := by
            have := (List.getElem?_eq_some_iff.1 ha').1
            simp at this; omega
          subst hib
          rw [List.getElem?_append_right (by omega), hvl] at hi
          simp at hi ha'
          subst hi; subst ha'
          exact (show HoleV w1 bk _ _ from ⟨b1, b2, rfl, hb1, hb2⟩).fr F3 knd
      · intro k hk
        simp [Value.ownBlock] at hk
        subst hk
        rcases q3 with q3 | q3
        · exact .inl q3
        · right; omega
  · have G1 : Hid (CkRep B w1 bk fx { L with ca := ca, cc := cc } { s with code := s.code ++ [{ op := op, imm := b.head, keep := b.carry.length, cut := b.height }] }) := g1
    clear g1 hv HCS
    go_wp2
    go_ret
    first | (exact ⟨rfl, _, _, _, G1.out, G2.out⟩) | (rw [if_neg hh]; exact ⟨rfl, _, _, _, G1.out, G2.out⟩)
end Go.Proofs.Qxb6500575aGreatDoor
