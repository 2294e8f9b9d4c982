import Derived.Test.Qxb6500575aGreatDoorEnter
import Derived.Test.Qxb6500575aGreatDoorCk3
namespace Go.Proofs.Qxb6500575aGreatDoor
open Go Go.RowKit
set_option linter.unusedVariables false
set_option linter.unusedSimpArgs false

/-- an else: the then arm's free jump waits for the end; the if's hole is filled -/
def Ck.turn (s : Ck) : Ck × Int :=
  match s.closes.1.opn with
  | [] => s.closes
  | b :: r =>
    ({ s.closes.1 with
        code := patchAt (s.closes.1.code ++ [{ op := 4, imm := -1, keep := 0, cut := 0 }]) (b.alt.getD 0) ((s.closes.1.code.length : Int) + 1),
        opn := { b with wait := b.wait ++ [s.closes.1.code.length], alt := none, dead := false } :: r }, s.closes.2)
theorem Ck.closes_opn (s : Ck) : s.closes.1.opn = s.opn := by
  unfold Ck.closes
  split
  · rfl
  · simp only [Ck.pops_opn]
theorem Ck.closes_code (s : Ck) : s.closes.1.code = s.code := by
  unfold Ck.closes
  split
  · rfl
  · simp only [Ck.pops_code]
theorem Ck.closes_len (s : Ck) : s.closes.1.st.length ≤ s.st.length := by
  unfold Ck.closes
  split
  · exact Nat.le_refl _
  · exact Ck.pops_len _ _
theorem Ck.closes_top {s : Ck} {b : Blk} {r : List Blk} (h : s.Top b r) : s.closes.1.Top b r := by
  unfold Ck.closes
  rw [h.opn]
  exact Ck.pops_top h _

set_option maxRecDepth 100000 in
set_option maxHeartbeats 1000000 in
theorem turn_any (B bk : Nat) (fx : CkF) (L : CkL) (s : Ck) (w : World) (h : CkRep B w bk fx L s) {b : Blk} {r : List Blk} (ht : s.Top b r) (hr : r.length ≤ 1000) (hs : s.st.length ≤ 1000) (hc : s.code.length ≤ 900) (hi : b.res.length ≤ 1000) (hw : b.wait.length ≤ 1000) {al : Nat} (hal : b.alt = some al) (hlt0 : al < s.code.length) :
    Calls Tryz.prog 120 #[.pointer (some ⟨bk, 0, none⟩)] w fun e w' => e = .returned (.int .i64 s.turn.2) ∧ ∃ L', CkRep B w' bk fx L' s.turn.1 ∧ CkStep w w' bk L L' := by
  have hcall := closes_any B bk fx L s w h ht hr hs hi
  have p1 := s.closes_opn
  have p2 := s.closes_code
  have p3 := s.closes_len
  have ht1 := Ck.closes_top ht
  have e0 : s.turn = ({ s.closes.1 with
        code := patchAt (s.closes.1.code ++ [{ op := 4, imm := -1, keep := 0, cut := 0 }]) al ((s.closes.1.code.length : Int) + 1),
        opn := { b with wait := b.wait ++ [s.closes.1.code.length], alt := none, dead := false } :: r }, s.closes.2) := by
    unfold Ck.turn; rw [ht1.opn]; simp [hal]
  rw [e0]
  clear e0
  generalize s.closes = p at *
  obtain ⟨s1, er⟩ := p
  simp only at hcall p1 p2 p3 ht1 ⊢
  have hc1 : s1.code.length ≤ 900 := by rw [p2]; exact hc
  have hlt1 : al < s1.code.length := by rw [p2]; exact hlt0
  clear h ht p1 p2 hc hlt0
  go_enter Tryz.func120, Tryz.ntmps120
  go_wp2_with fail
  refine hcall.mono ?_
  clear hcall
  rintro e w1 ⟨rfl, g1, g2⟩
  obtain ⟨go, l, ha, hl, hcl, hf, hlt, hbo⟩ := g1.at 0 (b := b) (by rw [ht1.opn]; rfl)
  have hol : s1.opn.length = r.length + 1 := by rw [ht1.opn]; rfl
  have hml : s1.opn.length - 1 - 0 = r.length := by omega
  have c3 := g1.here.cell 3
  have k6 := hcl 6 (by omega)
  rw [hml] at k6
  rw [hol] at c3
  simp [blkCells, ha] at c3 k6
  have HA : Hid (L.oa = some ⟨go, 0, none⟩) := ha
  have HL : Hid (L.ls[0]? = some l) := hl
  have G1 : Hid (CkRep B w1 bk fx L s1) := g1
  have G2 : Hid (CkStep w w1 bk L L) := g2
  clear ha hl g1 g2 hcl
  go_wp2
  go_quiet (fail)
  go_wp2
  refine wp_region_head 7 3 (fun x => x.cell? ⟨go, r.length * 7 + 6, none⟩ = some l.2) (by kernel_rfl) (by kernel_rfl) (fun _ _ _ _ _ h => h) (by simpa using k6) ?_
  simp only [List.take_succ_cons, List.take_zero, List.drop_succ_cons, List.drop_zero]
  go_big_quiet_step (fail)
  go_big_quiet_step (fail)
  refine BigFrame.wpQuiet_want rfl (fun K hK => quiet_pure (.pointer (some ⟨go, r.length * 7, none⟩)) (fun w => by simp [execOp, Act.eval]) (hK _ ?_))
  simp only [Act.put, List.setIfInBounds_toArray, List.set_cons_succ, List.set_cons_zero]
  refine BigFrame.wpQuiet_want rfl (fun K hK => quiet_pure (.pointer (some ⟨go, r.length * 7 + 6, none⟩)) (fun w => by simp [execOp, Act.eval, go_sem]) (hK _ ?_))
  simp only [Act.put, List.setIfInBounds_toArray, List.set_cons_succ, List.set_cons_zero]
  refine BigFrame.wpQuiet_want rfl (fun K hK => quiet_load1 (.tmp 21) ⟨go, r.length * 7 + 6, none⟩ l.2 rfl rfl (funext fun w => by kernel_rfl) (fun _ h => h) (hK _ ?_))
  simp only [Act.put, List.setIfInBounds_toArray, List.set_cons_succ, List.set_cons_zero]
  go_big_quiet_step (fail)
  refine BigFrame.wpQuiet_want rfl (fun K hK => quiet_pure (.agg #[.int .i64 4, .int .i64 (-1), .int .i64 0, .int .i64 0]) (fun w => by kernel_rfl) (hK _ ?_))
  simp only [Act.put, List.setIfInBounds_toArray, List.set_cons_succ, List.set_cons_zero]
  refine wpQuiet_nil ?_
  unfold wpChain
  go_wp2_with fail
  refine (hole_any B bk fx L s1 { op := 4, imm := -1, keep := 0, cut := 0 } _ (G1.out.drewN _) (by omega)).mono ?_
  rintro e w2 ⟨v, ca, cc, rfl, hv, g3, g4⟩
  have G4 : Hid (CkStep w w2 bk L { L with ca := ca, cc := cc }) := (G2.out.drewN _).trans g4
  obtain ⟨x1, x2, rfl, hx1, hx2⟩ := hv
  have hv : HoleV w2 bk (.func (.func 144) #[] #[.pointer (some ⟨x1, 0, none⟩), .pointer (some ⟨x2, 0, none⟩)]) s1.code.length := ⟨x1, x2, rfl, hx1, hx2⟩
  obtain ⟨go', l', ha', hl', hc', hf', hlt', hbo'⟩ := g3.at 0 (b := b) (by rw [ht1.opn]; rfl)
  obtain rfl : go = go' := by have := HA.out.symm.trans ha'; simpa using this
  obtain rfl : l = l' := by have := HL.out.symm.trans hl'; simpa using this
  have m6 := hc' 6 (by omega)
  have m5 := hc' 5 (by omega)
  have m4 := hc' 4 (by omega)
  simp only [hml] at m6 m5 m4
  simp [blkCells] at m6 m5 m4
  have f6 := hf' (r.length * 7 + 6)
  have f5 := hf' (r.length * 7 + 5)
  have f4 := hf' (r.length * 7 + 4)
  clear g4 G2 G1 hf hf' hc' ha' hl' hbo'
  go_wp2_with fail
  refine ⟨m6, ?_⟩
  unfold wpChain
  go_wp2
  refine ⟨by rw [World.cell?_alloc_past _ _ _ hlt']; exact m6, ?_⟩
  obtain ⟨hA, hvs, hw0, hh0⟩ := g3.blk 0 b l (by rw [ht1.opn]; rfl) HL.out
  unfold wpChain
  go_wp2_with (at_builtin; refine wpList_app rowFunc _ rfl (.tmp 22) (.tmp 26) rfl _ _ _ rfl (owns_alloc hw0 _) _ [.func (.func 144) #[] #[.pointer (some ⟨x1, 0, none⟩), .pointer (some ⟨x2, 0, none⟩)]] rfl (Has.new _ _ _) rfl ?one ?bd ?go)
  case one => simp [Value.oneCell']
  case bd => omega
  case go =>
    intro g cap w3 q1 q2 q3 q4
    obtain ⟨⟨n6, nf⟩, r4, st4⟩ := g3.pushWait 0 (b := b) (by rw [ht1.opn]; rfl) HA.out HL.out hv hw0 hh0 hA q1 q2 q3
    simp only [hml] at n6 r4 st4
    obtain ⟨W4, hW4⟩ : ∃ W4, W4 = w3.setCell ⟨go, r.length * 7 + 6, none⟩ (.slice (some ⟨g, 0, none⟩) (b.wait.length + 1) cap) := ⟨_, rfl⟩
    rw [← hW4] at r4 st4
    have hls : (L.ls.set 0 (l.1, Value.slice (some ⟨g, 0, none⟩) (b.wait.length + 1) cap))[0]? = some (l.1, Value.slice (some ⟨g, 0, none⟩) (b.wait.length + 1) cap) := by
      have := HL.out
      cases hx : L.ls with
      | nil => rw [hx] at this; simp at this
      | cons x xs => simp
    have hop : s1.opn.set 0 { b with wait := b.wait ++ [s1.code.length] } = { b with wait := b.wait ++ [s1.code.length] } :: r := by rw [ht1.opn]; rfl
    rw [hop] at r4
    have hA4 := (r4.blk 0 _ _ rfl hls).alt
    simp only [hal] at hA4
    obtain ⟨y1, y2, hl1, hy1, hy2⟩ := hA4
    obtain ⟨go4, l4, ha4, hl4, hc4, hf4, hlt4, hbo4⟩ := r4.at 0 (b := { b with wait := b.wait ++ [s1.code.length] }) rfl
    obtain rfl : go = go4 := by have := HA.out.symm.trans ha4; simpa using this
    obtain rfl : (l.1, Value.slice (some ⟨g, 0, none⟩) (b.wait.length + 1) cap) = l4 := by have := hls.symm.trans hl4; simpa using this
    have z5 := hc4 5 (by omega)
    have z4 := hc4 4 (by omega)
    have zc := r4.here.cell 4
    simp [blkCells, hl1] at z5 z4 zc
    have zf5 := hf4 (r.length * 7 + 5)
    have zf4 := hf4 (r.length * 7 + 4)
    have HW4 : Hid (W4 = _) := hW4
    have R4 : Hid (CkRep B W4 bk fx _ _) := r4
    have ST4 : Hid (CkStep w W4 bk L _) := G4.out.trans st4
    have f66 := nf (r.length * 7 + 6)
    clear hW4 r4 st4 q1 q2 q3 q4 g3 hA hw0 hh0 hv hx1 hx2 hc4 hf4 ha4 hl4 m6 m5 m4 f6 f5 f4 nf G4 hls
    go_wp2
    refine ⟨n6, ?_⟩
    rw [wpChain_zero]
    go_wp2
    rw [← HW4.out]
    clear n6 f66 HW4
    refine wp_region_tail 9 (by kernel_rfl) (by kernel_rfl) (fun _ _ _ _ _ h => h) ?_
    simp only [List.take_succ_cons, List.take_zero, List.drop_succ_cons, List.drop_zero]
    repeat go_big_quiet_step (fail)
    refine wpQuiet_nil ?_
    go_wp2_with fail
    refine (patch_any B bk fx _ _ _ R4.out.drew y1 y2 al _ hy1 hy2 (by simp; omega) (by simp; omega)).mono ?_
    rintro e w5 ⟨rfl, g5, g6⟩
    have hls5 : (L.ls.set 0 (l.1, Value.slice (some ⟨g, 0, none⟩) (b.wait.length + 1) cap))[0]? = some (l.1, Value.slice (some ⟨g, 0, none⟩) (b.wait.length + 1) cap) := by
      have := HL.out
      cases hx : L.ls with
      | nil => rw [hx] at this; simp at this
      | cons x xs => simp
    obtain ⟨go5, l5, ha5, hl5, hc5, hf5, hlt5, hbo5⟩ := g5.at 0 (b := { b with wait := b.wait ++ [s1.code.length] }) rfl
    obtain rfl : go = go5 := by have := HA.out.symm.trans ha5; simpa using this
    obtain rfl : (l.1, Value.slice (some ⟨g, 0, none⟩) (b.wait.length + 1) cap) = l5 := by have := hls5.symm.trans hl5; simpa using this
    have y5 := hc5 5 (by omega)
    have y4 := hc5 4 (by omega)
    simp [blkCells] at y5 y4
    have yf5 := hf5 (r.length * 7 + 5)
    have yf4 := hf5 (r.length * 7 + 4)
    have q1 := g5.setBlk 0 5 (b := { b with wait := b.wait ++ [s1.code.length] }) (go := go) rfl HA.out hls5 { b with wait := b.wait ++ [s1.code.length], alt := none } (.nilFunc, Value.slice (some ⟨g, 0, none⟩) (b.wait.length + 1) cap) .nilFunc (by decide) rfl rfl rfl rfl
    have hls6 : ((L.ls.set 0 (l.1, Value.slice (some ⟨g, 0, none⟩) (b.wait.length + 1) cap)).set 0 (Value.nilFunc, Value.slice (some ⟨g, 0, none⟩) (b.wait.length + 1) cap))[0]? = some (.nilFunc, Value.slice (some ⟨g, 0, none⟩) (b.wait.length + 1) cap) := by
      have := HL.out
      cases hx : L.ls with
      | nil => rw [hx] at this; simp at this
      | cons x xs => simp
    have q2 := q1.1.setBlk 0 4 (b := { b with wait := b.wait ++ [s1.code.length], alt := none }) (go := go) rfl HA.out hls6 { b with wait := b.wait ++ [s1.code.length], alt := none, dead := false } (.nilFunc, Value.slice (some ⟨g, 0, none⟩) (b.wait.length + 1) cap) (.bool false) (by decide) rfl rfl rfl rfl
    have FIN : Hid (_ ∧ _) := And.intro q2.1 ((((ST4.out.drew).trans g6).trans q1.2).trans q2.2)
    clear q1 q2 g5 g6 ST4 R4 hc5 hf5 ha5 hl5 hls5 hls6 hop hy1 hy2 hl1
    go_wp2
    go_ret
    simp only [List.length_cons, Nat.add_sub_cancel, Nat.sub_zero, List.set_cons_zero] at FIN
    exact ⟨rfl, _, FIN.out⟩
end Go.Proofs.Qxb6500575aGreatDoor
