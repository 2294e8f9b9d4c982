import Derived.Test.Qxb6500575aGreatDoorBranch
namespace Go.Proofs.Qxb6500575aGreatDoor
open Go Go.RowKit
set_option linter.unusedVariables false
set_option linter.unusedSimpArgs false

/-- select: an i32, then two of one type -/
def Ck.sel (s : Ck) : Ck × Int :=
  ({ (((s.pops [105]).1.pop 0).1.pop ((s.pops [105]).1.pop 0).2.1).1 with st := (((s.pops [105]).1.pop 0).1.pop ((s.pops [105]).1.pop 0).2.1).2.1 :: (((s.pops [105]).1.pop 0).1.pop ((s.pops [105]).1.pop 0).2.1).1.st },
   if !((s.pops [105]).1.pop 0).2.2 || !(((s.pops [105]).1.pop 0).1.pop ((s.pops [105]).1.pop 0).2.1).2.2 then 6 else (s.pops [105]).2)

set_option maxHeartbeats 1000000 in
theorem sel_any (B bk : Nat) (fx : CkF) (L : CkL) (s : Ck) (v : Value) (w : World) (hv : ∃ op imm tab, v = .agg #[.int .i64 op, .int .i64 imm, sv tab]) (h : CkRep B w bk fx L s) {b : Blk} {r : List Blk} (ht : s.Top b r) (hr : r.length ≤ 900) (hs : s.st.length ≤ 900) :
    Calls Tryz.prog 117 #[.pointer (some ⟨bk, 0, none⟩), v] w fun e w' => e = .returned (.int .i64 s.sel.2) ∧ ∃ L', CkRep B w' bk fx L' s.sel.1 ∧ CkStep w w' bk L L' := by
  obtain ⟨op, imm, tab, rfl⟩ := hv
  unfold Ck.sel
  have HC1 : Hid (∀ w', CkRep B w' bk fx L s → _) := fun w' h' => pops_any B bk fx L s [105] w' h' ht (by omega) (by omega) (by simp)
  have ht1 := Ck.pops_top ht [105]
  have hl1 := s.pops_len [105]
  generalize s.pops [105] = p1 at *
  obtain ⟨s1, e1⟩ := p1
  simp only at HC1 ht1 hl1 ⊢
  have HC2 : Hid (∀ w', CkRep B w' bk fx L s1 → _) := fun w' h' => pop_any B bk fx L s1 0 w' h' ht1 (by omega) (by omega)
  have ht2 := Ck.pop_top ht1 0
  have hl2 := s1.pop_len 0
  generalize s1.pop 0 = p2 at *
  obtain ⟨s2, t2, ok2⟩ := p2
  simp only at HC2 ht2 hl2 ⊢
  have HC3 : Hid (∀ w', CkRep B w' bk fx L s2 → _) := fun w' h' => pop_any B bk fx L s2 t2 w' h' ht2 (by omega) (by omega)
  have hl3 := s2.pop_len t2
  generalize s2.pop t2 = p3 at *
  obtain ⟨s3, t3, ok3⟩ := p3
  simp only at HC3 hl3 ⊢
  have H : Hid (CkRep B w bk fx L s) := h
  clear h ht ht1 ht2
  obtain ⟨er, her⟩ : ∃ er, er = (if !ok2 || !ok3 then 6 else e1) := ⟨_, rfl⟩
  rw [← her]
  have HER : Hid (er = _) := her
  clear her
  go_enter Tryz.func117, Tryz.ntmps117
  go_wp2_with fail
  refine (HC1.out _ (H.out.alloc _)).mono ?_
  rintro e w1 ⟨rfl, g1, g2⟩
  have G1 : Hid (CkRep B w1 bk fx L s1) := g1
  have G2 : Hid (CkStep w w1 bk L L) := ((CkStep.refl w bk L).alloc _).trans g2
  clear g1 g2 H HC1
  go_wp2_with fail
  refine (HC2.out _ G1.out).mono ?_
  rintro e w2 ⟨rfl, g1, g2⟩
  have G3 : Hid (CkRep B w2 bk fx L s2) := g1
  have G4 : Hid (CkStep w w2 bk L L) := G2.out.trans g2
  clear g1 g2 G1 G2 HC2
  go_wp2_with fail
  refine (HC3.out _ G3.out).mono ?_
  rintro e w3 ⟨rfl, g1, g2⟩
  have c2 := g1.here.cell 2
  simp at c2
  have f2 := g1.here.frozen 2
  have l1 := g1.here.lt
  have G5 : Hid (CkStep w w3 bk L L) := G4.out.trans g2
  clear g2 G3 G4 HC3
  have hne := owns_ne g1.st g1.here (by decide)
  go_wp2_with (at_builtin; go_must (refine wpList_app rowByte _ rfl (.tmp 27) (.tmp 29) rfl _ _ _ rfl (owns_alloc g1.st _) _ [.int .u8 t3.toNat] rfl (Has.new _ _ _) rfl ?one ?bd ?go))
  case one => simp [Value.oneCell']
  case bd => omega
  case go =>
    intro g cap w5 q1 q2 q3 q4
    have hH5 : Has w5 bk _ _ := (g1.here.alloc _).fr q2 hne
    have t2 := hH5.cell 2
    simp at t2
    have tf2 := hH5.frozen 2
    obtain ⟨n1, n2, n3, n4, n5⟩ := app_net g1.here hne q2 q1 (by decide) q3 q4 2
    have fin := g1.putSt (t3 :: s3.st) (sa2 := some ⟨g, 0, none⟩) (sc2 := cap) n1 (by simpa using n2) (by simpa [byteCells] using n3) (fun k hk => by simp [Value.ownBlock] at hk; subst hk; exact n4)
    have FIN : Hid (_ ∧ _) := And.intro fin.1 (G5.out.trans fin.2)
    clear fin n1 n2 n3 n4 n5 q1 q2 q3 q4 hH5 g1 hne G5
    cases ok2 with
    | false =>
      go_wp2
      go_ret
      rw [HER.out]
      exact ⟨rfl, _, FIN.out⟩
    | true =>
      cases ok3 with
      | false =>
        go_wp2
        go_ret
        rw [HER.out]
        exact ⟨rfl, _, FIN.out⟩
      | true =>
        go_wp2
        go_ret
        rw [HER.out]
        exact ⟨rfl, _, FIN.out⟩
end Go.Proofs.Qxb6500575aGreatDoor
