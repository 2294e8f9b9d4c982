/-
  THE WALK of runm.cut.
-/
import Derived.Test.Qxb6500575aGreatDoorYCut
namespace Go.Proofs.Qxb6500575aGreatDoor
open Go Go.RowKit
set_option linter.unusedVariables false
set_option linter.unusedSimpArgs false

section
variable {w : World} {bn : Nat} {q : NF} {L : NL} {x : ND}
set_option maxRecDepth 100000
set_option maxHeartbeats 400000
theorem ycut_any (h : NRep w bn q L x) {xs ys zs : List V} (hs : x.st = xs ++ (ys ++ zs)) (hl : x.st.length ≤ 1000) : Calls Tryz.prog 134 #[.pointer (some ⟨bn, 0, none⟩), .int .i64 zs.length, .int .i64 xs.length] w fun e w' => e = .returned (.bool true) ∧ NRep w' bn q L { x with st := xs ++ zs } ∧ NStep w w' bn L L := by
  have hsl : x.st.length = xs.length + (ys.length + zs.length) := by rw [hs]; simp
  have c3 := h.here.cell 3
  have f3 := h.here.frozen 3
  have hblt := h.here.lt
  simp at c3
  rcases owns_form h.st with ⟨n1, n2, n3⟩ | ⟨gs, n1, n2⟩
  · have hx : xs = [] := List.eq_nil_of_length_eq_zero (by omega)
    have hz : zs = [] := List.eq_nil_of_length_eq_zero (by omega)
    have hst : x.st = [] := List.eq_nil_of_length_eq_zero (by omega)
    subst hx; subst hz
    have FIN : Hid (∀ W, Fr (fun _ => False) w W → NRep (W.setCell ⟨bn, 3, none⟩ (.slice none 0 0)) bn q L { x with st := [] ++ [] } ∧ NStep w (W.setCell ⟨bn, 3, none⟩ (.slice none 0 0)) bn L L) := by
      intro W hW
      obtain ⟨r1, r2⟩ := (h.fresh hW).cutSt [] [] (by rw [hst]; rfl)
      simp only [n1, n3, List.length_nil] at r1 r2
      exact ⟨r1, (NStep.fresh hW).trans r2⟩
    rw [n1, n2, n3] at c3
    clear h hs hsl n1 n2 n3 hst
    have hcp : ∀ dp dl dc sp sc w, (Builtin.copy_ #[37, 37] 3 #[Value.slice dp dl dc, Value.slice sp 0 sc]).run Tryz.prog w = .ok (goInt 0) w := fun dp dl dc sp sc w => run_copy_zero w _ _ _ 70 2 dp sp dl dc 0 sc (by kernel_rfl) (by kernel_rfl) (by simp)
    simp only [List.length_nil]
    go_enter Tryz.func134, Tryz.ntmps134
    go_wp2
    refine wp_region_tail 18 (by kernel_rfl) (by kernel_rfl) (fun _ _ _ _ _ h => h) ?_
    simp only [List.take_succ_cons, List.take_zero, List.drop_succ_cons, List.drop_zero]
    repeat go_big_quiet_step (fail)
    refine wpQuiet_nil ?_
    go_wp2
    go_ret
    exact ⟨rfl, FIN.out _ ((Fr.refl _ _).drew)⟩
  · obtain ⟨cur, hcur, hfit, hbg, hcap, hcell, fin1, fin2⟩ := h.cutRow hs n1
    have FIN1 : Hid (∀ W w1, _) := fin1
    have FIN2 : Hid (∀ W, _) := fin2
    rw [n1, hsl] at c3
    clear fin1 fin2 h n1 n2
    by_cases hx : xs = []
    · subst hx
      have hcp : ∀ dp dl dc sp sc w, (Builtin.copy_ #[37, 37] 3 #[Value.slice dp dl dc, Value.slice sp 0 sc]).run Tryz.prog w = .ok (goInt 0) w := fun dp dl dc sp sc w => run_copy_zero w _ _ _ 70 2 dp sp dl dc 0 sc (by kernel_rfl) (by kernel_rfl) (by simp)
      have FIN3 : Hid (∀ W sc, Fr (fun _ => False) w W → sc = L.sc → NRep (W.setCell ⟨bn, 3, none⟩ (.slice (some ⟨gs, 0, none⟩) zs.length sc)) bn q L { x with st := zs } ∧ NStep w (W.setCell ⟨bn, 3, none⟩ (.slice (some ⟨gs, 0, none⟩) zs.length sc)) bn L L) := by
        rintro W sc hW rfl
        exact FIN2.out W hW rfl
      clear hcell hcur FIN1 FIN2
      simp only [List.length_nil, Nat.zero_add, Nat.add_zero, List.nil_append] at c3 hcap hfit hsl ⊢
      have hb1 : ys.length + zs.length ≤ 1000 := by omega
      clear hs hsl hl
      go_enter Tryz.func134, Tryz.ntmps134
      go_wp2
      refine wp_region_tail 18 (by kernel_rfl) (by kernel_rfl) (fun _ _ _ _ _ h => h) ?_
      simp only [List.take_succ_cons, List.take_zero, List.drop_succ_cons, List.drop_zero]
      repeat go_big_quiet_step (fail)
      refine wpQuiet_nil ?_
      simp only [Nat.sub_self]
      go_wp2
      all_goals
        go_ret
        exact ⟨rfl, FIN3.out _ _ ((Fr.refl _ _).drew) (by omega)⟩
    · have hx0 : 0 < xs.length := List.length_pos_iff.2 hx
      have hb1 : xs.length + (ys.length + zs.length) ≤ 1000 := by omega
      have q1 : ¬ L.sc = zs.length := by omega
      have q2 : ¬ L.sc = ys.length + zs.length := by omega
      have e1 : xs.length + (ys.length + zs.length) - xs.length = ys.length + zs.length := by omega
      have e2 : xs.length + (ys.length + zs.length) - (ys.length + zs.length) = xs.length := by omega
      have e3 : xs.length + (ys.length + zs.length) - zs.length = xs.length + ys.length := by omega
      obtain ⟨W, HW0⟩ : ∃ W, W = w.drew.setRow gs (cur.toList.take (zs.length * 2) ++ stCells xs ++ cur.toList.drop (zs.length * 2 + xs.length * 2)).toArray := ⟨_, rfl⟩
      have hrun : (Builtin.copy_ #[37, 37] 3 #[.slice (some ⟨gs, zs.length * 2, none⟩) (xs.length + ys.length) (L.sc - zs.length), .slice (some ⟨gs, (ys.length + zs.length) * 2, none⟩) xs.length (L.sc - (ys.length + zs.length))]).run Tryz.prog w.drew = .ok (.int .i64 xs.length) W := by
        have := run_copy_size (P := Tryz.prog) w.drew 37 37 3 70 2 (by kernel_rfl) (by kernel_rfl) gs (zs.length * 2) (xs.length + ys.length) (L.sc - zs.length) gs ((ys.length + zs.length) * 2) xs.length (L.sc - (ys.length + zs.length)) cur 70 hcur (stCells xs) xs.length (by omega) (stCells_len xs) (fun j v hj => hcell j v hj) (stCells_one xs) hfit
        rw [this, HW0]
      have FIN4 : Hid (NRep (W.setCell ⟨bn, 3, none⟩ (.slice (some ⟨gs, 0, none⟩) (zs.length + xs.length : Nat) L.sc)) bn q L { x with st := xs ++ zs } ∧ NStep w (W.setCell ⟨bn, 3, none⟩ (.slice (some ⟨gs, 0, none⟩) (zs.length + xs.length : Nat) L.sc)) bn L L) := FIN1.out w.drew W ((Fr.refl _ _).drew) HW0
      have FW : Fr (fun j => j = gs) w W := by
        rw [HW0]
        exact ⟨rfl, rfl, rfl, by simp [World.setRow], fun j _ hj => setRow_other _ gs j _ hj⟩
      have hbw := FW.block bn hblt hbg
      have d3 : W.cell? ⟨bn, 3, none⟩ = some (.slice (some ⟨gs, 0, none⟩) (xs.length + (ys.length + zs.length)) L.sc) := by rw [← c3]; exact World.cell?_of_block hbw
      have g3 : W.frozen? ⟨bn, 3, none⟩ = false := by rw [← f3]; exact World.frozen?_of_block hbw
      have l3 : bn < W.heap.size := Nat.lt_of_lt_of_le hblt FW.size
      clear HW0 FW hbw hcell hcur FIN1 FIN2 hs hsl hl hx
      go_enter Tryz.func134, Tryz.ntmps134
      go_wp2
      refine wp_region_tail 18 (by kernel_rfl) (by kernel_rfl) (fun _ _ _ _ _ h => h) ?_
      simp only [List.take_succ_cons, List.take_zero, List.drop_succ_cons, List.drop_zero]
      repeat go_big_quiet_step (fail)
      refine wpQuiet_nil ?_
      simp only [e1, e2, e3]
      go_wp2
      go_ret
      exact ⟨rfl, FIN4.out⟩
end
end Go.Proofs.Qxb6500575aGreatDoor
