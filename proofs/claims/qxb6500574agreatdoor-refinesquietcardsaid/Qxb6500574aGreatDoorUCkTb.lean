/-
  THE WALKS of num.Check, table.Check.
-/
import Derived.Test.Qxb6500574aGreatDoorUCkM5
namespace Go.Proofs.Qxb6500574aGreatDoor
open Go Go.RowKit
set_option linter.unusedVariables false
set_option linter.unusedSimpArgs false
section
variable {w : World} {o : Nat → Nat} {bt bn bf n h g : Nat} {s : Sl} {xs : List (TabD × TbL)} {t : TabD} {l : TbL}
set_option maxRecDepth 100000
set_option maxHeartbeats 1000000
theorem numCheck_any (r : NumRep w o bn bf) : Calls Tryz.prog 87 #[.pointer (some ⟨bn, 0, none⟩)] w fun e' w' => e' = .returned (.bool true) ∧ w' = w := by
  have b0 := r.here.has.cell 0
  have hb := r.here.has.lt
  simp only [List.getElem?_toArray, List.getElem?_cons_zero] at b0
  clear r
  go_enter Tryz.func87, Tryz.ntmps87
  go_wp2_with fail
  go_ret
  exact ⟨rfl, rfl⟩
theorem look_cl (h : TCk t) : look t.nums (fromIntN ((t.arr.length : Int) + 1)) = none := by
  refine look_none (fun e he hk => ?_)
  have h1 := h.cl e he
  rw [hk] at h1
  have h2 : t.arr.length + 1 ≤ 33 := by have := h.mid.sz; have := h.mid.ol; omega
  have h3 := fromInt_back (i := t.arr.length + 1) (by omega) h2
  exact h1 (by rw [show ((t.arr.length + 1 : Nat) : Int) = (t.arr.length : Int) + 1 from rfl] at h3; exact h3)
theorem tabCheck_any (r : TabsRep w o bt bn s n xs) (hck : ∀ x ∈ xs, TCk x.1) (h12 : xs.length ≤ 12) :
    Calls Tryz.prog 88 #[.pointer (some ⟨bt, 0, none⟩)] w fun e' w' => e' = .returned (.bool true) ∧ Fr (fun _ => False) w w' := by
  obtain ⟨Q, HQ⟩ : ∃ Q : Ending → World → Prop, Hid ((fun e' w' => e' = .returned (.bool true) ∧ Fr (fun _ => False) w w') = Q) := ⟨_, rfl⟩
  rw [HQ.out]
  have FIN : Hid (∀ W, Fr (fun _ => False) w W → Q (.returned (.bool true)) W) := fun W hF => by rw [← HQ.out]; exact ⟨rfl, hF⟩
  have b1 := r.here.has.cell 1
  have b2 := r.here.has.cell 2
  have hbt := r.here.has.lt
  simp only [List.getElem?_toArray, List.getElem?_cons_zero, List.getElem?_cons_succ, Sl.v] at b1 b2
  have HR : Hid (TabsRep w o bt bn s n xs) := r
  have HCK : Hid (∀ x ∈ xs, TCk x.1) := hck
  have HWT : Hid (∀ h x, xs[h]? = some x → n ≤ h → x.1 = tab0) := r.wait
  have hle := r.le
  obtain ⟨NX, HNX⟩ : ∃ x, Hid (xs.length = x) := ⟨_, rfl⟩
  rw [HNX.out] at b1 hle h12
  have g1 : decide ((n : Int) < 0) = false := by rw [decide_eq_false_iff_not]; omega
  have g2 : decide (NX < n) = false := by rw [decide_eq_false_iff_not]; omega
  have g3 : decide (12 < NX) = false := by rw [decide_eq_false_iff_not]; omega
  clear r hck
  go_enter Tryz.func88, Tryz.ntmps88
  go_wp2_with fail
  refine wp_region_tail 24 (by kernel_rfl) (by kernel_rfl) (fun _ _ _ _ _ h => h) ?_
  simp only [List.take_succ_cons, List.take_zero, List.drop_succ_cons, List.drop_zero]
  repeat go_big_quiet_step (fail)
  refine wpQuiet_nil ?_
  have HFD : Hid (Fr (fun _ => False) w w.drew) := (Fr.refl _ _).drew
  go_wp2_with fail
  generalize w.drew = w0 at HFD ⊢
  go_loopw [38] (fun v38 wr => ∃ (j : Nat), j ≤ NX ∧ v38 = .int .i64 j ∧ Hid (Fr (fun _ => False) w wr)) (fun v38 _ => NX - (intOf v38).toNat)
  case atStart => exact ⟨0, by omega, rfl, HFD⟩
  case round =>
    obtain ⟨j, hj, rfl, HFj⟩ := hrel
    by_cases hjN : NX = j
    · subst hjN
      have FIN2 : Hid (Q (.returned (.bool true)) wr) := FIN.out _ HFj.out
      go_wp2_with fail
      exact FIN2.out
    · obtain ⟨⟨t, l⟩, hx⟩ : ∃ x, xs[j]? = some x := ⟨_, List.getElem?_eq_getElem (by rw [HNX.out]; omega)⟩
      have hjl : (j : Int) < (NX : Int) := by omega
      have HX : Hid (xs[j]? = some (t, l)) := hx
      have HT : Hid (TCk t) := HCK.out (t, l) (List.mem_of_getElem? hx)
      have HRJ : Hid (TabsRep wr o bt bn s n xs) := HR.out.st (Stp.fresh (fun _ => False) o HFj.out) (fun _ _ x => x)
      clear hx
      go_wp2_with fail
      refine (checkMid_any HRJ.out HX.out HT.out.mid (by rw [HNX.out]; exact h12)).mono ?_
      rintro e' w1 ⟨rfl, F1⟩
      have HF1 : Hid (Fr (fun _ => False) w w1) := HFj.out.trans F1 (fun _ _ x => x)
      have HR1 : Hid (TabsRep w1 o bt bn s n xs) := HR.out.st (Stp.fresh (fun _ => False) o HF1.out) (fun _ _ x => x)
      clear F1
      obtain ⟨g, ga, gcap, _, gl, gc, gf⟩ := HR1.out.at HX.out
      have b0 := HR1.out.here.has.cell 0
      have b1 := HR1.out.here.has.cell 1
      have b2 := HR1.out.here.has.cell 2
      have hbt := HR1.out.here.has.lt
      have c0 := gc 0 (by omega)
      have c1 := gc 1 (by omega)
      have c2 := gc 2 (by omega)
      simp only [List.getElem?_toArray, List.getElem?_cons_zero, List.getElem?_cons_succ, Sl.v, tbCells, ga, Nat.add_zero] at b0 b1 b2 c0 c1 c2
      rw [HNX.out] at b1 gcap
      have hal : t.arr.length ≤ 32 := by have := HT.out.mid.sz; have := HT.out.mid.ol; omega
      have hlk := run_look isK_u64 mapU ((HR1.out.st (Stp.fresh (fun _ => False) o ((Fr.refl _ _).drew)) (fun _ _ x => x)).one j _ HX.out).nums (fromIntN ((t.arr.length : Int) + 1))
      have hnone : look (t, l).1.nums (fromIntN ((t.arr.length : Int) + 1)) = none := look_cl HT.out
      rw [hnone] at hlk
      simp only [Option.getD_none, Option.isSome_none] at hlk
      have hord : n ≤ j → t.order.length = 0 := fun hn => by
        have := HWT.out j _ HX.out hn
        dsimp only at this
        rw [this]
        rfl
      obtain ⟨NA, HNA⟩ : ∃ x, Hid (t.arr.length = x) := ⟨_, rfl⟩
      rw [HNA.out] at c1 hal hlk
      obtain ⟨NO, HNO⟩ : ∃ x, Hid (t.order.length = x) := ⟨_, rfl⟩
      rw [HNO.out] at c0 hord
      clear gc gf hnone ga
      go_wp2_with fail
      refine wp_region_tail 10 (by kernel_rfl) (by kernel_rfl) (fun _ _ _ _ _ h => h) ?_
      simp only [List.take_succ_cons, List.take_zero, List.drop_succ_cons, List.drop_zero]
      repeat go_big_quiet_step (fail)
      refine wpQuiet_nil ?_
      go_wp2_with fail
      refine (fromInt_any _ _).mono ?_
      rintro e' w2 ⟨rfl, rfl⟩
      have HF2 : Hid (Fr (fun _ => False) w w1.drew) := HF1.out.drew
      by_cases hn : n ≤ j
      · have hNO := hord hn
        clear hord
        subst hNO
        have g4 : decide (n ≤ j) = true := by rw [decide_eq_true_iff]; exact hn
        clear hn
        go_wp2_with fail
        go_roundw
        case rel => exact ⟨j + 1, by omega, rfl, HF2⟩
        case measure => simp [intOf]; omega
      · have g4 : decide (n ≤ j) = false := by rw [decide_eq_false_iff_not]; exact hn
        clear hord hn
        go_wp2_with fail
        go_roundw
        case rel => exact ⟨j + 1, by omega, rfl, HF2⟩
        case measure => simp [intOf]; omega
end
end Go.Proofs.Qxb6500574aGreatDoor
