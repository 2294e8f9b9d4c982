/-
  THE WALKS of compm: Run, whole.
-/
import Derived.Test.Qxb6500574aGreatDoorZG3
import Derived.Test.Qxb6500574aGreatDoorZG0
import Derived.Test.Qxb6500574aGreatDoorZR15
import Derived.Test.Qxb6500574aGreatDoorWNe
namespace Go.Proofs.Qxb6500574aGreatDoor
open Go Go.RowKit
set_option linter.unusedVariables false
set_option linter.unusedSimpArgs false
section
variable {w W : World} {N : List Nd} {root bm bn bt bs : Nat} {an : AnD}
theorem RnE.fin (h : CpM w bm bn bt bs) {br : Nat} {e : Ending} {w' : World} (E : RnE w (baseA br bn bt) an e w') : RnF w bm bn bt bs an e w' := by
  obtain ⟨h1, o', h2, h3⟩ := E
  have f : Fr (fun k => k = bt) w w' := h2.fr.weaken (fun k _ x => by
    have x : 1 ≤ (if k = bt then 2 else 0) := x
    by_cases e : k = bt
    · exact e
    · rw [if_neg e] at x; omega)
  exact ⟨h1, f, h.fr f h3⟩
theorem tree_neZ {src : Bs} {y : Nat × Nat} (h : treeP src = .inl y) : y.1 ≠ 0 := by
  unfold treeP at h
  split at h
  · cases h
    exact Nat.one_ne_zero
  · rename_i hl
    have E := (scan_tka src).etk
    dsimp only at h
    split at h
    · rename_i e he
      cases h
      exact par_eo E _ _ _ _ _ _ he
    · rename_i x hx
      split at h
      · obtain ⟨z, hz⟩ : ∃ z, failP (scanP src) x.2 15 = .inl z := ⟨_, rfl⟩
        rw [hz] at h
        cases h
        exact EO.fail E x.2 (e := 15) (by decide) y hz
      · split at h
        · cases h
          exact (by decide : (17 : Nat) ≠ 0)
        · cases h
theorem bodyPost_to {P : Program} {f : Func} {R R' : Ending → World → Prop} (h : ∀ e w, R e w → R' e w) : ∀ e a w, bodyPost P f R e a w → bodyPost P f R' e a w := fun e a w g => by
  cases e with
  | normal => exact ⟨g.1, g.2.choose, g.2.choose_spec.1, h _ _ g.2.choose_spec.2⟩
  | ret => exact ⟨g.1, g.2.choose, g.2.choose_spec.1, h _ _ g.2.choose_spec.2⟩
  | panic c => exact ⟨g.1, h _ _ g.2⟩
  | outgrown => exact h _ _ g
  | _ => exact g
theorem rn_eq : Tryz.f51.body = some (Code.seq (cL (Tryz.f51.body.getD .skip)) (Code.seq (cL (cR (Tryz.f51.body.getD .skip))) (Code.seq (cL (cR (cR (Tryz.f51.body.getD .skip)))) (Code.seq (cL (cR (cR (cR (Tryz.f51.body.getD .skip))))) (Code.seq (cL (cR (cR (cR (cR (Tryz.f51.body.getD .skip)))))) (rnM Tryz.f51.body)))))) := by kernel_rfl
theorem RnB.fuel {br ba : Nat} {nd : Sl} {F : Nat} (h : RnB w W N root br bn bt ba nd F) {fuel : Int} (hf : 0 < fuel) : RnB w (W.setCell ⟨br, 13, none⟩ (.int .i64 fuel)) N root br bn bt ba nd fuel.toNat := by
  obtain ⟨s, ht⟩ := h.t
  have lr := h.lr
  have lt := h.lt
  refine ⟨h.f.setCell (p := ⟨br, 13, none⟩) (.inr h.lr) _, ?_, ⟨s, ht.other (p := ⟨br, 13, none⟩) (show bt ≠ br by omega) _⟩, owns_other h.n (fun e => (h.g _ e).2.1 rfl) _, h.a.other (p := ⟨br, 13, none⟩) h.ra _, h.lr, h.la, h.lt, h.ra, h.g⟩
  have e : (fuel.toNat : Int) = fuel := by omega
  have := h.r.put 13 (.int .i64 fuel)
  rw [e]
  exact this
set_option maxRecDepth 100000
set_option maxHeartbeats 1000000
theorem mrun_any (h : CpM w bm bn bt bs) {src : Bs} {fuel : Int} (hf : fuel ≤ 9223372036854775807) {n : Nat} (hr : ∀ N root, treeP src = .inr (N, root) → runM n N root fuel = some an) (he : ∀ y, treeP src = .inl y → an = ⟨y.1, y.2, 0, [], []⟩) :
    Calls Tryz.prog 51 #[.pointer (some ⟨bm, 0, none⟩), sv src, .int .i64 fuel] w (RnF w bm bn bt bs an) := by
  obtain ⟨ba, HBA⟩ : ∃ b, Hid (w.heap.size = b) := ⟨_, rfl⟩
  obtain ⟨W1, HW1⟩ : ∃ W, Hid (w.alloc (.cells #[.int .i64 0, .int .i64 0, .int .i64 0, sv [], sv []] 54) = W) := ⟨_, Eq.refl _⟩
  have e1 : w.alloc (.cells #[.int .i64 0, .int .i64 0, .int .i64 0, sv [], sv []] 54) = W1 := HW1.out
  have f1 : Fr (fun _ => False) w W1 := by rw [← e1]; exact (Fr.refl _ _).alloc _
  have hA : Has W1 ba #[.int .i64 0, .int .i64 0, .int .i64 0, sv [], sv []] 54 := by rw [← e1]; exact Has.newC w _ _ HBA.out.symm
  have hc1 := h.c.fr f1 (fun x => x)
  have hs1 := h.s.fr f1 (fun x => x)
  have HP : Hid (Calls Tryz.prog 71 #[.pointer (some ⟨bs, 0, none⟩), sv src] W1 (PzA src W1)) := by
    show Calls _ _ _ _ _
    by_cases hl : src.length ≤ 2048
    · exact parse_z hs1 hl
    · exact parse_long (by omega)
  have m2 := hc1.cell 2
  have lm := hc1.lt
  simp only [List.getElem?_toArray, List.getElem?_cons_succ, List.getElem?_cons_zero] at m2
  have HH := hid h
  have HF1 := hid f1
  have HA1 := hid hA
  have HR := hid hr
  have HE := hid he
  have HF := hid hf
  obtain ⟨Q, HQ⟩ : ∃ Q : Ending → World → Prop, Hid (RnF w bm bn bt bs an = Q) := ⟨_, rfl⟩
  rw [HQ.out]
  obtain ⟨TL, HTL⟩ : ∃ TL, Hid (rnM Tryz.f51.body = TL) := ⟨_, rfl⟩
  have EQ := rn_eq
  rw [HTL.out] at EQ
  refine calls_of_wp Tryz.func51 EQ ?_
  have HW1S : Hid (W1.heap.size = ba + 1) := by show _ = _; rw [← e1, ← HBA.out]; simp
  clear h hr he hf f1 hA hs1 hc1 EQ
  simp only [Tryz.ntmps51, List.size_toArray, List.length_cons, List.length_nil, Nat.reduceAdd, Nat.reduceSub, Array.replicate_succ, Array.replicate_zero, List.push_toArray, List.append_toArray, List.nil_append, List.cons_append]
  simp only [cL, cR, Tryz.f51, Option.getD_some]
  go_wp2_with fail
  rw [HBA.out]
  refine HP.out.mono ?_
  rintro e2 w2 ⟨f2, hm⟩
  have HW2S := hid f2.size
  have ha2 := HA1.out.fr f2 (fun x => x)
  cases hy : treeP src with
  | inl y =>
    rw [hy] at hm
    dsimp only at hm
    subst hm
    have hne : y.1 ≠ 0 := tree_neZ hy
    have han := HE.out y hy
    obtain ⟨ye, yp⟩ := y
    have hne' : ((ye : Int) != 0) = true := by rw [bne_iff_ne]; simp only at hne; omega
    have F2 : Fr (fun _ => False) w w2 := HF1.out.trans f2 (fun _ _ x => x)
    have lba : w.heap.size ≤ ba := by rw [HBA.out]; exact Nat.le_refl _
    have F3 : Fr (fun _ => False) w (((((w2.setCell ⟨ba, 0, none⟩ (.int .i64 ye)).setCell ⟨ba, 1, none⟩ (.int .i64 yp)).setCell ⟨ba, 2, none⟩ (.int .i64 0)).setCell ⟨ba, 3, none⟩ (sv [])).setCell ⟨ba, 4, none⟩ (sv [])) := ((((F2.setCell (p := ⟨ba, 0, none⟩) (.inr lba) _).setCell (p := ⟨ba, 1, none⟩) (.inr lba) _).setCell (p := ⟨ba, 2, none⟩) (.inr lba) _).setCell (p := ⟨ba, 3, none⟩) (.inr lba) _).setCell (p := ⟨ba, 4, none⟩) (.inr lba) _
    have F4 : Fr (fun k => k = bt) w (((((w2.setCell ⟨ba, 0, none⟩ (.int .i64 ye)).setCell ⟨ba, 1, none⟩ (.int .i64 yp)).setCell ⟨ba, 2, none⟩ (.int .i64 0)).setCell ⟨ba, 3, none⟩ (sv [])).setCell ⟨ba, 4, none⟩ (sv [])) := F3.weaken (fun _ _ x => x.elim)
    have T2 : Hid (Has (((((w2.setCell ⟨ba, 0, none⟩ (.int .i64 ye)).setCell ⟨ba, 1, none⟩ (.int .i64 yp)).setCell ⟨ba, 2, none⟩ (.int .i64 0)).setCell ⟨ba, 3, none⟩ (sv [])).setCell ⟨ba, 4, none⟩ (sv [])) ba #[.int .i64 ye, .int .i64 yp, .int .i64 0, sv [], sv []] 54) := by
      show Has _ _ _ _
      have := ((((ha2.put 0 (.int .i64 ye)).put 1 (.int .i64 yp)).put 2 (.int .i64 0)).put 3 (sv [])).put 4 (sv [])
      simpa using this
    have FIN : Hid (Q (.returned (.agg #[.int .i64 ye, .int .i64 yp, .int .i64 0, sv [], sv []])) (((((w2.setCell ⟨ba, 0, none⟩ (.int .i64 ye)).setCell ⟨ba, 1, none⟩ (.int .i64 yp)).setCell ⟨ba, 2, none⟩ (.int .i64 0)).setCell ⟨ba, 3, none⟩ (sv [])).setCell ⟨ba, 4, none⟩ (sv []))) := by
      show Q _ _
      rw [← HQ.out, han]
      obtain ⟨s, ht⟩ := HH.out.t
      exact ⟨rfl, F4, HH.out.fr F4 ⟨s, ht.fr F3 (fun x => x)⟩⟩
    have a0 := ha2.cell 0
    have a1 := ha2.cell 1
    have a2 := ha2.cell 2
    have a3 := ha2.cell 3
    have a4 := ha2.cell 4
    have az0 := ha2.frozen 0
    have az1 := ha2.frozen 1
    have az2 := ha2.frozen 2
    have az3 := ha2.frozen 3
    have az4 := ha2.frozen 4
    have al := ha2.lt
    simp only [List.getElem?_toArray, List.getElem?_cons_succ, List.getElem?_cons_zero] at a0 a1 a2 a3 a4
    clear F2 F3 F4 ha2 f2 hy han hne HP HR HE m2 lm
    go_wp2_with fail
    exact bodyPost_ret (res_cell isAns rfl rfl T2.out rfl) rfl FIN.out
  | inr x =>
    rw [hy] at hm
    dsimp only at hm
    obtain ⟨N, root⟩ := x
    obtain ⟨bx, nd, rfl, PT⟩ := hm
    have HRN := hid (HR.out N root hy)
    have HY := hid hy
    have F2 : Fr (fun _ => False) w w2 := HF1.out.trans f2 (fun _ _ x => x)
    have hc2 := HH.out.c.fr F2 (fun x => x)
    have m0 := hc2.cell 0
    have m1 := hc2.cell 1
    have lm2 := hc2.lt
    simp only [List.getElem?_toArray, List.getElem?_cons_succ, List.getElem?_cons_zero] at m0 m1
    have t0 := PT.t.cell 0
    have t1 := PT.t.cell 1
    have lt2 := PT.t.lt
    simp only [List.getElem?_toArray, List.getElem?_cons_succ, List.getElem?_cons_zero, Sl.v] at t0 t1
    obtain ⟨NL, HNL⟩ : ∃ NL : Nat, Hid (N.length = NL) := ⟨_, rfl⟩
    rw [HNL.out] at t0
    have HPT := hid PT
    have HF2 := hid F2
    have HA2 := hid ha2
    clear m2 lm hy PT F2 hc2 ha2 f2 HP
    have k0 := fun z : WS w2 => z.f.cell m0
    have k1 := fun z : WS w2 => z.f.cell m1
    have k2 := fun z : WS w2 => z.f.cell t0
    have k3 := fun z : WS w2 => z.f.cell t1
    have NE := WS.non w2
    have lba : w.heap.size ≤ ba := by rw [HBA.out]; exact Nat.le_refl _
    have HB3 : Hid (RnB w ((w2.alloc (.cells (rn0 bn bt nd NL root (fuel.toNat : Nat)) 173)).drew) N root w2.heap.size bn bt ba nd fuel.toNat) := by
      obtain ⟨s, ht⟩ := HH.out.t
      have F3 : Fr (fun _ => False) w2 ((w2.alloc (.cells (rn0 bn bt nd NL root (fuel.toNat : Nat)) 173)).drew) := ((Fr.refl _ _).alloc _).drew
      have hr3 : Has ((w2.alloc (.cells (rn0 bn bt nd NL root (fuel.toNat : Nat)) 173)).drew) w2.heap.size (rn0 bn bt nd NL root (fuel.toNat : Nat)) 173 := (Has.new _ _ _).drew
      have F4 : Fr (fun _ => False) w ((w2.alloc (.cells (rn0 bn bt nd NL root (fuel.toNat : Nat)) 173)).drew) := HF2.out.trans F3 (fun _ _ x => x)
      have hn := HPT.out.r
      have zA := HA2.out.lt
      have zW : w.heap.size ≤ W1.heap.size := HF1.out.size
      have zw : W1.heap.size ≤ w2.heap.size := HW2S.out
      refine ⟨F4, by rw [HNL.out]; exact hr3, ⟨s, ht.fr F4 (fun x => x)⟩, owns_fr hn F3 (fun _ _ x => x), HA2.out.fr F3 (fun x => x), HF2.out.size, lba, ht.lt, by omega, fun g hg => ?_⟩
      obtain ⟨g1, g2⟩ := HPT.out.n g hg
      have g3 := owns_lt hn g hg
      refine ⟨by omega, by omega, ?_⟩
      intro e
      have zz : W1.heap.size = ba + 1 := HW1S.out
      omega
    have HQE : Hid (∀ e w', RnE w (baseA w2.heap.size bn bt) an e w' → Q e w') := fun e w' h => by
      rw [← HQ.out]
      exact RnE.fin HH.out h
    have HMID : Hid (∀ (a : Act) (W' : World), RnB w W' N root w2.heap.size bn bt ba nd fuel.toNat → FrRn (.pointer (some ⟨ba, 0, none⟩)) (.pointer (some ⟨w2.heap.size, 0, none⟩)) a → TL.wp Tryz.prog (bodyPost Tryz.prog Tryz.f51 Q) a W') := fun a W' h H => by
      rw [← HTL.out]
      exact Code.wp_mono (bodyPost_to HQE.out) (run_mid HY.out (by have := HF.out; omega) HRN.out h H)
    clear lba
    by_cases h0 : 0 < fuel
    · have hz : (0 < fuel) = True := eq_true h0
      have e : ((fuel.toNat : Nat) : Int) = fuel := by omega
      rw [e] at HB3
      clear e
      go_wp2_with fail
      refine wp_region_head 17 1 (fun y => ∃ s : WS w2, y = s.y) (by kernel_rfl) (by kernel_rfl) (fun _ _ _ _ _ h => h) ⟨⟨w2.drew, (Fr.refl _ _).drew⟩, rfl⟩ ?_
      simp only [List.take_succ_cons, List.take_zero, List.drop_succ_cons, List.drop_zero]
      repeat go_big_quiet_step (fail)
      refine wpQuiet_nil ?_
      unfold wpChain
      go_wp2_with fail
      refine ⟨⟨⟨_, ((Fr.refl _ _).alloc _).drew⟩, rfl⟩, ?_⟩
      rw [wpChain_zero]
      go_wp2_with fail
      refine HMID.out _ _ HB3.out ?_
      exact ⟨by kernel_rfl, by kernel_rfl, by kernel_rfl, rfl⟩
    · have hz : (0 < fuel) = False := eq_false h0
      have e : ((fuel.toNat : Nat) : Int) = 0 := by omega
      rw [e] at HB3
      clear e
      go_wp2_with fail
      refine wp_region_head 17 1 (fun y => ∃ s : WS w2, y = s.y) (by kernel_rfl) (by kernel_rfl) (fun _ _ _ _ _ h => h) ⟨⟨w2.drew, (Fr.refl _ _).drew⟩, rfl⟩ ?_
      simp only [List.take_succ_cons, List.take_zero, List.drop_succ_cons, List.drop_zero]
      repeat go_big_quiet_step (fail)
      refine wpQuiet_nil ?_
      unfold wpChain
      go_wp2_with fail
      refine ⟨⟨⟨_, ((Fr.refl _ _).alloc _).drew⟩, rfl⟩, ?_⟩
      rw [wpChain_zero]
      go_wp2_with fail
      refine HMID.out _ _ HB3.out ?_
      exact ⟨by kernel_rfl, by kernel_rfl, by kernel_rfl, rfl⟩
end
end Go.Proofs.Qxb6500574aGreatDoor
