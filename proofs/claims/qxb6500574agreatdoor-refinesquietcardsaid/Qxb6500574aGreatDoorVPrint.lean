/-
  THE WALK of vm: the builtin print.
-/
import Derived.Test.Qxb6500574aGreatDoorVBu
import Derived.Test.Qxb6500574aGreatDoorVOutS
import Derived.Test.Qxb6500574aGreatDoorVLawN
namespace Go.Proofs.Qxb6500574aGreatDoor
open Go Go.RowKit
set_option linter.unusedVariables false
set_option linter.unusedSimpArgs false
section
variable {w : World} {A : VL} {m : VMD} {f e B d : Nat} {a0 a1 : Vl} {K : Cx}
set_option maxRecDepth 100000
set_option maxHeartbeats 600000
theorem bPrint_any (h : VRep w A m f e) (ha : Ar w B d a0 a1) (hv : VOk K a0) (ho : m.out.length ≤ 200) : Calls Tryz.prog 286 #[.pointer (some ⟨A.b, 0, none⟩), .pointer (some ⟨B, d, none⟩)] w (BuPost (builtinP m 1 a0 a1) w A f e) := by
  obtain ⟨Q, HQ⟩ : ∃ Q : Ending → World → Prop, Hid (BuPost (builtinP m 1 a0 a1) w A f e = Q) := ⟨_, rfl⟩
  rw [HQ.out]
  have hop : builtinP m 1 a0 a1 = (if m.out.length + (textV a0).length + 1 > 200 then trapR 10 m else (.inr (nilV, nilV), { m with out := m.out ++ textV a0 ++ [10] })) := by
    unfold builtinP
    simp (config := { decide := true }) only [if_true, if_false]
  have HOP : Hid (builtinP m 1 a0 a1 = _) := hop
  clear hop
  have HR : Hid (VRep w A m f e) := h
  have hf2 : Fr (fun _ => False) w ((w.alloc (.cells #[.int .i64 0, .int .u64 0, sv []] 68)).alloc (.cells #[.int .i64 0, .int .u64 0, sv []] 68)) := ((Fr.refl _ w).alloc _).alloc _
  have z0 : A.o w.heap.size = 0 := h.own _ (Nat.le_refl _)
  have z1 : A.o (w.heap.size + 1) = 0 := h.own _ (Nat.le_succ _)
  have HZ : Hid (A.o w.heap.size = 0 ∧ A.o (w.heap.size + 1) = 0) := ⟨z0, z1⟩
  have hbl := h.bl
  obtain ⟨c0, c1, c2, c3, c4, c5, cl⟩ := ha
  have hl40 := text_len hv
  have HV : Hid (VOk K a0) := hv
  obtain ⟨t0, n0, s0⟩ := a0
  dsimp only at c0 c1 c2
  clear h z0 z1 hv
  go_enter Tryz.func286, Tryz.ntmps286
  go_wp2_with fail
  refine (text_any (HR.out.fresh hf2) ⟨t0, n0, s0⟩ HV.out.w HV.out.b).mono ?_
  rintro e' w1 ⟨rfl, r1, s1⟩
  obtain ⟨r2, y0, y1⟩ := (R2.new w).st s1 (fun x => x rfl) HZ.out.1 HZ.out.2
  have HR1 : Hid (VRep w1 A m f e) := r1
  have HS1 : Hid (VSt isVM w A w1 A) := (VSt.fresh hf2).trans s1
  have HR2 : Hid (R2 w1 w.heap.size nilV nilV ∧ A.o w.heap.size = 0 ∧ A.o (w.heap.size + 1) = 0) := ⟨r2, y0, y1⟩
  have n11 := r1.cell0 11
  simp only [vmCells, List.getElem?_toArray, List.getElem?_cons_succ, List.getElem?_cons_zero, Sl.v] at n11
  have hbl1 := r1.bl
  generalize textV ⟨t0, n0, s0⟩ = l at *
  obtain ⟨N, HN⟩ : ∃ N, Hid (m.out.length = N) := ⟨_, rfl⟩
  obtain ⟨L, HL⟩ : ∃ L, Hid (l.length = L) := ⟨_, rfl⟩
  rw [HN.out] at n11 ho
  rw [HL.out] at hl40
  rw [HN.out, HL.out] at HOP
  have hsl : l.toArray.size = L := by rw [← HL.out]; simp
  have hsl2 : (⟨l.toArray⟩ : ByteArray).size = L := hsl
  clear r1 s1 r2 y0 y1 hf2
  by_cases hbig : N + L + 1 > 200
  · rw [if_pos hbig] at HOP
    have hbig2 : (200 : Int) < (N : Int) + L + 1 := by omega
    go_wp2_with fail
    refine (stop_any 10).mono ?_
    rintro e' w3 ⟨rfl, rfl⟩
    have FIN : Hid (Q (.panicked (trapE 10)) w3) := by
      rw [← HQ.out, HOP.out]
      exact ⟨rfl, A, HR1.out, HS1.out⟩
    exact ⟨rfl, FIN.out⟩
  · rw [if_neg hbig] at HOP
    have hbig2 : ¬ ((200 : Int) < (N : Int) + L + 1) := by omega
    go_wp2_with (at_builtin; go_must (refine wpList_appStr row_out (by kernel_rfl) _ rfl (.tmp 28) (.tmp 29) rfl _ N (m.out.flatMap bCells) rfl (by have := HR1.out.core.out.own; rw [HN.out] at this; exact this) l rfl ?bd ?go))
    case bd => rw [HL.out]; omega
    case go =>
      intro b2 cap w2 q1 q2 q3
      obtain ⟨k1, o', k2, k3⟩ := HR1.out.app_outS l (Fr.refl _ w1) (a := b2) (cap := cap) (by rw [HN.out]; exact q1) (by rw [HN.out]; exact q2) (by rw [HN.out]; exact q3)
      rw [HN.out, HL.out] at k2 k3
      rw [HL.out]
      obtain ⟨A1, r3, s3, hA1⟩ : ∃ A1, VRep (w2.setCell ⟨A.b, 11, none⟩ (.slice b2 (N + L) cap)) A1 { m with out := m.out ++ l } f e ∧ VSt (fun k => k = 1 ∨ k = 14) w1 A (w2.setCell ⟨A.b, 11, none⟩ (.slice b2 (N + L) cap)) A1 ∧ A1.C.out = ⟨b2, cap⟩ := ⟨_, k2, k3, rfl⟩
      have u11 := k1.cell 11
      have y11 := k1.frozen 11
      have ybl := k1.lt
      simp only [vmCells, List.getElem?_toArray, List.getElem?_cons_succ, List.getElem?_cons_zero, Sl.v] at u11
      obtain ⟨w3, HW3⟩ : ∃ w3, Hid (w2.setCell ⟨A.b, 11, none⟩ (.slice b2 (N + L) cap) = w3) := ⟨_, rfl⟩
      rw [HW3.out] at r3 s3
      have HR3 : Hid (VRep w3 A1 { m with out := m.out ++ l } f e) := r3
      have HS3 : Hid (VSt isVM w A w3 A1) := HS1.out.trans (s3.weaken (fun k hk => by unfold isVM; omega))
      obtain ⟨p2, y0, y1⟩ := HR2.out.1.st s3 (by omega) HR2.out.2.1 HR2.out.2.2
      have HR4 : Hid (R2 w3 w.heap.size nilV nilV ∧ A1.o w.heap.size = 0 ∧ A1.o (w.heap.size + 1) = 0) := ⟨p2, y0, y1⟩
      have hb1 : A1.b = A.b := s3.b
      have n12 := r3.cell0 11
      have hbl3 := r3.bl
      simp only [vmCells, List.getElem?_toArray, List.getElem?_cons_succ, List.getElem?_cons_zero, Sl.v, List.length_append] at n12
      rw [hb1, HN.out, HL.out] at n12
      rw [hb1] at hbl3
      have hown := r3.core.out.own
      simp only [List.length_append, HN.out, HL.out, hA1] at hown
      have HOWN : Hid (w3.ownsRow 0 5 1 (.slice b2 (N + L) cap) (N + L) ((m.out ++ l).flatMap bCells)) := hown
      have HA1 : Hid (A1.C.out = ⟨b2, cap⟩) := hA1
      have HB1 : Hid (A1.b = A.b) := hb1
      have hsz : w2.heap.size = w3.heap.size := by rw [← HW3.out]; simp [World.setCell]
      have HSZ : Hid (w2.heap.size = w3.heap.size) := hsz
      clear q1 q2 q3 k1 k2 k3 r3 s3 p2 y0 y1 hown hbl1 n12 hbl3 hA1 hb1 hsz
      have hown2 : (w3.alloc (.cells #[.int .u8 10] 5)).ownsRow 0 5 1 (.slice b2 (N + L) cap) (N + L) ((m.out ++ l).flatMap bCells) := owns_fr HOWN.out ((Fr.refl (fun _ => False) w3).alloc _) (fun _ _ x => x)
      have HOWN2 : Hid (World.ownsRow _ _ _ _ _ _ _) := hown2
      clear hown2
      go_wp2_with (at_builtin; go_must (refine wpList_appN row_out _ rfl (.tmp 37) (.tmp 38) rfl (.slice b2 (N + L) cap) (N + L) ((m.out ++ l).flatMap bCells) rfl ?own w2.heap.size 1 1 [.int .u8 10] rfl ?hB rfl (by omega) (by simp [Value.oneCell']) ?bd ?go2))
      case own => rw [HW3.out]; exact HOWN2.out
      case hB => rw [HW3.out, HSZ.out]; exact Has.new _ _ _
      case bd => omega
      case go2 =>
        intro g2 cap2 w4 q1 q2 q3 q4
        rw [HW3.out] at q2
        rw [HSZ.out] at q3
        obtain ⟨k1, k2, k3⟩ := HR3.out.app_out 10 ((Fr.refl (fun _ => False) w3).alloc (.cells #[.int .u8 10] 5)) (g := g2) (cap := cap2) (w2 := w4) (by simp only [List.length_append, HN.out, HL.out, List.flatMap_append, List.append_assoc]; exact q1) (by simp only [List.length_append, HN.out, HL.out, HA1.out]; exact q2) (by
          simp only [List.length_append, HN.out, HL.out, HA1.out]
          rcases q3 with q3 | q3
          · exact .inl q3
          · right; omega) q4
        simp only [List.length_append, HN.out, HL.out] at k2 k3
        obtain ⟨A2, r5, s5⟩ : ∃ A2, VRep (w4.setCell ⟨A.b, 11, none⟩ (.slice (some ⟨g2, 0, none⟩) (N + L + 1) cap2)) A2 { m with out := m.out ++ l ++ [10] } f e ∧ VSt (fun k => k = 1 ∨ k = 14) w3 A1 (w4.setCell ⟨A.b, 11, none⟩ (.slice (some ⟨g2, 0, none⟩) (N + L + 1) cap2)) A2 := ⟨_, by rw [← HB1.out]; exact k2, by rw [← HB1.out]; exact k3⟩
        rw [HB1.out] at k1
        have u11 := k1.cell 11
        have y11 := k1.frozen 11
        have ybl := k1.lt
        simp only [vmCells, List.getElem?_toArray, List.getElem?_cons_succ, List.getElem?_cons_zero, Sl.v] at u11
        obtain ⟨w5, HW5⟩ : ∃ w5, Hid (w4.setCell ⟨A.b, 11, none⟩ (.slice (some ⟨g2, 0, none⟩) (N + L + 1) cap2) = w5) := ⟨_, rfl⟩
        rw [HW5.out] at r5 s5
        obtain ⟨r2, y0, y1⟩ := HR4.out.1.st s5 (by omega) HR4.out.2.1 HR4.out.2.2
        obtain ⟨q8, q9⟩ := bu_end (R := builtinP m 1 ⟨t0, n0, s0⟩ a1) (p := (nilV, nilV)) HOP.out r5 (HS3.out.trans (s5.weaken (fun k hk => by unfold isVM; omega))) ⟨_, _, r2⟩ y0 y1
        rw [HQ.out] at q8
        have lb14 : ∀ g, (Value.slice b2 (N + L) cap).ownBlock = some g → A1.o g = 14 := fun g hg => HR3.out.core.out.lb g (by rw [HA1.out]; rw [ownBlock_any _ _ _ (N + L) cap]; exact hg)
        have g4 : Has w4 w.heap.size #[.int .i64 0, .int .u64 0, sv []] 68 := (HR4.out.1.h4.alloc _).fr q2 (fun hS => by have := lb14 _ hS; have := HR4.out.2.1; omega)
        have g5 : Has w4 (w.heap.size + 1) #[.int .i64 0, .int .u64 0, sv []] 68 := (HR4.out.1.h5.alloc _).fr q2 (fun hS => by have := lb14 _ hS; have := HR4.out.2.2; omega)
        rw [← HW5.out] at q8 q9
        have HQ1 : Hid (Q _ _) := q8
        have HQ2 : Hid (R2 _ _ _ _) := q9
        obtain ⟨e0, e1, e2⟩ := Has.cells3 (v := nilV) g4
        obtain ⟨e3, e4, e5⟩ := g4.frz3
        obtain ⟨d0, d1, d2⟩ := Has.cells3 (v := nilV) g5
        obtain ⟨d3, d4, d5⟩ := g5.frz3
        dsimp only [nilV] at e0 e1 e2 d0 d1 d2
        have l4 := g4.lt
        have l5 := g5.lt
        clear q1 q2 q3 q4 k1 k2 k3 r5 s5 r2 y0 y1 q8 q9 lb14 g4 g5 HW5 HOWN2 HOWN
        go_wp2_with fail
        refine bodyPost_ret (res_cell2 isVal isVal rfl rfl HQ2.out.h4 rfl rfl HQ2.out.h5 rfl) rfl ?_
        exact HQ1.out
end
end Go.Proofs.Qxb6500574aGreatDoor
