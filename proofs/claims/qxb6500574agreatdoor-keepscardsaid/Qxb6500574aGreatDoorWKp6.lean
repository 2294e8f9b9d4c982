/-
  THE WALK of complaw: KeptImage.
-/
import Derived.Test.Qxb6500574aGreatDoorWKp3
namespace Go.Proofs.Qxb6500574aGreatDoor
open Go Go.RowKit
set_option linter.unusedVariables false
set_option linter.unusedSimpArgs false
section
variable {bc sx : Nat} {w w1 w2 : World} {o o1 o2 : Nat → Nat} {C C1 : CC} {num : Value} {A A1 : VL} {c c1 : CmD}
/-- what Image comes to from here -/
def KsI (bc : Nat) (w : World) (o : Nat → Nat) (C : CC) (sx : Nat) (num : Value) (w1 : World) (o1 : Nat → Nat) (img : Bs) (er p : Nat) (e : Ending) (w2 : World) : Prop :=
  e = .returned (.tuple #[sv img, .int .i64 er, .int .i64 p]) ∧ ∃ o2 A2 C2 c2, KS bc w o C sx num w2 o2 A2 C2 c2 ∧ Stp QM w1 o1 w2 o2
theorem KS.imageC (h : KS bc w o C sx num w1 o1 A1 C1 c1) {src img : Bs} {er p : Nat} (hi : (imageP src = .inl (er, p) ∧ img = []) ∨ (imageP src = .inr img ∧ er = 0 ∧ p = 0)) :
    Calls Tryz.prog 23 #[.pointer (some ⟨C.cb, 0, none⟩), sv src] w1 (KsI bc w o C sx num w1 o1 img er p) := by
  rw [← h.cb]
  refine (image_any h.M.X src).mono ?_
  rintro e2 w2 ⟨o2, C2, c2, X2, hcb, hgF, hdv, S2, (⟨y, hy, rfl, hC, hc⟩ | ⟨N, root, hy, rfl, hc, hbl⟩)⟩
  · have M2 : CM bc w2 o2 A1 C2 sx num c2 := h.M.turn X2 hdv S2 (fun q => by have := q.lo; omega) (by rw [hC, hc]; exact h.M.ok)
    have S3 := S2.weaken (fun l hl => (.inl hl : QM l))
    have e1 : imageP src = .inl y := by unfold imageP; rw [hy]
    rcases hi with ⟨h1, rfl⟩ | ⟨h1, _, _⟩
    · rw [e1] at h1
      cases h1
      exact ⟨rfl, o2, A1, C2, c2, ⟨M2, hcb.trans h.cb, hgF.trans h.gF, h.S.trans S3⟩, S3⟩
    · rw [e1] at h1
      cases h1
  · have M2 : CM bc w2 o2 A1 C2 sx num c2 := h.M.turn X2 hdv S2 (fun q => by have := q.lo; omega) (.inr ⟨src, N, root, hy, hc, hbl⟩)
    have S3 := S2.weaken (fun l hl => (.inl hl : QM l))
    have e1 : imageP src = .inr (layP (comP N root)) := by unfold imageP; rw [hy]
    rcases hi with ⟨h1, rfl⟩ | ⟨h1, rfl, rfl⟩
    · rw [e1] at h1
      cases h1
    · rw [e1] at h1
      cases h1
      exact ⟨rfl, o2, A1, C2, c2, ⟨M2, hcb.trans h.cb, hgF.trans h.gF, h.S.trans S3⟩, S3⟩
theorem KS.runImC (h : KS bc w o C sx num w1 o1 A1 C1 c1) {im : Bs} {fuel : Int} (hf1 : fuel ≤ 9223372036854775807) {n : Nat} {an : AnD} (hr : runN n im fuel = some an) (a0 a2 : Nat) :
    Calls Tryz.prog 24 #[.agg #[.pointer (some ⟨a0, 0, none⟩), .pointer (some ⟨bc, 0, none⟩), .pointer (some ⟨a2, 0, none⟩)], sv im, .int .i64 fuel] w1 (KsR bc w o C sx num w1 o1 an) := by
  refine (runImage_any h.M hf1 hr a0 a2).mono ?_
  rintro e w2 ⟨rfl, o2, A2, C2, c2, M2, q1, q2, S2⟩
  exact ⟨rfl, o2, A2, C2, c2, ⟨M2, q1.trans h.cb, q2.trans h.gF, h.S.trans S2⟩, S2⟩
end
section
set_option maxRecDepth 100000
set_option maxHeartbeats 1000000
variable {bc sx : Nat} {w : World} {o : Nat → Nat} {C : CC} {num : Value} {A : VL} {c : CmD}
theorem kimg_err (h : CM bc w o A C sx num c) {s : Bs} {fuel : Int} (hf1 : fuel ≤ 9223372036854775807) {e p : Nat} (hi : imageP s = .inl (e, p)) (hs : SynE e) (a0 a2 : Nat) :
    Calls Tryz.prog 9 #[.agg #[.pointer (some ⟨a0, 0, none⟩), .pointer (some ⟨bc, 0, none⟩), .pointer (some ⟨a2, 0, none⟩)], .pointer (some ⟨C.cb, 0, none⟩), sv s, .int .i64 fuel] w (KpQ bc w o C sx num) := by
  have hql := ans_eql
  have F0 : Fr (fun _ => False) w (w.alloc (.cells #[.pointer (some ⟨a0, 0, none⟩), .pointer (some ⟨bc, 0, none⟩), .pointer (some ⟨a2, 0, none⟩)] 27)) := (Fr.refl _ _).alloc _
  have IM := ((KS.refl h).fresh F0).imageC (.inl ⟨hi, rfl⟩)
  obtain ⟨z, s0, t0, HZ⟩ : ∃ (z : Nat) (s0 t0 : Bs), Hid (z = 0 ∧ s0 = [] ∧ t0 = []) := ⟨0, [], [], rfl, rfl, rfl⟩
  have HE : Hid (∀ (n : Nat) (fuel : Int), (∀ img, imageP s = .inr img → runN n img fuel = some ⟨e, p, z, s0, t0⟩) ∧ ∀ y, imageP s = .inl y → (⟨e, p, z, s0, t0⟩ : AnD) = ⟨y.1, y.2, 0, [], []⟩) := fun n fuel => ⟨fun img h' => (by rw [hi] at h'; cases h'), fun y h' => (by rw [hi] at h'; cases h'; obtain ⟨h1, h2, h3⟩ := HZ.out; rw [h1, h2, h3])⟩
  have he0 : ((e : Int) != 0) = true := by rw [bne_iff_ne]; unfold SynE at hs; omega
  clear h hi hs F0
  go_enter Tryz.func9, Tryz.ntmps9
  go_wp2_with fail
  refine IM.mono ?_
  rintro e' w1 ⟨rfl, o1, A1, C1, c1, K1, _⟩
  have RUN1 := K1.runC hf1 (HE.out 0 fuel).1 (HE.out 0 fuel).2
  clear IM K1
  go_wp2_with fail
  refine RUN1.mono ?_
  rintro e' w3 ⟨rfl, o3, A3, C3, c3, K3, T3⟩
  clear RUN1
  obtain ⟨W3, HW3⟩ : ∃ W, Hid (w3.alloc (.cells #[.int .i64 e, .int .i64 p, .int .i64 z, sv s0, sv t0] 54) = W) := ⟨_, Eq.refl _⟩
  have e3 : w3.alloc (.cells #[.int .i64 e, .int .i64 p, .int .i64 z, sv s0, sv t0] 54) = W3 := HW3.out
  obtain ⟨b8, hb8⟩ : ∃ b, w3.heap.size = b := ⟨_, rfl⟩
  have F3 : Fr (fun _ => False) w3 W3 := by rw [← HW3.out]; exact (Fr.refl _ _).alloc _
  have hb : Has W3 b8 #[.int .i64 e, .int .i64 p, .int .i64 z, sv s0, sv t0] 54 := by rw [← HW3.out, ← hb8]; exact Has.new _ _ _
  have HF : Hid (KpQ bc w o C sx num (.returned (.bool true)) W3) := (K3.fresh F3).fin
  have m0 := hb.cell 0
  have m1 := hb.cell 1
  have m2 := hb.cell 2
  have m3 := hb.cell 3
  have m4 := hb.cell 4
  have ml := hb.lt
  simp only [List.getElem?_toArray, List.getElem?_cons_succ, List.getElem?_cons_zero] at m0 m1 m2 m3 m4
  clear K3 T3 F3 hb HW3
  go_wp2_with fail
  all_goals first
    | (exfalso; first | exact absurd HZ.out.2.2 (by assumption) | exact absurd HZ.out.2.1 (by assumption) | exact absurd HZ.out.1 (by assumption))
    | (go_ret; exact HF.out)
theorem kimg_ok (h : CM bc w o A C sx num c) {s : Bs} {fuel : Int} (hf1 : fuel ≤ 9223372036854775807) {img : Bs} (hi : imageP s = .inr img) (hil : img.length ≤ 31748) {n : Nat} {ae aN am : Nat} {as1 at1 : Bs} (hr : runN n img fuel = some ⟨ae, aN, am, as1, at1⟩) (he : ae = 0 ∨ ae = 12 ∨ ae = 9 ∨ ae = 8 ∨ ae = 10) (a0 a2 : Nat) :
    Calls Tryz.prog 9 #[.agg #[.pointer (some ⟨a0, 0, none⟩), .pointer (some ⟨bc, 0, none⟩), .pointer (some ⟨a2, 0, none⟩)], .pointer (some ⟨C.cb, 0, none⟩), sv s, .int .i64 fuel] w (KpQ bc w o C sx num) := by
  have hqn := ans_neq
  have END : Hid (∀ w, Calls Tryz.prog 21 #[.int .i64 ae] w fun e' w' => e' = .returned (.bool true) ∧ w' = w) := fun w => cending_any ae he
  obtain ⟨W0, HW0⟩ : ∃ W, Hid (w.alloc (.cells #[.pointer (some ⟨a0, 0, none⟩), .pointer (some ⟨bc, 0, none⟩), .pointer (some ⟨a2, 0, none⟩)] 27) = W) := ⟨_, Eq.refl _⟩
  have e0 : w.alloc (.cells #[.pointer (some ⟨a0, 0, none⟩), .pointer (some ⟨bc, 0, none⟩), .pointer (some ⟨a2, 0, none⟩)] 27) = W0 := HW0.out
  obtain ⟨b4, hb4⟩ : ∃ b, w.heap.size = b := ⟨_, rfl⟩
  have F0 : Fr (fun _ => False) w W0 := by rw [← HW0.out]; exact (Fr.refl _ _).alloc _
  have hB : Has W0 b4 #[.pointer (some ⟨a0, 0, none⟩), .pointer (some ⟨bc, 0, none⟩), .pointer (some ⟨a2, 0, none⟩)] 27 := by rw [← HW0.out, ← hb4]; exact Has.new _ _ _
  have oB : o b4 = 0 := by rw [← hb4]; exact (KS.refl h).own
  have IM := ((KS.refl h).fresh F0).imageC (.inr ⟨hi, rfl, rfl⟩)
  have HI : Hid (imageP s = .inr img) := hi
  have HB : Hid (Has W0 b4 #[.pointer (some ⟨a0, 0, none⟩), .pointer (some ⟨bc, 0, none⟩), .pointer (some ⟨a2, 0, none⟩)] 27) := hB
  have HRN : Hid (runN n img fuel = some ⟨ae, aN, am, as1, at1⟩) := hr
  have HE : Hid ((∀ img', imageP s = .inr img' → runN n img' fuel = some ⟨ae, aN, am, as1, at1⟩) ∧ ∀ y, imageP s = .inl y → (⟨ae, aN, am, as1, at1⟩ : AnD) = ⟨y.1, y.2, 0, [], []⟩) := ⟨fun img' h' => (by rw [hi] at h'; cases h'; exact hr), fun y h' => (by rw [hi] at h'; cases h')⟩
  have hil' : ¬ (32768 : Int) < (img.length : Int) := by omega
  clear h hi he hr F0 hB
  go_enter Tryz.func9, Tryz.ntmps9
  go_wp2_with fail
  refine IM.mono ?_
  rintro e' w1 ⟨rfl, o1, A1, C1, c1, K1, T1⟩
  obtain ⟨hB, oB⟩ := keep0M HB.out oB T1
  have RUN1 := K1.runC hf1 HE.out.1 HE.out.2
  clear IM K1 T1 HB e0 HW0 hb4
  have HB : Hid (Has w1 b4 #[.pointer (some ⟨a0, 0, none⟩), .pointer (some ⟨bc, 0, none⟩), .pointer (some ⟨a2, 0, none⟩)] 27) := hB
  clear hB
  go_wp2_with fail
  refine RUN1.mono ?_
  rintro e' w3 ⟨rfl, o3, A3, C3, c3, K3, T3⟩
  obtain ⟨hB, oB⟩ := keep0M HB.out oB T3
  clear RUN1 HB
  obtain ⟨W3, HW3⟩ : ∃ W, Hid (w3.alloc (.cells #[.int .i64 ae, .int .i64 aN, .int .i64 am, sv as1, sv at1] 54) = W) := ⟨_, Eq.refl _⟩
  have e3 : w3.alloc (.cells #[.int .i64 ae, .int .i64 aN, .int .i64 am, sv as1, sv at1] 54) = W3 := HW3.out
  obtain ⟨b8, hb8⟩ : ∃ b, w3.heap.size = b := ⟨_, rfl⟩
  have F3 : Fr (fun _ => False) w3 W3 := by rw [← HW3.out]; exact (Fr.refl _ _).alloc _
  have ha : Has W3 b8 #[.int .i64 ae, .int .i64 aN, .int .i64 am, sv as1, sv at1] 54 := by rw [← HW3.out, ← hb8]; exact Has.new _ _ _
  have oa : o3 b8 = 0 := by rw [← hb8]; exact K3.own
  have hB := hB.fr F3 (fun x => x)
  have K3 := K3.fresh F3
  have RUN2 := K3.runImC hf1 HRN.out a0 a2
  have d0 := hB.cell 0
  have d1 := hB.cell 1
  have d2 := hB.cell 2
  have dl := hB.lt
  simp only [List.getElem?_toArray, List.getElem?_cons_succ, List.getElem?_cons_zero] at d0 d1 d2
  have HA : Hid (Has W3 b8 #[.int .i64 ae, .int .i64 aN, .int .i64 am, sv as1, sv at1] 54) := ha
  clear K3 T3 F3 hB ha HW3
  go_wp2_with fail
  refine RUN2.mono ?_
  rintro e' w5 ⟨rfl, o5, A5, C5, c5, K5, T5⟩
  clear RUN2 d0 d1 d2 dl e3 hb8
  obtain ⟨ha, oa⟩ := keep0M HA.out oa T5
  obtain ⟨W5, HW5⟩ : ∃ W, Hid (w5.alloc (.cells #[.int .i64 ae, .int .i64 aN, .int .i64 am, sv as1, sv at1] 54) = W) := ⟨_, Eq.refl _⟩
  have e5 : w5.alloc (.cells #[.int .i64 ae, .int .i64 aN, .int .i64 am, sv as1, sv at1] 54) = W5 := HW5.out
  obtain ⟨b9, hb9⟩ : ∃ b, w5.heap.size = b := ⟨_, rfl⟩
  have F5 : Fr (fun _ => False) w5 W5 := by rw [← HW5.out]; exact (Fr.refl _ _).alloc _
  have hb : Has W5 b9 #[.int .i64 ae, .int .i64 aN, .int .i64 am, sv as1, sv at1] 54 := by rw [← HW5.out, ← hb9]; exact Has.new _ _ _
  have ha := ha.fr F5 (fun x => x)
  have K5 := K5.fresh F5
  have IM2 := K5.imageC (.inr ⟨HI.out, rfl, rfl⟩)
  have a0 := ha.cell 0
  have a1 := ha.cell 1
  have a2 := ha.cell 2
  have a3 := ha.cell 3
  have a4 := ha.cell 4
  have al := ha.lt
  have m0 := hb.cell 0
  have m1 := hb.cell 1
  have m2 := hb.cell 2
  have m3 := hb.cell 3
  have m4 := hb.cell 4
  have ml := hb.lt
  simp only [List.getElem?_toArray, List.getElem?_cons_succ, List.getElem?_cons_zero] at a0 a1 a2 a3 a4 m0 m1 m2 m3 m4
  clear K5 T5 F5 ha hb HW5 HA
  go_wp2_with fail
  refine (END.out _).mono ?_
  rintro e' w6 ⟨rfl, hw6⟩
  rw [hw6]
  clear hw6 w6
  go_wp2_with fail
  refine IM2.mono ?_
  rintro e' w7 ⟨rfl, o7, A7, C7, c7, K7, T7⟩
  have HF : Hid (KpQ bc w o C sx num (.returned (.bool true)) w7) := K7.fin
  clear IM2 K7 T7 a0 a1 a2 a3 a4 al m0 m1 m2 m3 m4 ml
  go_wp2_with fail
  go_ret
  exact HF.out
end
end Go.Proofs.Qxb6500574aGreatDoor
