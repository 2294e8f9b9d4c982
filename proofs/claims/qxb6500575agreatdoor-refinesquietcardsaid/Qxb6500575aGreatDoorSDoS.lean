/-
  THE WALK of runlaw.Do: the operations that call nothing.
-/
import Derived.Test.Qxb6500575aGreatDoorSDo
namespace Go.Proofs.Qxb6500575aGreatDoor
open Go Go.RowKit
set_option linter.unusedVariables false
set_option linter.unusedSimpArgs false

set_option maxRecDepth 100000
set_option maxHeartbeats 2000000
section
variable {w0 w : World} {Y : LayR} {x : BelD} {m : ModD} {n : Int} {d : KD} {hi : Int} {args0 : List BV}
def DoSameX (w0 : World) (Y : LayR) (x : BelD) (m : ModD) (n : Int) (d : KD) (hi : Int) (args0 : List BV) (kind : Int) (w : World) (e : Ending) (w' : World) : Prop :=
  e = .returned (sameV kind d.text) ∧ RX w0 w' Y x m n d hi args0 ∧ Fr (fun _ => False) w w'
theorem sdo_same (h : RX w0 w Y x m n d hi args0) (o : OpD) (hk : o.kind ≠ 10) (va : Value) :
    Calls Tryz.prog 16 #[.pointer (some ⟨Y.bx, 0, none⟩), va, o.val] w (DoSameX w0 Y x m n d hi args0 o.kind w) := by
  obtain ⟨W, HW⟩ : ∃ W, Hid (W = doW w o) := ⟨_, rfl⟩
  have F0 : Fr (fun _ => False) w W := by rw [HW.out]; exact ((Fr.refl _ _).alloc _).alloc _
  have hA : Has W (w.heap.size + 1) #[.int .i64 0, .int .i64 0, .int .i64 0, sv []] 46 := by
    rw [HW.out]
    have := Has.new (w.alloc (.cells #[.int .i64 o.kind, .int .i64 o.a, .int .i64 o.b, .int .i64 o.c, sv o.s, sv o.t] 39)) #[.int .i64 0, .int .i64 0, .int .i64 0, sv []] 46
    simpa using this
  have hX := h.fresh F0
  have hans := h.old (b := w.heap.size + 1) (by omega)
  have HSH : Hid (Calls _ _ _ _ _) := rshow_any hX.inst hX.mach
  have HCK : Hid (Calls _ _ _ _ _) := rcheck_any (x := ⟨[], [], 0, hi⟩) hX.inst
  have HX : Hid (RX w0 W Y x m n d hi args0) := hX
  have HAN : Hid (Has W (w.heap.size + 1) _ _) := hA
  have HANS : Hid (w0.heap.size ≤ w.heap.size + 1 ∧ ¬ Y.S (w.heap.size + 1)) := hans
  have HOFF : Hid (∀ p ∈ Y.sd, p.1 ≠ w.heap.size + 1) := h.off (by omega)
  have HF0 : Hid (Fr _ w W) := F0
  have FIN : Hid (∀ w1 er us len str, Fr (fun _ => False) W w1 → ansV er us len str = sameV o.kind d.text → DoSameX w0 Y x m n d hi args0 o.kind w (.returned (ansV er us len str)) ((((w1.setCell ⟨w.heap.size + 1, 0, none⟩ (.int .i64 er)).setCell ⟨w.heap.size + 1, 1, none⟩ (.int .i64 us)).setCell ⟨w.heap.size + 1, 2, none⟩ (.int .i64 len)).setCell ⟨w.heap.size + 1, 3, none⟩ (sv str))) := by
    intro w1 er us len str hF he
    have hA1 := HAN.out.fr hF (fun h => h)
    obtain ⟨g1, g2⟩ := hA1.put4 (.int .i64 er) (.int .i64 us) (.int .i64 len) (sv str)
    exact ⟨by rw [he], (HX.out.fresh hF).ansPut hA1 HANS.out.1 HANS.out.2 HOFF.out g2, (HF0.out.trans hF (fun _ _ h => h)).trans g2 (fun k hk e => by omega)⟩
  clear h F0 hA hX hans
  obtain ⟨kind, oa, ob, oc, os, ot⟩ := o
  simp only at hk FIN ⊢
  unfold OpD.val
  simp only
  have hW := HW.out
  unfold doW at hW
  simp only at hW
  have n10 : (kind == 10) = false := beq_eq_false_iff_ne.2 hk
  by_cases h11 : kind = 11
  · subst h11
    rw [hW] at HSH
    clear HCK
    go_enter Tryz.func16, Tryz.ntmps16
    go_wp2_with fail
    refine HSH.out.mono ?_
    rintro e w1 ⟨z, rfl, HZ, hzl, hF1⟩
    rw [← hW] at hF1
    have HF1 : Hid (Fr _ W w1) := hF1
    have kA := HAN.out.fr hF1 (fun h => h)
    have x0 := kA.cell 0
    have x1 := kA.cell 1
    have x2 := kA.cell 2
    have x3 := kA.cell 3
    simp at x0 x1 x2 x3
    have y0 := kA.frozen 0
    have y1 := kA.frozen 1
    have y2 := kA.frozen 2
    have y3 := kA.frozen 3
    have yl := kA.lt
    have HKA : Hid (Has w1 (w.heap.size + 1) _ _) := kA
    clear hF1 kA HSH hW
    go_wp2
    (try simp only [Exit.inBlock, Exit.then])
    obtain ⟨g1, g2⟩ := HKA.out.put4 (.int .i64 0) (.int .i64 0) (.int .i64 0) (sv z)
    refine bodyPost_ret (ans_res rfl _ _ (w.heap.size + 1) _ _ _ _ rfl g1) rfl ?_
    exact FIN.out w1 0 0 0 z HF1.out (by unfold sameV; rw [if_pos rfl, HZ.out])
  have n11 : (kind == 11) = false := beq_eq_false_iff_ne.2 h11
  by_cases h12 : kind = 12
  · subst h12
    rw [hW] at HCK
    clear HSH
    go_enter Tryz.func16, Tryz.ntmps16
    go_wp2_with fail
    refine HCK.out.mono ?_
    rintro e w1 ⟨rfl, hw1⟩
    rw [← hW] at hw1
    subst hw1
    clear HCK hW
    have kA := HAN.out
    have x0 := kA.cell 0
    have x1 := kA.cell 1
    have x2 := kA.cell 2
    have x3 := kA.cell 3
    simp at x0 x1 x2 x3
    have y0 := kA.frozen 0
    have y1 := kA.frozen 1
    have y2 := kA.frozen 2
    have y3 := kA.frozen 3
    have yl := kA.lt
    clear kA
    go_wp2
    (try simp only [Exit.inBlock, Exit.then])
    obtain ⟨g1, g2⟩ := HAN.out.put4 (.int .i64 0) (.int .i64 0) (.int .i64 1) (sv [])
    refine bodyPost_ret (ans_res rfl _ _ (w.heap.size + 1) _ _ _ _ rfl g1) rfl ?_
    exact FIN.out _ 0 0 1 [] (Fr.refl _ _) (by unfold sameV; rw [if_neg (by decide), if_pos rfl])
  · have n12 : (kind == 12) = false := beq_eq_false_iff_ne.2 h12
    have HFIN : Hid (DoSameX w0 Y x m n d hi args0 kind w (.returned (ansV 0 0 0 [])) W) := ⟨by unfold sameV; rw [if_neg h11, if_neg h12], HX.out, HF0.out⟩
    have HKA := HAN
    rw [hW] at HFIN HKA
    clear HSH HCK hW FIN
    go_enter Tryz.func16, Tryz.ntmps16
    go_wp2
    (try simp only [Exit.inBlock, Exit.then])
    refine bodyPost_ret (ans_res rfl _ _ (w.heap.size + 1) _ _ _ _ rfl HKA.out) rfl ?_
    exact HFIN.out
end
end Go.Proofs.Qxb6500575aGreatDoor
