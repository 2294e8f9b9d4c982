/-
  THE WALKS of vmlaw: Told, b2i, Turn.
-/
import Derived.Test.Qxb6500579aGreatUTabs
namespace Go.Proofs.Qxb6500579aGreat
open Go Go.RowKit
set_option linter.unusedVariables false
set_option linter.unusedSimpArgs false
/-- an answer: E, N, M, S, T -/
structure AnsD where
  e : Int
  n : Int
  m : Int
  s : Bs
  t : Bs
abbrev ansCells (x : AnsD) : Array Value := #[.int .i64 x.e, .int .i64 x.n, .int .i64 x.m, sv x.s, sv x.t]
abbrev AnsD.val (x : AnsD) : Value := .agg (ansCells x)

theorem isAnsU : IsStr 41 5 := ⟨by kernel_rfl, by kernel_rfl⟩
def toldD (ev : EvD) : AnsD := ⟨ev.e, ev.k, ev.th, showV ev.v ++ [44] ++ showV ev.w, []⟩
section
variable {w : World}
set_option maxRecDepth 100000
set_option maxHeartbeats 1000000
theorem told_any (ev : EvD) (hv : Shw ev.v) (hw : Shw ev.w) : Calls Tryz.prog 28 #[ev.val] w fun e' w' => e' = .returned (toldD ev).val ∧ Fr (fun _ => False) w w' := by
  obtain ⟨k, th, e, ⟨vt, vn, vs⟩, ⟨wt, wn, ws⟩⟩ := ev
  have HV : Hid (Shw ⟨vt, vn, vs⟩) := hv
  have HW : Hid (Shw ⟨wt, wn, ws⟩) := hw
  have l1 := HV.out.len
  have l2 := HW.out.len
  clear hv hw
  go_enter Tryz.func28, Tryz.ntmps28
  go_wp2_with fail
  refine (showVal_shw HV.out).mono ?_
  rintro e' w1 ⟨rfl, F1⟩
  have h0 : Has w1 w.heap.size (evCells ⟨k, th, e, ⟨vt, vn, vs⟩, ⟨wt, wn, ws⟩⟩) 85 := ((Has.newC _ _ _ rfl).alloc _).fr F1 (fun x => x)
  have h1 : Has w1 (w.heap.size + 1) #[.int .i64 0, .int .i64 0, .int .i64 0, sv [], sv []] 41 := (Has.newC _ _ _ (by simp)).fr F1 (fun x => x)
  have HF1 : Hid (Fr (fun _ => False) w w1) := (((Fr.refl _ w).alloc _).alloc _).trans F1 (fun _ _ x => x)
  obtain ⟨x0, x1, x2, x3, x4, x5, x6, x7, x8⟩ := h0.ev
  dsimp only at x0 x1 x2 x3 x4 x5 x6 x7 x8
  have xl := h0.lt
  clear F1
  go_wp2_with fail
  refine (showVal_shw HW.out).mono ?_
  rintro e' w2 ⟨rfl, F2⟩
  have HF2 : Hid (Fr (fun _ => False) w w2) := HF1.out.trans F2 (fun _ _ x => x)
  have x0 := F2.cell x0
  have x1 := F2.cell x1
  have x2 := F2.cell x2
  have xl := Nat.lt_of_lt_of_le xl F2.size
  have g1 := h1.fr F2 (fun x => x)
  have y0 := g1.cell 0
  have y1 := g1.cell 1
  have y2 := g1.cell 2
  have y3 := g1.cell 3
  have y4 := g1.cell 4
  have z0 := g1.frozen 0
  have z1 := g1.frozen 1
  have z2 := g1.frozen 2
  have z3 := g1.frozen 3
  have z4 := g1.frozen 4
  have yl := g1.lt
  simp only [List.getElem?_toArray, List.getElem?_cons_succ, List.getElem?_cons_zero] at y0 y1 y2 y3 y4
  have FIN : Hid (∀ a b c d e : Value, Has (((((w2.setCell ⟨w.heap.size + 1, 0, none⟩ a).setCell ⟨w.heap.size + 1, 1, none⟩ b).setCell ⟨w.heap.size + 1, 2, none⟩ c).setCell ⟨w.heap.size + 1, 3, none⟩ d).setCell ⟨w.heap.size + 1, 4, none⟩ e) (w.heap.size + 1) #[a, b, c, d, e] 41 ∧ Fr (fun _ => False) w (((((w2.setCell ⟨w.heap.size + 1, 0, none⟩ a).setCell ⟨w.heap.size + 1, 1, none⟩ b).setCell ⟨w.heap.size + 1, 2, none⟩ c).setCell ⟨w.heap.size + 1, 3, none⟩ d).setCell ⟨w.heap.size + 1, 4, none⟩ e)) := by
    intro a b c d e
    refine ⟨?_, ((((HF2.out.setCell (p := ⟨w.heap.size + 1, 0, none⟩) (.inr (by simp)) _).setCell (p := ⟨w.heap.size + 1, 1, none⟩) (.inr (by simp)) _).setCell (p := ⟨w.heap.size + 1, 2, none⟩) (.inr (by simp)) _).setCell (p := ⟨w.heap.size + 1, 3, none⟩) (.inr (by simp)) _).setCell (p := ⟨w.heap.size + 1, 4, none⟩) (.inr (by simp)) _⟩
    have := ((((g1.put 0 a).put 1 b).put 2 c).put 3 d).put 4 e
    simpa using this
  clear F2 x3 x4 x5 x6 x7 x8 h0 h1 g1
  go_wp2_with fail
  refine bodyPost_ret (res_cell isAnsU rfl rfl (FIN.out _ _ _ _ _).1 rfl) rfl ⟨?_, (FIN.out _ _ _ _ _).2⟩
  have es : (⟨(showV ⟨vt, vn, vs⟩).toArray⟩ : ByteArray) ++ ⟨#[44]⟩ ++ ⟨(showV ⟨wt, wn, ws⟩).toArray⟩ = ⟨(showV ⟨vt, vn, vs⟩ ++ [44] ++ showV ⟨wt, wn, ws⟩).toArray⟩ := by
    have e1 : (⟨(showV ⟨vt, vn, vs⟩).toArray⟩ : ByteArray) ++ ⟨#[44]⟩ = ⟨(showV ⟨vt, vn, vs⟩ ++ [44]).toArray⟩ := sv_app _ [44]
    rw [e1]
    exact sv_app _ _
  rw [es]
  rfl
theorem b2i_any (b : Bool) : Calls Tryz.prog 43 #[.bool b] w fun e' w' => e' = .returned (.int .i64 (if b then 1 else 0)) ∧ w' = w := by
  cases b
  · go_enter Tryz.func43, Tryz.ntmps43
    go_wp2_with fail
    go_ret
    exact ⟨rfl, rfl⟩
  · go_enter Tryz.func43, Tryz.ntmps43
    go_wp2_with fail
    go_ret
    exact ⟨rfl, rfl⟩
end
end Go.Proofs.Qxb6500579aGreat
