/-
  THE WALK of comp: a loop opens.
-/
import Derived.Test.Qxb6500574aGreatDoorWCm4
namespace Go.Proofs.Qxb6500574aGreatDoor
open Go Go.RowKit
set_option linter.unusedVariables false
set_option linter.unusedSimpArgs false
open Go.Lib
section
variable {w w' : World} {o o' : Nat → Nat} {g x : Nat} {d : FnD} {l : FnL}
theorem FnOne.loops {Q : Nat → Prop} (h : FnOne w o g x (d, l)) (t : Stp Q w o w' o') (hq : ∀ j, j < 6 → ¬ Q (labF x j)) {s : Sl} {lp : List LpD} {br : List (Sl × List (Nat × Nat))} (r : Row w' o' (labF x 6) 139 2 s lp.length ((lp.zip br).flatMap lpV)) (hl : br.length = lp.length) (hb : ∀ (i : Nat) l b, lp[i]? = some l → br[i]? = some b → LpOne w' o' g x i l b) : FnOne w' o' g x ({ d with loops := lp }, { l with lp := s, br := br }) :=
  ⟨h.lo.st t (hq 0 (by omega)), h.up.st t (hq 1 (by omega)), h.cn.st t (hq 2 (by omega)), fun b e => (h.nu b e).st t (hq 3 (by omega)), fun b e => (h.ss b e).st t (hq 4 (by omega)), h.cd.st t (hq 5 (by omega)), r, hl, hb⟩
end
theorem rowLoop : IsRow Tryz.prog 100 139 (.agg #[.int .i64 0, .slice none 0 0]) 2 32 := ⟨by kernel_rfl, by kernel_rfl, rfl, by decide⟩
section
set_option maxRecDepth 100000
set_option maxHeartbeats 1000000
variable {w : World} {o : Nat → Nat} {C : CC} {N : List Nd} {c : CmD} {x : Nat}
theorem open_any (R : CRep w o C N c) (hx : x < c.np) (base : Nat) (hl : (c.fn x).loops.length ≤ 1000) :
    Calls Tryz.prog 238 #[fptr C.gF x, .int .i64 base] w fun e w' => e = .returned (.tuple #[]) ∧ ∃ o', CRep w' o' C N (c.open_ x base) ∧ Stp (QF1 x) w o w' o' := by
  obtain ⟨xs, L, F0⟩ := R.fn hx
  have c10 := F0.cell 10 (by omega)
  have hlt := F0.lt
  have F := F0.fresh ((Fr.refl _ _).alloc (.cells #[.int .i64 (base : Nat), .slice none 0 0] 139))
  have R0 := R.alloc (.cells #[.int .i64 (base : Nat), .slice none 0 0] 139)
  have HS0 : Hid (Stp (QF1 x) w o (w.alloc (.cells #[.int .i64 (base : Nat), .slice none 0 0] 139)) o) := (Stp.refl _ _ _).alloc _
  have HF : Hid (FnAt (w.alloc (.cells #[.int .i64 (base : Nat), .slice none 0 0] 139)) o C c x xs L) := F
  have HRR : Hid (CRep (w.alloc (.cells #[.int .i64 (base : Nat), .slice none 0 0] 139)) o C N c) := R0
  have HR : Hid ((w.alloc (.cells #[.int .i64 (base : Nat), .slice none 0 0] 139)).ownsRow 0 139 2 (L.lp.v (c.fn x).loops.length) (c.fn x).loops.length (((c.fn x).loops.zip L.br).flatMap lpV)) := F.one.lp.own
  have HB : Hid (Has (w.alloc (.cells #[.int .i64 (base : Nat), .slice none 0 0] 139)) w.heap.size (lpV (⟨base, []⟩, (sl0, []))).toArray 139) := Has.new w _ _
  simp only [fnV, List.getElem?_cons_succ, List.getElem?_cons_zero, Sl.v] at c10
  obtain ⟨n, HN⟩ : ∃ n : Nat, Hid ((c.fn x).loops.length = n) := ⟨_, rfl⟩
  rw [HN.out] at c10 hl
  clear F R R0 F0
  unfold fptr
  go_enter Tryz.func238, Tryz.ntmps238
  go_wp2_with (at_builtin; go_must (refine wpList_appN rowLoop _ rfl (.tmp 8) (.tmp 11) rfl (L.lp.v (c.fn x).loops.length) (c.fn x).loops.length _ (by rw [HN.out]; rfl) HR.out w.heap.size 1 1 (lpV (⟨base, []⟩, (sl0, []))) rfl HB.out rfl (by omega) (by intro u hu; simp [lpV] at hu; rcases hu with h | h <;> subst h <;> rfl) ?bd ?go))
  case bd => rw [HN.out]; omega
  case go =>
    intro g' cap' w2 q1 q2 q3 q4
    have hq3 : (L.lp.v (c.fn x).loops.length).ownBlock = some g' ∨ (w.alloc (.cells #[.int .i64 (base : Nat), .slice none 0 0] 139)).heap.size ≤ g' := q3.imp_right (fun h => by rw [h]; simp)
    obtain ⟨r1, r2⟩ := HF.out.one.lp.app (Fr.refl _ _) q1 q2 hq3 q4
    have hb2 := HF.out.rep.here.st r2 (by unfold labF; omega)
    obtain ⟨p1, p2⟩ := HF.out.put r2 (by unfold labF; omega) (j := 10) (by omega) (d' := ({ c.fn x with loops := (c.fn x).loops ++ [⟨base, []⟩] }, { L with lp := ⟨some ⟨g', 0, none⟩, cap'⟩, br := L.br ++ [(sl0, [])] })) (u := .slice (some ⟨g', 0, none⟩) ((c.fn x).loops.length + 1) cap') (by simp [fnV])
    have d4 : w2.cell? ⟨C.gF, x * 11 + 10, none⟩ = some (.slice L.lp.a n L.lp.c) := by
      have := flatMap_at (fnV C.gF) 11 (fnV_len C.gF) xs x 10 _ HF.out.at_ (by omega)
      rw [hb2.has.cell, List.getElem?_toArray, this]
      simp [fnV, HN.out]
    have d3 := hb2.has.frozen (x * 11 + 10)
    have k3 := hb2.has.lt
    have s2 : Stp (fun k => k = 1051 ∨ k = labF x 6) _ o _ (upd o g' (labF x 6)) := (r2.weaken (fun k h => .inr h)).trans (p2.weaken (fun k h => .inl h))
    have sF : Stp (QF1 x) _ o _ (upd o g' (labF x 6)) := s2.weaken (fun k h => h.imp_right (fun h => ⟨6, h⟩))
    have hbl : L.br.length = (c.fn x).loops.length := HF.out.one.bl
    have R2 : CRep _ (upd o g' (labF x 6)) C N (c.open_ x base) := HF.out.set (u := fun d => { d with loops := d.loops ++ [⟨base, []⟩] }) HRR.out hx sF p1 (HF.out.one.loops s2 (fun j hj => by unfold labF; omega) (by
      have := r1.st p2 (by unfold labF; omega)
      rw [List.length_append, List.zip_append hbl.symm, List.flatMap_append]
      exact this) (by simp [hbl]) (fun i l b h1 h2 => by
        by_cases hi : i < (c.fn x).loops.length
        · rw [List.getElem?_append_left hi] at h1
          rw [List.getElem?_append_left (by omega)] at h2
          exact (HF.out.one.br i l b h1 h2).st s2 (by unfold labF; omega) (by unfold labF; omega)
        · have hi2 := (List.getElem?_eq_some_iff.1 h1).1
          simp only [List.length_append, List.length_singleton] at hi2
          have hie : i = (c.fn x).loops.length := by omega
          subst hie
          rw [List.getElem?_append_right (Nat.le_refl _), Nat.sub_self] at h1
          rw [List.getElem?_append_right (by omega), hbl, Nat.sub_self] at h2
          cases h1
          cases h2
          exact ⟨Row.nil _ _ _ _ _, fun j p n e1 e2 => by simp at e1⟩)) HF.out.ok
    have FIN : Hid (∃ o', CRep (w2.setCell ⟨C.gF, x * 11 + 10, none⟩ (.slice (some ⟨g', 0, none⟩) (n + 1) cap')) o' C N (c.open_ x base) ∧ Stp (QF1 x) w o (w2.setCell ⟨C.gF, x * 11 + 10, none⟩ (.slice (some ⟨g', 0, none⟩) (n + 1) cap')) o') := by
      rw [← HN.out]
      exact ⟨_, R2, HS0.out.trans sF⟩
    rw [HN.out]
    clear q1 q2 q3 q4 hq3 r1 r2 hb2 p1 p2 s2 sF R2
    go_wp2
    go_end0
    exact ⟨rfl, FIN.out⟩
end
end Go.Proofs.Qxb6500574aGreatDoor
