/-
  THE WALKS of table: turn, index.
-/
import Derived.Test.Qxb6500574aGreatDoorVFind
namespace Go.Proofs.Qxb6500574aGreatDoor
open Go Go.RowKit
set_option linter.unusedVariables false
set_option linter.unusedSimpArgs false

theorem Row.lb0 {w : World} {o : Nat → Nat} {lab : Nat} {T : TypeId} {k : Nat} {s : Sl} {n : Nat} {xs : List Value} (h : Row w o lab T k s n xs) {g : Nat} (hg : s.a = some ⟨g, 0, none⟩) : o g = lab := h.lb g (by rw [hg]; rfl)
section
variable {w : World} {o : Nat → Nat} {bt bn n h g : Nat} {s : Sl} {xs : List (TabD × TbL)} {t : TabD} {l : TbL}
set_option maxRecDepth 100000
set_option maxHeartbeats 600000
theorem turn_any (r : TabsRep w o bt bn s n xs) (hx : xs[h]? = some (t, l)) (hg : s.a = some ⟨g, 0, none⟩) (hf : TFit t) (hn : h < n) {p : Nat} (hp : p < t.order.length) (v : Vl) :
    Calls Tryz.prog 137 #[.pointer (some ⟨g, h * 6, none⟩), .int .i64 p, v.val] w fun e w' => e = .returned (.tuple #[]) ∧ TabsRep w' o bt bn s n (xs.set h (t.turn p v, l)) ∧ Stp (isB h) w o w' o := by
  obtain ⟨g', ga, _, glab, gl, gc, gf⟩ := r.at hx
  rw [hg] at ga
  cases ga
  obtain ⟨e1, e2⟩ : ∃ e : Vl × Vl, t.order[p]? = some e := ⟨_, List.getElem?_eq_getElem hp⟩
  have hxl := (List.getElem?_eq_some_iff.1 hx).1
  obtain ⟨go, o1, o2, o3, o4, o5, o6⟩ := (r.one h _ hx).ord.cells (show 0 < t.order.length by omega)
  have v0 := (o5 (p * 6 + 3) (show _ < t.order.length * 6 by omega)).trans (flatMap_at _ 6 eCells_len t.order p 3 _ e2 (by omega))
  have v1 := (o5 (p * 6 + 4) (show _ < t.order.length * 6 by omega)).trans (flatMap_at _ 6 eCells_len t.order p 4 _ e2 (by omega))
  have v2 := (o5 (p * 6 + 5) (show _ < t.order.length * 6 by omega)).trans (flatMap_at _ 6 eCells_len t.order p 5 _ e2 (by omega))
  simp only [eCells, vCells, List.cons_append, List.nil_append, List.getElem?_cons_succ, List.getElem?_cons_zero] at v0 v1 v2
  have c0 := gc 0 (by omega)
  have c5 := gc 5 (by omega)
  simp only [tbCells, List.getElem?_cons_zero, List.getElem?_cons_succ, Sl.v] at c0 c5
  rw [o1] at c0
  rw [Nat.add_zero] at c0
  have hgo : go ≠ g := fun e => by rw [e, glab] at o3; omega
  have f5 := gf (h * 6 + 5)
  have f3 := o6 (p * 6 + 3)
  have f4 := o6 (p * 6 + 4)
  have f6 := o6 (p * 6 + 5)
  have hol := hf.ol
  have hdd : t.dead ≤ 32 := by rw [hf.dd]; exact Nat.le_trans List.countP_le_length hol
  have hd1 : isNilV e1.2 = true → 1 ≤ t.dead := fun hnil => by
    rw [hf.dd]
    exact List.countP_pos_iff.2 ⟨e1, List.mem_of_getElem? e2, hnil⟩
  have I1 : ∀ W, Calls Tryz.prog 138 #[.agg #[.int .i64 e1.2.t, .int .u64 e1.2.n, sv e1.2.s]] W fun e w' => e = .returned (.bool (isNilV e1.2)) ∧ Fr (fun _ => False) W w' := fun W => isNil_any e1.2
  have I2 : ∀ W, Calls Tryz.prog 138 #[.agg #[.int .i64 v.t, .int .u64 v.n, sv v.s]] W fun e w' => e = .returned (.bool (isNilV v)) ∧ Fr (fun _ => False) W w' := fun W => isNil_any v
  have FIN : Hid (∀ W d, Fr (fun _ => False) w W → (t.turn p v).dead = d → (TabsRep (((((W.setCell ⟨g, h * 6 + 5, none⟩ (.int .i64 d)).setCell ⟨go, p * 6 + 3, none⟩ (.int .i64 v.t)).setCell ⟨go, p * 6 + 4, none⟩ (.int .u64 v.n)).setCell ⟨go, p * 6 + 5, none⟩ (sv v.s))) o bt bn s n (xs.set h (t.turn p v, l)) ∧ Stp (isB h) w o ((((W.setCell ⟨g, h * 6 + 5, none⟩ (.int .i64 d)).setCell ⟨go, p * 6 + 3, none⟩ (.int .i64 v.t)).setCell ⟨go, p * 6 + 4, none⟩ (.int .u64 v.n)).setCell ⟨go, p * 6 + 5, none⟩ (sv v.s)) o)) := fun W d hW hd => by
    have rW := r.st (Stp.fresh (fun _ => False) o hW) (fun _ _ x => x)
    obtain ⟨a1, a2⟩ := rW.setDead hx hg hn d
    obtain ⟨b1, b2⟩ := a1.setVal (h := h) (t := { t with dead := d }) (l := l) (by rw [List.getElem?_set_self hxl]) hn o1 e2 v
    rw [List.set_set] at b1
    have e : ({ { t with dead := d } with order := ({ t with dead := d } : TabD).order.set p (e1.1, v) } : TabD) = t.turn p v := by
      rw [← hd]
      simp [TabD.turn, e2]
    rw [e] at b1
    exact ⟨b1, (Stp.fresh _ _ hW).trans (a2.trans b2)⟩
  have FIN0 : Hid (∀ W, Fr (fun _ => False) w W → (t.turn p v).dead = t.dead → (TabsRep ((((W.setCell ⟨go, p * 6 + 3, none⟩ (.int .i64 v.t)).setCell ⟨go, p * 6 + 4, none⟩ (.int .u64 v.n)).setCell ⟨go, p * 6 + 5, none⟩ (sv v.s))) o bt bn s n (xs.set h (t.turn p v, l)) ∧ Stp (isB h) w o (((W.setCell ⟨go, p * 6 + 3, none⟩ (.int .i64 v.t)).setCell ⟨go, p * 6 + 4, none⟩ (.int .u64 v.n)).setCell ⟨go, p * 6 + 5, none⟩ (sv v.s)) o)) := fun W hW hd => by
    have rW := r.st (Stp.fresh (fun _ => False) o hW) (fun _ _ x => x)
    obtain ⟨b1, b2⟩ := rW.setVal hx hn o1 e2 v
    have e : ({ t with order := t.order.set p (e1.1, v) } : TabD) = t.turn p v := by
      have : t.turn p v = { t with order := t.order.set p (e1.1, v), dead := (t.turn p v).dead } := by simp [TabD.turn, e2]
      rw [this, hd]
    rw [e] at b1
    exact ⟨b1, (Stp.fresh _ _ hW).trans b2⟩
  have HD : Hid ((t.turn p v).dead = if isNilV e1.2 && !isNilV v then t.dead - 1 else if isNilV v && !isNilV e1.2 then t.dead + 1 else t.dead) := by simp [Hid, TabD.turn, e2]
  clear r hx hf gc gf o5 o6 e2 o1 hg
  obtain ⟨M, HM⟩ : ∃ M : Nat, Hid (t.order.length = M) := ⟨_, rfl⟩
  rw [HM.out] at c0 hp hol o2
  cases hA : isNilV e1.2
  · cases hB : isNilV v
    · rw [hA] at I1
      rw [hB] at I2
      clear hd1
      go_enter Tryz.func137, Tryz.ntmps137
      go_wp2_with fail
      refine (I1 _).mono ?_
      rintro e w1 ⟨rfl, hw1⟩
      have f1 : Fr (fun _ => False) w w1 := ((Fr.refl _ _).alloc _).trans hw1 (fun _ _ x => x)
      have k1 : Has w1 w.heap.size #[.int .i64 v.t, .int .u64 v.n, sv v.s] 68 := (Has.new _ _ _).fr hw1 (fun x => x)
      obtain ⟨k10, k11, k12⟩ := k1.cells3
      have z1 := k1.lt
      clear hw1 I1
      go_wp2_with fail
      refine (I2 _).mono ?_
      rintro e w2 ⟨rfl, hw2⟩
      have f2 : Fr (fun _ => False) w w2 := f1.trans hw2 (fun _ _ x => x)
      have k2 := k1.fr hw2 (fun x => x)
      obtain ⟨k20, k21, k22⟩ := k2.cells3
      have z2 := k2.lt
      have c0' := f2.cell c0
      have c5' := f2.cell c5
      have v0' := f2.cell v0
      have v1' := f2.cell v1
      have v2' := f2.cell v2
      have f5' := (f2.frz gl (h * 6 + 5)).trans f5
      have f3' := (f2.frz o4 (p * 6 + 3)).trans f3
      have f4' := (f2.frz o4 (p * 6 + 4)).trans f4
      have f6' := (f2.frz o4 (p * 6 + 5)).trans f6
      clear hw2 k1 k10 k11 k12 z1 f1 c0 c5 v0 v1 v2 f5 f3 f4 f6 I2
      go_wp2_with fail
      refine wp_region_tail 6 (by kernel_rfl) (by kernel_rfl) (fun _ _ _ _ _ h => h) ?_
      simp only [List.take_succ_cons, List.take_zero, List.drop_succ_cons, List.drop_zero]
      repeat go_big_quiet_step (fail)
      refine wpQuiet_nil ?_
      go_wp2
      go_end0
      obtain ⟨q1, q2⟩ := FIN0.out w2 f2 (by rw [HD.out, hA, hB]; rfl)
      exact ⟨rfl, q1.st (Stp.fresh (fun _ => False) _ ((Fr.refl _ _).drew)) (fun _ _ x => x), q2.drew⟩
    · rw [hA] at I1
      rw [hB] at I2
      clear hd1
      go_enter Tryz.func137, Tryz.ntmps137
      go_wp2_with fail
      refine (I1 _).mono ?_
      rintro e w1 ⟨rfl, hw1⟩
      have f1 : Fr (fun _ => False) w w1 := ((Fr.refl _ _).alloc _).trans hw1 (fun _ _ x => x)
      have k1 : Has w1 w.heap.size #[.int .i64 v.t, .int .u64 v.n, sv v.s] 68 := (Has.new _ _ _).fr hw1 (fun x => x)
      obtain ⟨k10, k11, k12⟩ := k1.cells3
      have z1 := k1.lt
      clear hw1 I1
      go_wp2_with fail
      refine (I2 _).mono ?_
      rintro e w2 ⟨rfl, hw2⟩
      have f2 : Fr (fun _ => False) w w2 := f1.trans hw2 (fun _ _ x => x)
      have k2 := k1.fr hw2 (fun x => x)
      obtain ⟨k20, k21, k22⟩ := k2.cells3
      have z2 := k2.lt
      have c0' := f2.cell c0
      have c5' := f2.cell c5
      have v0' := f2.cell v0
      have v1' := f2.cell v1
      have v2' := f2.cell v2
      have f5' := (f2.frz gl (h * 6 + 5)).trans f5
      have f3' := (f2.frz o4 (p * 6 + 3)).trans f3
      have f4' := (f2.frz o4 (p * 6 + 4)).trans f4
      have f6' := (f2.frz o4 (p * 6 + 5)).trans f6
      clear hw2 k1 k10 k11 k12 z1 f1 c0 c5 v0 v1 v2 f5 f3 f4 f6 I2
      go_wp2_with fail
      refine wp_region_tail 6 (by kernel_rfl) (by kernel_rfl) (fun _ _ _ _ _ h => h) ?_
      simp only [List.take_succ_cons, List.take_zero, List.drop_succ_cons, List.drop_zero]
      repeat go_big_quiet_step (fail)
      refine wpQuiet_nil ?_
      go_wp2
      go_end0
      obtain ⟨q1, q2⟩ := FIN.out w2 (t.dead + 1) f2 (by rw [HD.out, hA, hB]; rfl)
      exact ⟨rfl, q1.st (Stp.fresh (fun _ => False) _ ((Fr.refl _ _).drew)) (fun _ _ x => x), q2.drew⟩
  · have hd2 := hd1 hA
    cases hB : isNilV v
    · rw [hA] at I1
      rw [hB] at I2
      clear hd1
      go_enter Tryz.func137, Tryz.ntmps137
      go_wp2_with fail
      refine (I1 _).mono ?_
      rintro e w1 ⟨rfl, hw1⟩
      have f1 : Fr (fun _ => False) w w1 := ((Fr.refl _ _).alloc _).trans hw1 (fun _ _ x => x)
      have k1 : Has w1 w.heap.size #[.int .i64 v.t, .int .u64 v.n, sv v.s] 68 := (Has.new _ _ _).fr hw1 (fun x => x)
      obtain ⟨k10, k11, k12⟩ := k1.cells3
      have z1 := k1.lt
      clear hw1 I1
      go_wp2_with fail
      refine (I2 _).mono ?_
      rintro e w2 ⟨rfl, hw2⟩
      have f2 : Fr (fun _ => False) w w2 := f1.trans hw2 (fun _ _ x => x)
      have k2 := k1.fr hw2 (fun x => x)
      obtain ⟨k20, k21, k22⟩ := k2.cells3
      have z2 := k2.lt
      have c0' := f2.cell c0
      have c5' := f2.cell c5
      have v0' := f2.cell v0
      have v1' := f2.cell v1
      have v2' := f2.cell v2
      have f5' := (f2.frz gl (h * 6 + 5)).trans f5
      have f3' := (f2.frz o4 (p * 6 + 3)).trans f3
      have f4' := (f2.frz o4 (p * 6 + 4)).trans f4
      have f6' := (f2.frz o4 (p * 6 + 5)).trans f6
      clear hw2 k1 k10 k11 k12 z1 f1 c0 c5 v0 v1 v2 f5 f3 f4 f6 I2
      go_wp2_with fail
      refine wp_region_tail 6 (by kernel_rfl) (by kernel_rfl) (fun _ _ _ _ _ h => h) ?_
      simp only [List.take_succ_cons, List.take_zero, List.drop_succ_cons, List.drop_zero]
      repeat go_big_quiet_step (fail)
      refine wpQuiet_nil ?_
      go_wp2
      go_end0
      have e9 : ((t.dead : Int) - 1) = ((t.dead - 1 : Nat) : Int) := by omega
      rw [e9]
      obtain ⟨q1, q2⟩ := FIN.out w2 (t.dead - 1) f2 (by rw [HD.out, hA, hB]; rfl)
      exact ⟨rfl, q1.st (Stp.fresh (fun _ => False) _ ((Fr.refl _ _).drew)) (fun _ _ x => x), q2.drew⟩
    · rw [hA] at I1
      rw [hB] at I2
      clear hd1
      go_enter Tryz.func137, Tryz.ntmps137
      go_wp2_with fail
      refine (I1 _).mono ?_
      rintro e w1 ⟨rfl, hw1⟩
      have f1 : Fr (fun _ => False) w w1 := ((Fr.refl _ _).alloc _).trans hw1 (fun _ _ x => x)
      have k1 : Has w1 w.heap.size #[.int .i64 v.t, .int .u64 v.n, sv v.s] 68 := (Has.new _ _ _).fr hw1 (fun x => x)
      obtain ⟨k10, k11, k12⟩ := k1.cells3
      have z1 := k1.lt
      clear hw1 I1
      go_wp2_with fail
      refine (I2 _).mono ?_
      rintro e w2 ⟨rfl, hw2⟩
      have f2 : Fr (fun _ => False) w w2 := f1.trans hw2 (fun _ _ x => x)
      have k2 := k1.fr hw2 (fun x => x)
      obtain ⟨k20, k21, k22⟩ := k2.cells3
      have z2 := k2.lt
      have c0' := f2.cell c0
      have c5' := f2.cell c5
      have v0' := f2.cell v0
      have v1' := f2.cell v1
      have v2' := f2.cell v2
      have f5' := (f2.frz gl (h * 6 + 5)).trans f5
      have f3' := (f2.frz o4 (p * 6 + 3)).trans f3
      have f4' := (f2.frz o4 (p * 6 + 4)).trans f4
      have f6' := (f2.frz o4 (p * 6 + 5)).trans f6
      clear hw2 k1 k10 k11 k12 z1 f1 c0 c5 v0 v1 v2 f5 f3 f4 f6 I2
      go_wp2_with fail
      refine wp_region_tail 6 (by kernel_rfl) (by kernel_rfl) (fun _ _ _ _ _ h => h) ?_
      simp only [List.take_succ_cons, List.take_zero, List.drop_succ_cons, List.drop_zero]
      repeat go_big_quiet_step (fail)
      refine wpQuiet_nil ?_
      go_wp2
      go_end0
      obtain ⟨q1, q2⟩ := FIN0.out w2 f2 (by rw [HD.out, hA, hB]; rfl)
      exact ⟨rfl, q1.st (Stp.fresh (fun _ => False) _ ((Fr.refl _ _).drew)) (fun _ _ x => x), q2.drew⟩
end
end Go.Proofs.Qxb6500574aGreatDoor
