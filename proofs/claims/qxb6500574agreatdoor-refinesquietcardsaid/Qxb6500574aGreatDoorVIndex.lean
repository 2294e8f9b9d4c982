/-
  THE WALK of table: index.
-/
import Derived.Test.Qxb6500574aGreatDoorVTurn
import Derived.Test.Qxb6500574aGreatDoorReg2
namespace Go.Proofs.Qxb6500574aGreatDoor
open Go Go.RowKit
set_option linter.unusedVariables false
set_option linter.unusedSimpArgs false

section
variable {w : World} {o : Nat → Nat} {bt bn n h g : Nat} {s : Sl} {xs : List (TabD × TbL)} {t : TabD} {l : TbL}
/-- a map of the table turned -/
theorem TabsRep.setNums {W w1 : World} (r : TabsRep W o bt bn s n xs) (hx : xs[h]? = some (t, l)) (hn : h < n) {m : List (Nat × Nat)} (hm : MapAt w1 o (102 + 5 * h) l.nums (ents nk m)) (q : Stp (fun k => k = 102 + 5 * h) W o w1 o) : TabsRep w1 o bt bn s n (xs.set h ({ t with nums := m }, l)) ∧ Stp (isB h) W o w1 o := by
  have one := r.one h _ hx
  exact r.inRow hx hn (q.weaken (fun k hk => by omega)) rfl ⟨one.ord.st q (by omega), one.arr.st q (by omega), hm, one.strs.st q (by omega), one.refs.st q (by omega)⟩
theorem TabsRep.setStrs {W w1 : World} (r : TabsRep W o bt bn s n xs) (hx : xs[h]? = some (t, l)) (hn : h < n) {m : List (Bs × Nat)} (hm : MapAt w1 o (103 + 5 * h) l.strs (ents sk m)) (q : Stp (fun k => k = 103 + 5 * h) W o w1 o) : TabsRep w1 o bt bn s n (xs.set h ({ t with strs := m }, l)) ∧ Stp (isB h) W o w1 o := by
  have one := r.one h _ hx
  exact r.inRow hx hn (q.weaken (fun k hk => by omega)) rfl ⟨one.ord.st q (by omega), one.arr.st q (by omega), one.nums.st q (by omega), hm, one.refs.st q (by omega)⟩
theorem TabsRep.setRefs {W w1 : World} (r : TabsRep W o bt bn s n xs) (hx : xs[h]? = some (t, l)) (hn : h < n) {m : List (Nat × Nat)} (hm : MapAt w1 o (104 + 5 * h) l.refs (ents nk m)) (q : Stp (fun k => k = 104 + 5 * h) W o w1 o) : TabsRep w1 o bt bn s n (xs.set h ({ t with refs := m }, l)) ∧ Stp (isB h) W o w1 o := by
  have one := r.one h _ hx
  exact r.inRow hx hn (q.weaken (fun k hk => by omega)) rfl ⟨one.ord.st q (by omega), one.arr.st q (by omega), one.nums.st q (by omega), one.strs.st q (by omega), hm⟩
set_option maxRecDepth 100000
set_option maxHeartbeats 600000
theorem index_num (r : TabsRep w o bt bn s n xs) (hx : xs[h]? = some (t, l)) (hg : s.a = some ⟨g, 0, none⟩) (hn : h < n) (kn : Nat) (ks : Bs) (p : Nat) (hno : look t.nums kn = none) :
    Calls Tryz.prog 139 #[.pointer (some ⟨g, h * 6, none⟩), .agg #[.int .i64 2, .int .u64 kn, sv ks], .int .i32 p] w fun e w' => e = .returned (.tuple #[]) ∧ TabsRep w' o bt bn s n (xs.set h ({ t with nums := t.nums ++ [(kn, p)] }, l)) ∧ Stp (isB h) w o w' o := by
  obtain ⟨g', ga, _, glab, gl, gc, gf⟩ := r.at hx
  rw [hg] at ga
  cases ga
  have c2 := gc 2 (by omega)
  simp only [tbCells, List.getElem?_cons_zero, List.getElem?_cons_succ, Sl.v] at c2
  have FIN : Hid (∀ W, Fr (fun _ => False) w W → ∃ w', (Instr.mapUpdate 244 (.map (some l.nums)) (.int .u64 kn) (.int .i32 p)).run Tryz.prog W = .ok () w' ∧ TabsRep w' o bt bn s n (xs.set h ({ t with nums := t.nums ++ [(kn, p)] }, l)) ∧ Stp (isB h) w o w' o) := fun W hW => by
    have rW := r.st (Stp.fresh (fun _ => False) o hW) (fun _ _ x => x)
    obtain ⟨w', h1, h2, h3⟩ := run_upd isK_u64 mapU (rW.one h _ hx).nums kn p hno
    obtain ⟨a, b⟩ := rW.setNums hx hn h2 h3
    exact ⟨w', h1, a, (Stp.fresh _ _ hW).trans b⟩
  clear r hx hg gc gf hno
  go_enter Tryz.func139, Tryz.ntmps139
  go_wp2
  refine wp_region_tail 7 (by kernel_rfl) (by kernel_rfl) (fun _ _ _ _ _ h => h) ?_
  simp only [List.take_succ_cons, List.take_zero, List.drop_succ_cons, List.drop_zero]
  repeat go_big_quiet_step (fail)
  refine wpQuiet_nil ?_
  go_wp2
  obtain ⟨w', hr, h1, h2⟩ := FIN.out ((w.alloc (.cells #[.int .i64 2, .int .u64 kn, sv ks] 68)).drew) (((Fr.refl _ _).alloc _).drew)
  rw [hr]
  have H1 : Hid (TabsRep _ _ _ _ _ _ _) := h1
  have H2 : Hid (Stp _ _ _ _ _) := h2
  clear h1 h2 hr FIN
  go_wp2
  go_end0
  exact ⟨rfl, H1.out, H2.out⟩
theorem index_str (r : TabsRep w o bt bn s n xs) (hx : xs[h]? = some (t, l)) (hg : s.a = some ⟨g, 0, none⟩) (hn : h < n) (kn : Nat) (ks : Bs) (p : Nat) (hno : look t.strs ks = none) :
    Calls Tryz.prog 139 #[.pointer (some ⟨g, h * 6, none⟩), .agg #[.int .i64 3, .int .u64 kn, sv ks], .int .i32 p] w fun e w' => e = .returned (.tuple #[]) ∧ TabsRep w' o bt bn s n (xs.set h ({ t with strs := t.strs ++ [(ks, p)] }, l)) ∧ Stp (isB h) w o w' o := by
  obtain ⟨g', ga, _, glab, gl, gc, gf⟩ := r.at hx
  rw [hg] at ga
  cases ga
  have c2 := gc 3 (by omega)
  simp only [tbCells, List.getElem?_cons_zero, List.getElem?_cons_succ, Sl.v] at c2
  have FIN : Hid (∀ W, Fr (fun _ => False) w W → ∃ w', (Instr.mapUpdate 245 (.map (some l.strs)) (sv ks) (.int .i32 p)).run Tryz.prog W = .ok () w' ∧ TabsRep w' o bt bn s n (xs.set h ({ t with strs := t.strs ++ [(ks, p)] }, l)) ∧ Stp (isB h) w o w' o) := fun W hW => by
    have rW := r.st (Stp.fresh (fun _ => False) o hW) (fun _ _ x => x)
    obtain ⟨w', h1, h2, h3⟩ := run_upd isK_str mapS (rW.one h _ hx).strs ks p hno
    obtain ⟨a, b⟩ := rW.setStrs hx hn h2 h3
    exact ⟨w', h1, a, (Stp.fresh _ _ hW).trans b⟩
  clear r hx hg gc gf hno
  go_enter Tryz.func139, Tryz.ntmps139
  go_wp2
  refine wp_region_tail 7 (by kernel_rfl) (by kernel_rfl) (fun _ _ _ _ _ h => h) ?_
  simp only [List.take_succ_cons, List.take_zero, List.drop_succ_cons, List.drop_zero]
  repeat go_big_quiet_step (fail)
  refine wpQuiet_nil ?_
  go_wp2
  obtain ⟨w', hr, h1, h2⟩ := FIN.out ((w.alloc (.cells #[.int .i64 3, .int .u64 kn, sv ks] 68)).drew) (((Fr.refl _ _).alloc _).drew)
  rw [hr]
  have H1 : Hid (TabsRep _ _ _ _ _ _ _) := h1
  have H2 : Hid (Stp _ _ _ _ _) := h2
  clear h1 h2 hr FIN
  go_wp2
  go_end0
  exact ⟨rfl, H1.out, H2.out⟩
theorem index_ref (r : TabsRep w o bt bn s n xs) (hx : xs[h]? = some (t, l)) (hg : s.a = some ⟨g, 0, none⟩) (hn : h < n) (k : Vl) (k2 : k.t ≠ 2) (k3 : k.t ≠ 3) (k0 : 0 ≤ k.t) (k7 : k.t ≤ 7) (kn : k.n < 18446744073709551616) (p : Nat) (hno : look t.refs (packV k) = none) :
    Calls Tryz.prog 139 #[.pointer (some ⟨g, h * 6, none⟩), .agg #[.int .i64 k.t, .int .u64 k.n, sv k.s], .int .i32 p] w fun e w' => e = .returned (.tuple #[]) ∧ TabsRep w' o bt bn s n (xs.set h ({ t with refs := t.refs ++ [((packV k), p)] }, l)) ∧ Stp (isB h) w o w' o := by
  obtain ⟨g', ga, _, glab, gl, gc, gf⟩ := r.at hx
  rw [hg] at ga
  cases ga
  have c2 := gc 4 (by omega)
  simp only [tbCells, List.getElem?_cons_zero, List.getElem?_cons_succ, Sl.v] at c2
  have FIN : Hid (∀ W, Fr (fun _ => False) w W → ∃ w', (Instr.mapUpdate 244 (.map (some l.refs)) (.int .u64 (packV k)) (.int .i32 p)).run Tryz.prog W = .ok () w' ∧ TabsRep w' o bt bn s n (xs.set h ({ t with refs := t.refs ++ [((packV k), p)] }, l)) ∧ Stp (isB h) w o w' o) := fun W hW => by
    have rW := r.st (Stp.fresh (fun _ => False) o hW) (fun _ _ x => x)
    obtain ⟨w', h1, h2, h3⟩ := run_upd isK_u64 mapU (rW.one h _ hx).refs (packV k) p hno
    obtain ⟨a, b⟩ := rW.setRefs hx hn h2 h3
    exact ⟨w', h1, a, (Stp.fresh _ _ hW).trans b⟩
  clear r hx hg gc gf hno
  have hPk : ∀ W, Calls Tryz.prog 211 #[.agg #[.int .i64 k.t, .int .u64 k.n, sv k.s]] W fun e w' => e = .returned (.int .u64 (packV k)) ∧ Fr (fun _ => False) W w' := fun W => pack_any k k0 k7 kn
  have k2' : (k.t == 2) = false := by simpa using k2
  have k3' : (k.t == 3) = false := by simpa using k3
  generalize packV k = pk at FIN hPk ⊢
  clear k2 k3 k0 k7 kn
  go_enter Tryz.func139, Tryz.ntmps139
  go_wp2
  obtain ⟨W1, HW1⟩ : ∃ W1 : World, Hid (W1 = w.alloc (.cells #[.int .i64 k.t, .int .u64 k.n, sv k.s] 68)) := ⟨_, rfl⟩
  rw [← HW1.out]
  have hA : Fr (fun _ => False) w W1 := by rw [HW1.out]; exact (Fr.refl _ _).alloc _
  have hS2 : ∀ x, Fr (fun _ => False) W1.drew x → x.cell? ⟨g, h * 6 + 4, none⟩ = some (.map (some l.refs)) := fun x hx => (hA.drew.trans hx (fun _ _ z => z)).cell c2
  have hS3 : ∀ x, Fr (fun _ => False) W1.drew x → Has x w.heap.size #[.int .i64 k.t, .int .u64 k.n, sv k.s] 68 := fun x hx => Has.fr (by rw [HW1.out]; exact Has.new _ _ _) hx (fun z => z)
  refine wp_region_mid [0, 1, 2, 3, 4, 6] 5 7 (fun x => Fr (fun _ => False) W1.drew x) (by kernel_rfl) (by kernel_rfl) (fun _ _ _ _ _ h => h) (Fr.refl _ _) [_, _, _, _, _, _] rfl _ rfl ?_
  refine wpQ_move rfl (.tmp 0) _ rfl rfl ?_
  refine wpQ_nilCheck rfl (.tmp 8) _ rfl rfl ?_
  refine wpQ_fieldAddr rfl (.tmp 9) 4 _ ⟨g, h * 6 + 4, none⟩ rfl rfl (fun _ => by kernel_rfl) ?_
  refine wpQ_load1 rfl (.tmp 10) _ _ rfl rfl (by kernel_rfl) hS2 ?_
  refine wpQ_loadS isVal rfl (.tmp 4) _ _ rfl rfl rfl hS3 ?_
  refine wpQ_move rfl (.tmp 2) _ rfl rfl ?_
  refine wpQuiet_nil ?_
  go_wp2_with fail
  refine (hPk _).mono ?_
  rintro e w2 ⟨rfl, hfw⟩
  go_wp2
  refine ⟨hfw, ?_⟩
  simp only [List.drop_succ_cons, List.drop_zero]
  obtain ⟨w', hr, h1, h2⟩ := FIN.out w2 (hA.drew.trans hfw (fun _ _ z => z))
  have H1 : Hid (TabsRep _ _ _ _ _ _ _) := h1
  have H2 : Hid (Stp _ _ _ _ _) := h2
  clear h1 h2 FIN
  go_wp2
  go_end0
  exact ⟨rfl, H1.out, H2.out⟩
theorem index_any (r : TabsRep w o bt bn s n xs) (hx : xs[h]? = some (t, l)) (hg : s.a = some ⟨g, 0, none⟩) (hn : h < n) (k : Vl) (hk : 0 ≤ k.t ∧ k.t ≤ 7 ∧ k.n < 18446744073709551616) (p : Nat) {i : Int} (hno : t.find k i = none) (hi : ¬ (1 ≤ i ∧ i ≤ t.arr.length)) :
    Calls Tryz.prog 139 #[.pointer (some ⟨g, h * 6, none⟩), k.val, .int .i32 p] w fun e w' => e = .returned (.tuple #[]) ∧ TabsRep w' o bt bn s n (xs.set h (t.index k p, l)) ∧ Stp (isB h) w o w' o := by
  unfold TabD.find at hno
  rw [if_neg hi] at hno
  unfold TabD.index
  by_cases h2 : k.t = 2
  · rw [if_pos h2] at hno ⊢
    obtain ⟨kt, kn, ks⟩ := k
    dsimp only at h2 hno
    subst h2
    exact index_num r hx hg hn kn ks p hno
  · rw [if_neg h2] at hno ⊢
    by_cases h3 : k.t = 3
    · rw [if_pos h3] at hno ⊢
      obtain ⟨kt, kn, ks⟩ := k
      dsimp only at h3 hno
      subst h3
      exact index_str r hx hg hn kn ks p hno
    · rw [if_neg h3] at hno ⊢
      exact index_ref r hx hg hn k h2 h3 hk.1 hk.2.1 hk.2.2 p hno
end
end Go.Proofs.Qxb6500574aGreatDoor
