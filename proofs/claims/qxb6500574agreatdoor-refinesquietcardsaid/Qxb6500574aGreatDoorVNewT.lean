/-
  THE WALK of table: Make.
-/
import Derived.Test.Qxb6500574aGreatDoorVTurn
import Derived.Test.Qxb6500574aGreatDoorRegApp
namespace Go.Proofs.Qxb6500574aGreatDoor
open Go Go.RowKit
set_option linter.unusedVariables false
set_option linter.unusedSimpArgs false

theorem rowTab : IsRow Tryz.prog 76 247 (.agg #[.slice none 0 0, .slice none 0 0, .map none, .map none, .map none, .int .i64 0]) 6 80 := ⟨by kernel_rfl, by kernel_rfl, rfl, by decide⟩
section
variable {w W0 w2 : World} {o : Nat → Nat} {bt bn n h g cap b1 b2 b3 : Nat} {s : Sl} {xs : List (TabD × TbL)} {t : TabD} {l : TbL}
def lab4 (o : Nat → Nat) (g b1 b2 b3 n : Nat) : Nat → Nat := upd (upd (upd (upd o g 5) b1 (102 + 5 * n)) b2 (103 + 5 * n)) b3 (104 + 5 * n)
/-- a table more in the arena -/
theorem TabsRep.grow (r : TabsRep w o bt bn s n xs) (hn : n = xs.length) (f0 : Fr (fun _ => False) w W0)
    (m1 : W0.heap[b1]? = some (.map #[] 0)) (m2 : W0.heap[b2]? = some (.map #[] 0)) (m3 : W0.heap[b3]? = some (.map #[] 0)) (l1 : w.heap.size ≤ b1) (l2 : b1 < b2) (l3 : b2 < b3) {ob : Obj}
    (q1 : w2.ownsRow 0 247 6 (.slice (some ⟨g, 0, none⟩) (n + 1) cap) (n + 1) (xs.flatMap tbCells ++ tbCells (tab0, ⟨sl0, sl0, b1, b2, b3⟩))) (q2 : Fr (fun j => (s.v n).ownBlock = some j) (W0.alloc ob) w2) (q3 : (s.v n).ownBlock = some g ∨ g = W0.heap.size + 1) (q4 : g < w2.heap.size) :
    Has w2 bt #[.pointer (some ⟨bn, 0, none⟩), s.v n, .int .i64 n] 78 ∧
    TabsRep (w2.setCell ⟨bt, 1, none⟩ (.slice (some ⟨g, 0, none⟩) (n + 1) cap)) (lab4 o g b1 b2 b3 n) bt bn ⟨some ⟨g, 0, none⟩, cap⟩ n (xs ++ [(tab0, ⟨sl0, sl0, b1, b2, b3⟩)]) ∧ Stp isTb w o (w2.setCell ⟨bt, 1, none⟩ (.slice (some ⟨g, 0, none⟩) (n + 1) cap)) (lab4 o g b1 b2 b3 n) := by
  have b1l := (Array.getElem?_eq_some_iff.1 m1).1
  have b2l := (Array.getElem?_eq_some_iff.1 m2).1
  have b3l := (Array.getElem?_eq_some_iff.1 m3).1
  have own5 : ∀ k, (s.v n).ownBlock = some k → o k = 5 ∧ k < w.heap.size := fun k hk => ⟨r.row.lb k (by rw [ownBlock_any _ _ _ n s.c]; exact hk), r.row.lt (by rw [ownBlock_any _ _ _ n s.c]; exact hk)⟩
  have btl := r.here.has.lt
  have btlab := r.here.lb
  have hs2 := q2.size
  have hs0 := f0.size
  simp at hs2
  have gne : g ≠ b1 ∧ g ≠ b2 ∧ g ≠ b3 := by
    rcases q3 with q3 | q3
    · have := (own5 g q3).2; omega
    · omega
  have gbt : g ≠ bt := by
    rcases q3 with q3 | q3
    · intro e; have := (own5 g q3).1; rw [e, btlab] at this; omega
    · omega
  have lold : ∀ k, k < w.heap.size → lab4 o g b1 b2 b3 n k = o k := fun k hk => by
    unfold lab4
    rw [upd_ne _ _ (by omega), upd_ne _ _ (by omega), upd_ne _ _ (by omega)]
    by_cases e : k = g
    · subst e
      rw [upd_self]
      rcases q3 with q3 | q3
      · exact (own5 k q3).1.symm
      · omega
    · exact upd_ne _ _ e
  have lg : lab4 o g b1 b2 b3 n g = 5 := by unfold lab4; rw [upd_ne _ _ gne.2.2, upd_ne _ _ gne.2.1, upd_ne _ _ gne.1, upd_self]
  have lb1 : lab4 o g b1 b2 b3 n b1 = 102 + 5 * n := by unfold lab4; rw [upd_ne _ _ (by omega), upd_ne _ _ (by omega), upd_self]
  have lb2 : lab4 o g b1 b2 b3 n b2 = 103 + 5 * n := by unfold lab4; rw [upd_ne _ _ (by omega), upd_self]
  have lb3 : lab4 o g b1 b2 b3 n b3 = 104 + 5 * n := by unfold lab4; rw [upd_self]
  -- the step up to the append
  have F2 : Fr (fun k => (s.v n).ownBlock = some k) w w2 := (Fr.trans (S := fun k => (s.v n).ownBlock = some k) ((f0.weaken (fun _ _ x => x.elim)).alloc ob) q2 (fun _ _ x => x))
  have S2 : Stp (fun k => k = 5) w o w2 (lab4 o g b1 b2 b3 n) := ⟨F2.weaken (fun k _ hk => (own5 k hk).1), lold, fun x k hk => by
    have e1 : k ≠ g := by omega
    have e2 : k ≠ b1 := by omega
    have e3 : k ≠ b2 := by omega
    have e4 : k ≠ b3 := by omega
    unfold lab4
    rw [upd_ne _ _ e4, upd_ne _ _ e3, upd_ne _ _ e2, upd_ne _ _ e1]
    exact x k (by omega)⟩
  have hh : Has w2 bt #[.pointer (some ⟨bn, 0, none⟩), s.v n, .int .i64 n] 78 := by
    have := S2.has r.here.has (by rw [btlab]; omega)
    rw [hn] at this ⊢
    exact this
  have S3 : Stp (fun k => k = 4) w2 (lab4 o g b1 b2 b3 n) (w2.setCell ⟨bt, 1, none⟩ (.slice (some ⟨g, 0, none⟩) (n + 1) cap)) (lab4 o g b1 b2 b3 n) := (Stp.refl (fun k => k = 4) w2 (lab4 o g b1 b2 b3 n)).setCell (p := ⟨bt, 1, none⟩) (show lab4 o g b1 b2 b3 n bt = 4 from (lold bt btl).trans btlab) _
  have SS : Stp (fun k => k = 5 ∨ k = 4) w o (w2.setCell ⟨bt, 1, none⟩ (.slice (some ⟨g, 0, none⟩) (n + 1) cap)) (lab4 o g b1 b2 b3 n) := (S2.weaken (fun k hk => .inl hk)).trans (S3.weaken (fun k hk => .inr hk))
  have maps : ∀ (b lab : Nat), W0.heap[b]? = some (.map #[] 0) → w.heap.size ≤ b → b < W0.heap.size → lab4 o g b1 b2 b3 n b = lab → lab ≠ 4 → MapAt (w2.setCell ⟨bt, 1, none⟩ (.slice (some ⟨g, 0, none⟩) (n + 1) cap)) (lab4 o g b1 b2 b3 n) lab b [] := by
    intro b lab hb hlo hhi hlab h4
    refine ⟨⟨#[], 0, ?_, rfl, MapKept.stamped_empty 0⟩, hlab⟩
    have e1 : (w2.setCell ⟨bt, 1, none⟩ (.slice (some ⟨g, 0, none⟩) (n + 1) cap)).heap[b]? = w2.heap[b]? := Below.heap_setCell w2 _ _ b (by simp; omega)
    rw [e1, q2.block b (by simp; omega) (fun hk => by have := (own5 b hk).2; omega), Below.heap_alloc W0 ob b hhi]
    exact hb
  refine ⟨hh, ⟨⟨?_, ?_⟩, ?_, ?_, ?_, ?_⟩, SS.weaken (fun k hk => by rcases hk with hk | hk; exact .inr (.inl hk); exact .inl hk)⟩
  · have := hh.put 1 (.slice (some ⟨g, 0, none⟩) (n + 1) cap)
    have hl : (xs ++ [(tab0, (⟨sl0, sl0, b1, b2, b3⟩ : TbL))]).length = n + 1 := by simp [hn]
    rw [hl]
    exact this
  · exact (lold bt btl).trans btlab
  · have hl : (xs ++ [(tab0, (⟨sl0, sl0, b1, b2, b3⟩ : TbL))]).length = n + 1 := by simp [hn]
    rw [hl]
    refine ⟨?_, fun k hk => ?_⟩
    · have := owns_other q1 (p := ⟨bt, 1, none⟩) (by simp [Value.ownBlock]; exact gbt) (.slice (some ⟨g, 0, none⟩) (n + 1) cap)
      simpa using this
    · simp [Value.ownBlock] at hk
      rw [← hk]
      exact lg
  · intro h x hx
    by_cases hl : h < xs.length
    · rw [List.getElem?_append_left hl] at hx
      exact (r.one h x hx).st SS (fun j hj hq => by rcases hq with hq | hq <;> omega)
    · rw [List.getElem?_append_right (by omega)] at hx
      have he : h = xs.length := by
        have := (List.getElem?_eq_some_iff.1 hx).1
        simp at this
        omega
      subst he
      simp at hx
      subst hx
      rw [← hn]
      exact ⟨Row.nil _ _ _ _ _, Row.nil _ _ _ _ _, maps b1 _ m1 l1 b1l lb1 (by omega), maps b2 _ m2 (by omega) b2l lb2 (by omega), maps b3 _ m3 (by omega) b3l lb3 (by omega)⟩
  · intro h x hx hnh
    by_cases hl : h < xs.length
    · omega
    · rw [List.getElem?_append_right (by omega)] at hx
      have he : h = xs.length := by
        have := (List.getElem?_eq_some_iff.1 hx).1
        simp at this
        omega
      subst he
      simp at hx
      subst hx
      rfl
  · simp; omega
/-- one table more in the run -/
theorem TabsRep.count (r : TabsRep w o bt bn s n xs) (m : Nat) (hm : m ≤ xs.length) (hw : ∀ h x, xs[h]? = some x → m ≤ h → x.1 = tab0) : TabsRep (w.setCell ⟨bt, 2, none⟩ (.int .i64 m)) o bt bn s m xs ∧ Stp isTb w o (w.setCell ⟨bt, 2, none⟩ (.int .i64 m)) o := by
  obtain ⟨h1, h2⟩ := r.here.put 2 (.int .i64 m) (cs' := #[.pointer (some ⟨bn, 0, none⟩), s.v xs.length, .int .i64 m]) rfl
  exact ⟨⟨h1, r.row.st h2 (by omega), fun h x hx => (r.one h x hx).st h2 (fun j hj => by omega), hw, hm⟩, h2.weaken (fun k hk => .inl hk)⟩
theorem run_mkMap1 (w : World) : (Instr.makeMap 244 none).run Tryz.prog w = .ok (.map (some w.heap.size)) (w.alloc (.map #[] 0)) := by
  kernel_rfl
theorem run_mkMap2 (w : World) : (Instr.makeMap 245 none).run Tryz.prog w = .ok (.map (some w.heap.size)) (w.alloc (.map #[] 0)) := by
  kernel_rfl
set_option maxRecDepth 100000
set_option maxHeartbeats 600000
theorem make_full (r : TabsRep w o bt bn s n xs) (hn : n = 12) : Calls Tryz.prog 81 #[.pointer (some ⟨bt, 0, none⟩)] w fun e w' => e = .returned (.tuple #[.int .i64 (-1), .int .i64 8]) ∧ w' = w := by
  subst hn
  have c2 := r.here.has.cell 2
  simp only [List.getElem?_toArray, List.getElem?_cons_zero, List.getElem?_cons_succ] at c2
  have hbt := r.here.has.lt
  clear r
  go_enter Tryz.func81, Tryz.ntmps81
  go_wp2
  go_ret2
  exact ⟨rfl, rfl⟩
theorem make_wait (r : TabsRep w o bt bn s n xs) (hn : n < 12) (hx : n < xs.length) (h12 : xs.length ≤ 12) : Calls Tryz.prog 81 #[.pointer (some ⟨bt, 0, none⟩)] w fun e w' => e = .returned (.tuple #[.int .i64 n, .int .i64 0]) ∧ TabsRep w' o bt bn s (n + 1) xs ∧ Stp isTb w o w' o := by
  have c1 := r.here.has.cell 1
  have c2 := r.here.has.cell 2
  have f2 := r.here.has.frozen 2
  simp only [List.getElem?_toArray, List.getElem?_cons_zero, List.getElem?_cons_succ] at c1 c2
  have hbt := r.here.has.lt
  have FIN : Hid (∀ k, TabsRep ((w.drewN k).setCell ⟨bt, 2, none⟩ (.int .i64 ((n + 1 : Nat) : Int))) o bt bn s (n + 1) xs ∧ Stp isTb w o ((w.drewN k).setCell ⟨bt, 2, none⟩ (.int .i64 ((n + 1 : Nat) : Int))) o) := fun k => by
    have rk := r.st (Stp.fresh (fun _ => False) o ((Fr.refl _ w).drewN k)) (fun _ _ x => x)
    obtain ⟨a, b⟩ := rk.count (n + 1) (by omega) (fun h x hx hh => r.wait h x hx (by omega))
    exact ⟨a, (Stp.fresh _ _ ((Fr.refl _ w).drewN k)).trans b⟩
  have hn1 : ¬ (12 : Int) ≤ n := by omega
  have hn2 : ((n : Int) == (xs.length : Int)) = false := by rw [beq_eq_false_iff_ne]; omega
  obtain ⟨N, HN⟩ : ∃ N : Nat, Hid (xs.length = N) := ⟨_, rfl⟩
  rw [HN.out] at c1 hn2 h12 hx
  clear r
  go_enter Tryz.func81, Tryz.ntmps81
  go_wp2
  refine wp_region_quiet_lit (by kernel_rfl) (by kernel_rfl) ?_
  repeat go_big_quiet_step (fail)
  refine wpQuiet_nil ?_
  rintro w' ⟨nq, rfl⟩
  go_wp2
  go_ret2
  have e1 : ((n : Int) + 1) = ((n + 1 : Nat) : Int) := by omega
  rw [e1]
  obtain ⟨q1, q2⟩ := FIN.out nq
  exact ⟨rfl, q1, q2⟩
theorem make_grow (r : TabsRep w o bt bn s n xs) (hn : n < 12) (hx : n = xs.length) : Calls Tryz.prog 81 #[.pointer (some ⟨bt, 0, none⟩)] w fun e w' => e = .returned (.tuple #[.int .i64 n, .int .i64 0]) ∧ ∃ o' s' l', TabsRep w' o' bt bn s' (n + 1) (xs ++ [(tab0, l')]) ∧ Stp isTb w o w' o' := by
  have c1 := r.here.has.cell 1
  have c2 := r.here.has.cell 2
  have f2 := r.here.has.frozen 2
  have f1 := r.here.has.frozen 1
  simp only [List.getElem?_toArray, List.getElem?_cons_zero, List.getElem?_cons_succ] at c1 c2
  rw [← hx] at c1
  have hbt := r.here.has.lt
  have hn1 : ¬ (12 : Int) ≤ n := by omega
  have HR : Hid (TabsRep w o bt bn s n xs) := r
  have HX : Hid (n = xs.length) := hx
  have hm1 := fun w => run_mkMap1 w
  have hm2 := fun w => run_mkMap2 w
  clear r hx
  go_enter Tryz.func81, Tryz.ntmps81
  go_wp2
  refine wp_region_quiet_lit (by kernel_rfl) (by kernel_rfl) ?_
  repeat go_big_quiet_step (fail)
  refine wpQuiet_nil ?_
  rintro w' ⟨nq, rfl⟩
  go_wp2_with (first | simp only [hm1] | simp only [hm2])
  obtain ⟨W0, HW0⟩ : ∃ W0 : World, Hid (W0 = ((((w.drewN nq).alloc (.map #[] 0)).alloc (.map #[] 0)).alloc (.map #[] 0)).alloc (.cells #[.slice none 0 0, .slice none 0 0, .map (some w.heap.size), .map (some (w.heap.size + 1)), .map (some (w.heap.size + 1 + 1)), .int .i64 0] 247)) := ⟨_, rfl⟩
  rw [← HW0.out]
  have f0 : Fr (fun _ => False) w W0 := by rw [HW0.out]; exact (((((Fr.refl _ _).drewN nq).alloc _).alloc _).alloc _).alloc _
  have z0 : W0.heap.size = w.heap.size + 4 := by rw [HW0.out]; simp
  have m1 : W0.heap[w.heap.size]? = some (.map #[] 0) := by
    rw [HW0.out, Below.heap_alloc _ _ _ (by simp <;> omega), Below.heap_alloc _ _ _ (by simp <;> omega), Below.heap_alloc _ _ _ (by simp)]
    exact (MapKept.heap_alloc (w.drewN nq) _).1
  have m2 : W0.heap[w.heap.size + 1]? = some (.map #[] 0) := by
    rw [HW0.out, Below.heap_alloc _ _ _ (by simp <;> omega), Below.heap_alloc _ _ _ (by simp)]
    have := (MapKept.heap_alloc ((w.drewN nq).alloc (.map #[] 0)) (.map #[] 0)).1
    simpa using this
  have m3 : W0.heap[w.heap.size + 1 + 1]? = some (.map #[] 0) := by
    rw [HW0.out, Below.heap_alloc _ _ _ (by simp)]
    have := (MapKept.heap_alloc (((w.drewN nq).alloc (.map #[] 0)).alloc (.map #[] 0)) (.map #[] 0)).1
    simpa using this
  have kb : Has W0 (w.heap.size + 1 + 1 + 1) #[.slice none 0 0, .slice none 0 0, .map (some w.heap.size), .map (some (w.heap.size + 1)), .map (some (w.heap.size + 1 + 1)), .int .i64 0] 247 := by rw [HW0.out]; exact Has.newC _ _ _ (by simp)
  have r0 := HR.out.st (Stp.fresh (fun _ => False) o f0) (fun _ _ x => x)
  have c1' := f0.cell c1
  have k0 := kb.cell 0
  have k1 := kb.cell 1
  have k2 := kb.cell 2
  have k3 := kb.cell 3
  have k4 := kb.cell 4
  have k5 := kb.cell 5
  simp at k0 k1 k2 k3 k4 k5
  have l0 := kb.lt
  have l1 : bt < W0.heap.size := by omega
  have hrow := r0.row.own
  rw [← HX.out] at hrow
  have hne : ∀ k, (s.v n).ownBlock = some k → k < w.heap.size ∧ o k = 5 := fun k hk => by
    have hk' : (Value.slice s.a 0 0).ownBlock = some k := by rw [ownBlock_any _ _ _ n s.c]; exact hk
    exact ⟨HR.out.row.lt hk', HR.out.row.lb k hk'⟩
  refine wp_region_app rowTab 5 (by kernel_rfl) (by kernel_rfl) (fun _ _ _ _ _ h => h) _ _ _ rfl (.tmp 29) (.tmp 28) 30 31 rfl rfl rfl rfl rfl rfl (s.v n) n _ hrow (.agg #[.slice none 0 0, .slice none 0 0, .map (some w.heap.size), .map (some (w.heap.size + 1)), .map (some (w.heap.size + 1 + 1)), .int .i64 0]) rfl (by decide) (by simp [Value.cells, Value.oneCell']) (by omega) ?_
  intro g cap w2 q1 q2 q3 q4
  have kb' : Has w2 (w.heap.size + 1 + 1 + 1) _ _ := (kb.alloc _).fr q2 (fun hk => by have := (hne _ hk).1; omega)
  obtain ⟨hh, R, S⟩ := HR.out.grow (ob := .cells #[.slice none 0 0, .slice none 0 0, .map (some w.heap.size), .map (some (w.heap.size + 1)), .map (some (w.heap.size + 1 + 1)), .int .i64 0] 247) HX.out f0 m1 m2 m3 (Nat.le_refl _) (by omega) (by omega) (by simpa [tbCells, Value.cells, sl0, tab0] using q1) q2 q3 q4
  have j0 := kb'.cell 0
  have j1 := kb'.cell 1
  have j2 := kb'.cell 2
  have j3 := kb'.cell 3
  have j4 := kb'.cell 4
  have j5 := kb'.cell 5
  simp at j0 j1 j2 j3 j4 j5
  have d1 := hh.cell 1
  have d2 := hh.cell 2
  simp only [List.getElem?_toArray, List.getElem?_cons_zero, List.getElem?_cons_succ] at d1 d2
  have e1 := hh.frozen 1
  have e2 := hh.frozen 2
  have hb2 := hh.lt
  have kb2 := kb'.lt
  obtain ⟨T1, T2⟩ := R.count (n + 1) (by simp; have := HX.out; omega) (fun h x hx hh => by
    have := (List.getElem?_eq_some_iff.1 hx).1
    simp at this
    have := HX.out
    omega)
  have FIN : Hid (TabsRep _ _ _ _ _ _ _ ∧ Stp _ _ _ _ _) := ⟨T1, S.trans T2⟩
  clear T1 T2 R S hh kb' q1 q2 q3 q4 hne hrow r0 m1 m2 m3 kb f0 z0
  simp only [List.take_succ_cons, List.take_zero]
  repeat go_big_quiet_step (fail)
  refine wpQuiet_nil ⟨rfl, rfl, by simp, rfl, ?_⟩
  go_wp2
  go_ret2
  have e9 : ((n : Int) + 1) = ((n + 1 : Nat) : Int) := by omega
  rw [e9]
  exact ⟨rfl, _, _, _, FIN.out⟩
end
end Go.Proofs.Qxb6500574aGreatDoor
