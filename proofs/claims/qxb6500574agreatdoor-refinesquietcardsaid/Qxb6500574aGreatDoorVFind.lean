/-
  THE WALK of table: find.
-/
import Derived.Test.Qxb6500574aGreatDoorVTabW
import Derived.Test.Qxb6500574aGreatDoorVInv0
import Derived.Test.Qxb6500574aGreatDoorReg5
namespace Go.Proofs.Qxb6500574aGreatDoor
open Go Go.RowKit
set_option linter.unusedVariables false
set_option linter.unusedSimpArgs false

theorem wpQ_loadS {ops : Array Oper} {S : World → Prop} {T : Act → Prop} {o : Oper} {l : List Oper} {a : Act} {Ty n : Nat} (hT : IsStr Ty n) (hg : o.guard = none) (x : Operand) (b : Nat) (cs : Array Value) (ho : o.op = .load Ty x) (hx : a.eval x = .pointer (some ⟨b, 0, none⟩)) (hn : cs.size = n) (hC : ∀ w, S w → Has w b cs Ty) (h : wpQuiet Tryz.prog ops S T l (a.put o.dst (.agg cs))) : wpQuiet Tryz.prog ops S T (o :: l) a := by
  have hw : Region.wanted o (yielded ops a.tmps) = true := by simp [Region.wanted, hg]
  unfold wpQuiet
  rw [if_pos hw]
  refine ⟨.agg cs, fun w hw => ?_, h⟩
  unfold Oper.quietAt
  have : (execOp a.eval o).run Tryz.prog w = .ok (.value (.agg cs)) w := by
    simp only [execOp, ho, hx, Instr.loadAt, Instr.sureAddr, Sem.run_bind, Sem.run_pure, Result.andThen_ok, hT.load (hC w hw) hn]
  rw [this]
  exact ⟨rfl, rfl⟩
theorem wpQ_lookS {ops : Array Oper} {S : World → Prop} {T : Act → Prop} {o : Oper} {l : List Oper} {a : Act} {Ty : Nat} (hg : o.guard = none) (x y : Operand) (v : Value) {mv kv : Value} (ho : o.op = .lookup Ty x y true) (hx : a.eval x = mv) (hy : a.eval y = kv) (hC : ∀ w, S w → (Instr.lookup Ty mv kv true).run Tryz.prog w = .ok v w) (h : wpQuiet Tryz.prog ops S T l (a.put o.dst v)) : wpQuiet Tryz.prog ops S T (o :: l) a := by
  have hw : Region.wanted o (yielded ops a.tmps) = true := by simp [Region.wanted, hg]
  unfold wpQuiet
  rw [if_pos hw]
  refine ⟨v, fun w hw => ?_, h⟩
  unfold Oper.quietAt
  have : (execOp a.eval o).run Tryz.prog w = .ok (.value v) w := by
    simp only [execOp, ho, hx, hy, Sem.run_bind, hC w hw, Sem.run_pure, Result.andThen_ok]
  rw [this]
  exact ⟨rfl, rfl⟩
section
variable {w : World} {o : Nat → Nat} {bt bn n h g : Nat} {s : Sl} {xs : List (TabD × TbL)} {t : TabD} {l : TbL}
set_option maxRecDepth 100000
set_option maxHeartbeats 400000
theorem find_arr (r : TabsRep w o bt bn s n xs) (hx : xs[h]? = some (t, l)) (hg : s.a = some ⟨g, 0, none⟩) (hf : TFit t) (k : Vl) {i p : Nat} (hi : t.arr[i]? = some p) :
    Calls Tryz.prog 136 #[.pointer (some ⟨g, h * 6, none⟩), k.val, .int .i64 ((i : Int) + 1)] w fun e w' => e = .returned (.int .i64 p) ∧ Fr (fun _ => False) w w' := by
  obtain ⟨g', ga, _, _, gl, gc, gf⟩ := r.at hx
  rw [hg] at ga
  cases ga
  have c1 := gc 1 (by omega)
  simp only [tbCells, List.getElem?_cons_succ, List.getElem?_cons_zero, Sl.v] at c1
  have hlt := (List.getElem?_eq_some_iff.1 hi).1
  obtain ⟨ga, a1, a2, a3, a4, a5, a6⟩ := (r.one h _ hx).arr.cells (show 0 < t.arr.length by omega)
  have a7 := a5 i (show i < t.arr.length * 1 by omega)
  have a8 := flatMap_at _ 1 aCells_len t.arr i 0 p hi (by omega)
  rw [Nat.mul_one, Nat.add_zero] at a8
  rw [a8] at a7
  simp only [aCells, List.getElem?_cons_zero] at a7
  rw [a1] at c1
  have hp := hf.ap p (List.mem_of_getElem? hi)
  have ho := hf.ol
  have hal := hf.al
  have a2' : t.arr.length ≤ l.arr.c := a2
  obtain ⟨N, HN⟩ : ∃ N : Nat, Hid (t.arr.length = N) := ⟨_, rfl⟩
  rw [HN.out] at c1 hlt hal a2'
  clear a5 a6 a8 gc gf a2 r hx hf hi a1 hg
  have hi1 : (1 : Int) ≤ (i : Int) + 1 := by omega
  have hi2 : ((i : Int) + 1 ≤ (N : Int)) := by omega
  have hi3 : (i : Int) + 1 - 1 = i := by omega
  go_enter Tryz.func136, Tryz.ntmps136
  go_wp2
  go_ret
  exact ⟨rfl, Fr.box _⟩
theorem find_num (r : TabsRep w o bt bn s n xs) (hx : xs[h]? = some (t, l)) (hg : s.a = some ⟨g, 0, none⟩) (hf : TFit t) (kn : Nat) (ks : Bs) {i : Int} (hi : ¬ (1 ≤ i ∧ i ≤ t.arr.length)) :
    Calls Tryz.prog 136 #[.pointer (some ⟨g, h * 6, none⟩), .agg #[.int .i64 2, .int .u64 kn, sv ks], .int .i64 i] w fun e w' => e = .returned (.int .i64 (findI (look t.nums kn))) ∧ Fr (fun _ => False) w w' := by
  obtain ⟨g', ga, _, _, gl, gc, gf⟩ := r.at hx
  rw [hg] at ga
  cases ga
  have c1 := gc 1 (by omega)
  have c2 := gc 2 (by omega)
  simp only [tbCells, List.getElem?_cons_succ, List.getElem?_cons_zero, Sl.v] at c1 c2
  have hal := hf.al
  have hL : ∀ W, Fr (fun _ => False) w W → (Instr.lookup 244 (.map (some l.nums)) (.int .u64 kn) true).run Tryz.prog W = .ok (.tuple #[.int .i32 ((look t.nums kn).getD 0 : Nat), .bool (look t.nums kn).isSome]) W := fun W hW =>
    run_look isK_u64 mapU ((r.one h _ hx).nums.st (Stp.fresh (fun _ => False) o hW) (fun x => x)) _
  have hP : ∀ p, look t.nums kn = some p → p < 32 := fun p hp => by
    obtain ⟨e, h1, h2⟩ := look_mem hp
    have := hf.np e h1
    have := hf.ol
    omega
  clear gc gf r hx hf hg
  obtain ⟨N, HN⟩ : ∃ N : Nat, Hid (t.arr.length = N) := ⟨_, rfl⟩
  rw [HN.out] at c1 hal hi
  generalize hq : look t.nums kn = q at hL hP ⊢
  clear hq
  by_cases h1 : 1 ≤ i
  · have h2 : ¬ i ≤ (N : Int) := fun x => hi ⟨h1, x⟩
    clear hi
    cases q with
    | none =>
      simp only [Option.getD_none, Option.isSome_none] at hL
      go_enter Tryz.func136, Tryz.ntmps136
      go_wp2
      refine wp_region_Y 6 1 12 (by kernel_rfl) (by kernel_rfl) (fun _ _ _ _ _ h => h) ?_
      simp only [List.take_succ_cons, List.take_zero, List.drop_succ_cons, List.drop_zero]
      repeat go_big_quiet_step (fail)
      refine wpQuiet_nil ?_
      go_wp2
      rw [hL _ (((Fr.refl _ _).alloc _).drew)]
      go_wp2
      repeat go_big_quiet_step (fail)
      refine wpQuiet_nil ?_
      go_wp2
      go_ret
      exact ⟨rfl, ((Fr.refl _ _).alloc _).drew⟩
    | some p =>
      have hp := hP p rfl
      simp only [Option.getD_some, Option.isSome_some] at hL
      go_enter Tryz.func136, Tryz.ntmps136
      go_wp2
      refine wp_region_Y 6 1 12 (by kernel_rfl) (by kernel_rfl) (fun _ _ _ _ _ h => h) ?_
      simp only [List.take_succ_cons, List.take_zero, List.drop_succ_cons, List.drop_zero]
      repeat go_big_quiet_step (fail)
      refine wpQuiet_nil ?_
      go_wp2
      rw [hL _ (((Fr.refl _ _).alloc _).drew)]
      go_wp2
      repeat go_big_quiet_step (fail)
      refine wpQuiet_nil ?_
      go_wp2
      go_ret
      exact ⟨rfl, ((Fr.refl _ _).alloc _).drew⟩
  · clear hi
    cases q with
    | none =>
      simp only [Option.getD_none, Option.isSome_none] at hL
      go_enter Tryz.func136, Tryz.ntmps136
      go_wp2
      refine wp_region_Y 6 1 12 (by kernel_rfl) (by kernel_rfl) (fun _ _ _ _ _ h => h) ?_
      simp only [List.take_succ_cons, List.take_zero, List.drop_succ_cons, List.drop_zero]
      repeat go_big_quiet_step (fail)
      refine wpQuiet_nil ?_
      go_wp2
      rw [hL _ (((Fr.refl _ _).alloc _).drew)]
      go_wp2
      repeat go_big_quiet_step (fail)
      refine wpQuiet_nil ?_
      go_wp2
      go_ret
      exact ⟨rfl, ((Fr.refl _ _).alloc _).drew⟩
    | some p =>
      have hp := hP p rfl
      simp only [Option.getD_some, Option.isSome_some] at hL
      go_enter Tryz.func136, Tryz.ntmps136
      go_wp2
      refine wp_region_Y 6 1 12 (by kernel_rfl) (by kernel_rfl) (fun _ _ _ _ _ h => h) ?_
      simp only [List.take_succ_cons, List.take_zero, List.drop_succ_cons, List.drop_zero]
      repeat go_big_quiet_step (fail)
      refine wpQuiet_nil ?_
      go_wp2
      rw [hL _ (((Fr.refl _ _).alloc _).drew)]
      go_wp2
      repeat go_big_quiet_step (fail)
      refine wpQuiet_nil ?_
      go_wp2
      go_ret
      exact ⟨rfl, ((Fr.refl _ _).alloc _).drew⟩
theorem find_str (r : TabsRep w o bt bn s n xs) (hx : xs[h]? = some (t, l)) (hg : s.a = some ⟨g, 0, none⟩) (hf : TFit t) (kn : Nat) (ks : Bs) {i : Int} (hi : ¬ (1 ≤ i ∧ i ≤ t.arr.length)) :
    Calls Tryz.prog 136 #[.pointer (some ⟨g, h * 6, none⟩), .agg #[.int .i64 3, .int .u64 kn, sv ks], .int .i64 i] w fun e w' => e = .returned (.int .i64 (findI (look t.strs ks))) ∧ Fr (fun _ => False) w w' := by
  obtain ⟨g', ga, _, _, gl, gc, gf⟩ := r.at hx
  rw [hg] at ga
  cases ga
  have c1 := gc 1 (by omega)
  have c2 := gc 3 (by omega)
  simp only [tbCells, List.getElem?_cons_succ, List.getElem?_cons_zero, Sl.v] at c1 c2
  have hal := hf.al
  have hL : ∀ W, Fr (fun _ => False) w W → (Instr.lookup 245 (.map (some l.strs)) (sv ks) true).run Tryz.prog W = .ok (.tuple #[.int .i32 ((look t.strs ks).getD 0 : Nat), .bool (look t.strs ks).isSome]) W := fun W hW =>
    run_look isK_str mapS ((r.one h _ hx).strs.st (Stp.fresh (fun _ => False) o hW) (fun x => x)) _
  have hP : ∀ p, look t.strs ks = some p → p < 32 := fun p hp => by
    obtain ⟨e, h1, h2⟩ := look_mem hp
    have := hf.sp e h1
    have := hf.ol
    omega
  clear gc gf r hx hf hg
  obtain ⟨N, HN⟩ : ∃ N : Nat, Hid (t.arr.length = N) := ⟨_, rfl⟩
  rw [HN.out] at c1 hal hi
  generalize hq : look t.strs ks = q at hL hP ⊢
  clear hq
  by_cases h1 : 1 ≤ i
  · have h2 : ¬ i ≤ (N : Int) := fun x => hi ⟨h1, x⟩
    clear hi
    cases q with
    | none =>
      simp only [Option.getD_none, Option.isSome_none] at hL
      go_enter Tryz.func136, Tryz.ntmps136
      go_wp2
      refine wp_region_Y 6 1 12 (by kernel_rfl) (by kernel_rfl) (fun _ _ _ _ _ h => h) ?_
      simp only [List.take_succ_cons, List.take_zero, List.drop_succ_cons, List.drop_zero]
      repeat go_big_quiet_step (fail)
      refine wpQuiet_nil ?_
      go_wp2
      rw [hL _ (((Fr.refl _ _).alloc _).drew)]
      go_wp2
      repeat go_big_quiet_step (fail)
      refine wpQuiet_nil ?_
      go_wp2
      go_ret
      exact ⟨rfl, ((Fr.refl _ _).alloc _).drew⟩
    | some p =>
      have hp := hP p rfl
      simp only [Option.getD_some, Option.isSome_some] at hL
      go_enter Tryz.func136, Tryz.ntmps136
      go_wp2
      refine wp_region_Y 6 1 12 (by kernel_rfl) (by kernel_rfl) (fun _ _ _ _ _ h => h) ?_
      simp only [List.take_succ_cons, List.take_zero, List.drop_succ_cons, List.drop_zero]
      repeat go_big_quiet_step (fail)
      refine wpQuiet_nil ?_
      go_wp2
      rw [hL _ (((Fr.refl _ _).alloc _).drew)]
      go_wp2
      repeat go_big_quiet_step (fail)
      refine wpQuiet_nil ?_
      go_wp2
      go_ret
      exact ⟨rfl, ((Fr.refl _ _).alloc _).drew⟩
  · clear hi
    cases q with
    | none =>
      simp only [Option.getD_none, Option.isSome_none] at hL
      go_enter Tryz.func136, Tryz.ntmps136
      go_wp2
      refine wp_region_Y 6 1 12 (by kernel_rfl) (by kernel_rfl) (fun _ _ _ _ _ h => h) ?_
      simp only [List.take_succ_cons, List.take_zero, List.drop_succ_cons, List.drop_zero]
      repeat go_big_quiet_step (fail)
      refine wpQuiet_nil ?_
      go_wp2
      rw [hL _ (((Fr.refl _ _).alloc _).drew)]
      go_wp2
      repeat go_big_quiet_step (fail)
      refine wpQuiet_nil ?_
      go_wp2
      go_ret
      exact ⟨rfl, ((Fr.refl _ _).alloc _).drew⟩
    | some p =>
      have hp := hP p rfl
      simp only [Option.getD_some, Option.isSome_some] at hL
      go_enter Tryz.func136, Tryz.ntmps136
      go_wp2
      refine wp_region_Y 6 1 12 (by kernel_rfl) (by kernel_rfl) (fun _ _ _ _ _ h => h) ?_
      simp only [List.take_succ_cons, List.take_zero, List.drop_succ_cons, List.drop_zero]
      repeat go_big_quiet_step (fail)
      refine wpQuiet_nil ?_
      go_wp2
      rw [hL _ (((Fr.refl _ _).alloc _).drew)]
      go_wp2
      repeat go_big_quiet_step (fail)
      refine wpQuiet_nil ?_
      go_wp2
      go_ret
      exact ⟨rfl, ((Fr.refl _ _).alloc _).drew⟩
set_option maxHeartbeats 1500000 in
theorem find_ref (r : TabsRep w o bt bn s n xs) (hx : xs[h]? = some (t, l)) (hg : s.a = some ⟨g, 0, none⟩) (hf : TFit t) (k : Vl) (k2 : k.t ≠ 2) (k3 : k.t ≠ 3) (k0 : 0 ≤ k.t) (k7 : k.t ≤ 7) (kn : k.n < 18446744073709551616) {i : Int} (hi : ¬ (1 ≤ i ∧ i ≤ t.arr.length)) :
    Calls Tryz.prog 136 #[.pointer (some ⟨g, h * 6, none⟩), k.val, .int .i64 i] w fun e w' => e = .returned (.int .i64 (findI (look t.refs (packV k)))) ∧ Fr (fun _ => False) w w' := by
  obtain ⟨g', ga, _, _, gl, gc, gf⟩ := r.at hx
  rw [hg] at ga
  cases ga
  have c1 := gc 1 (by omega)
  have c2 := gc 4 (by omega)
  simp only [tbCells, List.getElem?_cons_succ, List.getElem?_cons_zero, Sl.v] at c1 c2
  have hal := hf.al
  have hL : ∀ W, Fr (fun _ => False) w W → (Instr.lookup 244 (.map (some l.refs)) (.int .u64 (packV k)) true).run Tryz.prog W = .ok (.tuple #[.int .i32 ((look t.refs (packV k)).getD 0 : Nat), .bool (look t.refs (packV k)).isSome]) W := fun W hW =>
    run_look isK_u64 mapU ((r.one h _ hx).refs.st (Stp.fresh (fun _ => False) o hW) (fun x => x)) _
  have hP : ∀ p, look t.refs (packV k) = some p → p < 32 := fun p hp => by
    obtain ⟨e, h1, h2⟩ := look_mem hp
    have := hf.rp e h1
    have := hf.ol
    omega
  clear gc gf r hx hf hg
  obtain ⟨N, HN⟩ : ∃ N : Nat, Hid (t.arr.length = N) := ⟨_, rfl⟩
  rw [HN.out] at c1 hal hi
  have hPk : ∀ W, Calls Tryz.prog 211 #[.agg #[.int .i64 k.t, .int .u64 k.n, sv k.s]] W fun e w' => e = .returned (.int .u64 (packV k)) ∧ Fr (fun _ => False) W w' := fun W => pack_any k k0 k7 kn
  have k2' : (k.t == 2) = false := by simpa using k2
  have k3' : (k.t == 3) = false := by simpa using k3
  generalize packV k = pk at hL hP hPk ⊢
  obtain ⟨kt, kn', ks⟩ := k
  dsimp only at hPk k2' k3'
  clear k2 k3 k0 k7 kn
  generalize hq : look t.refs pk = q at hL hP ⊢
  clear hq
  by_cases h1 : 1 ≤ i
  · have h2 : ¬ i ≤ (N : Int) := fun x => hi ⟨h1, x⟩
    clear hi
    cases q with
    | none =>
      simp only [Option.getD_none, Option.isSome_none] at hL
      go_enter Tryz.func136, Tryz.ntmps136
      go_wp2
      obtain ⟨W1, HW1⟩ : ∃ W1 : World, Hid (W1 = w.alloc (.cells #[.int .i64 kt, .int .u64 kn', sv ks] 68)) := ⟨_, rfl⟩
      rw [← HW1.out]
      have hA : Fr (fun _ => False) w W1 := by rw [HW1.out]; exact (Fr.refl _ _).alloc _
      have hS2 : ∀ x, Fr (fun _ => False) W1.drew x → x.cell? ⟨g, h * 6 + 4, none⟩ = some (.map (some l.refs)) := fun x hx => (hA.drew.trans hx (fun _ _ z => z)).cell c2
      have hS3 : ∀ x, Fr (fun _ => False) W1.drew x → Has x w.heap.size #[.int .i64 kt, .int .u64 kn', sv ks] 68 := fun x hx => Has.fr (by rw [HW1.out]; exact Has.new _ _ _) hx (fun z => z)
      refine wp_region_two [0, 1, 2, 3, 4] 5 [6, 7, 8, 9, 10, 11] 12 (fun x => Fr (fun _ => False) W1.drew x) (by kernel_rfl) (by kernel_rfl) (fun _ _ _ _ _ h => h) (Fr.refl _ _) [_, _, _, _, _] rfl _ rfl [_, _, _, _, _, _] rfl ?_
      refine wpQ_move rfl (.tmp 0) _ rfl rfl ?_
      refine wpQ_nilCheck rfl (.tmp 32) _ rfl rfl ?_
      refine wpQ_fieldAddr rfl (.tmp 33) 4 _ ⟨g, h * 6 + 4, none⟩ rfl rfl (fun _ => by kernel_rfl) ?_
      refine wpQ_load1 rfl (.tmp 34) _ _ rfl rfl (by kernel_rfl) hS2 ?_
      refine wpQ_loadS isVal rfl (.tmp 4) _ _ rfl rfl rfl hS3 ?_
      refine wpQuiet_nil ?_
      go_wp2_with (go_at_call 211; refine (hPk _).mono ?_; rintro e w' ⟨rfl, hfw⟩)
      refine ⟨hfw, ?_⟩
      refine wpQ_lookS rfl (.tmp 35) (.tmp 37) _ rfl rfl rfl (fun x hx => hL x (hA.drew.trans hx (fun _ _ z => z))) ?_
      refine wpQ_move rfl (.tmp 38) _ rfl rfl ?_
      refine wpQ_pure rfl _ (fun _ => rfl) ?_
      refine wpQ_pure rfl _ (fun _ => rfl) ?_
      refine wpQ_assign rfl (.tmp 39) _ rfl rfl ?_
      refine wpQ_assign rfl (.tmp 40) _ rfl rfl ?_
      refine wpQuiet_nil ?_
      simp only [List.drop_succ_cons, List.drop_zero, List.length_cons, List.length_nil, Nat.reduceAdd, Nat.reduceSub, wpChain_zero, Act.put, List.setIfInBounds_toArray, List.set_cons_succ, List.set_cons_zero]
      go_wp2
      go_ret
      exact ⟨rfl, hA.drew.trans hfw (fun _ _ x => x)⟩
    | some p =>
      have hp := hP p rfl
      simp only [Option.getD_some, Option.isSome_some] at hL
      go_enter Tryz.func136, Tryz.ntmps136
      go_wp2
      obtain ⟨W1, HW1⟩ : ∃ W1 : World, Hid (W1 = w.alloc (.cells #[.int .i64 kt, .int .u64 kn', sv ks] 68)) := ⟨_, rfl⟩
      rw [← HW1.out]
      have hA : Fr (fun _ => False) w W1 := by rw [HW1.out]; exact (Fr.refl _ _).alloc _
      have hS2 : ∀ x, Fr (fun _ => False) W1.drew x → x.cell? ⟨g, h * 6 + 4, none⟩ = some (.map (some l.refs)) := fun x hx => (hA.drew.trans hx (fun _ _ z => z)).cell c2
      have hS3 : ∀ x, Fr (fun _ => False) W1.drew x → Has x w.heap.size #[.int .i64 kt, .int .u64 kn', sv ks] 68 := fun x hx => Has.fr (by rw [HW1.out]; exact Has.new _ _ _) hx (fun z => z)
      refine wp_region_two [0, 1, 2, 3, 4] 5 [6, 7, 8, 9, 10, 11] 12 (fun x => Fr (fun _ => False) W1.drew x) (by kernel_rfl) (by kernel_rfl) (fun _ _ _ _ _ h => h) (Fr.refl _ _) [_, _, _, _, _] rfl _ rfl [_, _, _, _, _, _] rfl ?_
      refine wpQ_move rfl (.tmp 0) _ rfl rfl ?_
      refine wpQ_nilCheck rfl (.tmp 32) _ rfl rfl ?_
      refine wpQ_fieldAddr rfl (.tmp 33) 4 _ ⟨g, h * 6 + 4, none⟩ rfl rfl (fun _ => by kernel_rfl) ?_
      refine wpQ_load1 rfl (.tmp 34) _ _ rfl rfl (by kernel_rfl) hS2 ?_
      refine wpQ_loadS isVal rfl (.tmp 4) _ _ rfl rfl rfl hS3 ?_
      refine wpQuiet_nil ?_
      go_wp2_with (go_at_call 211; refine (hPk _).mono ?_; rintro e w' ⟨rfl, hfw⟩)
      refine ⟨hfw, ?_⟩
      refine wpQ_lookS rfl (.tmp 35) (.tmp 37) _ rfl rfl rfl (fun x hx => hL x (hA.drew.trans hx (fun _ _ z => z))) ?_
      refine wpQ_move rfl (.tmp 38) _ rfl rfl ?_
      refine wpQ_pure rfl _ (fun _ => rfl) ?_
      refine wpQ_pure rfl _ (fun _ => rfl) ?_
      refine wpQ_assign rfl (.tmp 39) _ rfl rfl ?_
      refine wpQ_assign rfl (.tmp 40) _ rfl rfl ?_
      refine wpQuiet_nil ?_
      simp only [List.drop_succ_cons, List.drop_zero, List.length_cons, List.length_nil, Nat.reduceAdd, Nat.reduceSub, wpChain_zero, Act.put, List.setIfInBounds_toArray, List.set_cons_succ, List.set_cons_zero]
      go_wp2
      go_ret
      exact ⟨rfl, hA.drew.trans hfw (fun _ _ x => x)⟩
  · clear hi
    cases q with
    | none =>
      simp only [Option.getD_none, Option.isSome_none] at hL
      go_enter Tryz.func136, Tryz.ntmps136
      go_wp2
      obtain ⟨W1, HW1⟩ : ∃ W1 : World, Hid (W1 = w.alloc (.cells #[.int .i64 kt, .int .u64 kn', sv ks] 68)) := ⟨_, rfl⟩
      rw [← HW1.out]
      have hA : Fr (fun _ => False) w W1 := by rw [HW1.out]; exact (Fr.refl _ _).alloc _
      have hS2 : ∀ x, Fr (fun _ => False) W1.drew x → x.cell? ⟨g, h * 6 + 4, none⟩ = some (.map (some l.refs)) := fun x hx => (hA.drew.trans hx (fun _ _ z => z)).cell c2
      have hS3 : ∀ x, Fr (fun _ => False) W1.drew x → Has x w.heap.size #[.int .i64 kt, .int .u64 kn', sv ks] 68 := fun x hx => Has.fr (by rw [HW1.out]; exact Has.new _ _ _) hx (fun z => z)
      refine wp_region_two [0, 1, 2, 3, 4] 5 [6, 7, 8, 9, 10, 11] 12 (fun x => Fr (fun _ => False) W1.drew x) (by kernel_rfl) (by kernel_rfl) (fun _ _ _ _ _ h => h) (Fr.refl _ _) [_, _, _, _, _] rfl _ rfl [_, _, _, _, _, _] rfl ?_
      refine wpQ_move rfl (.tmp 0) _ rfl rfl ?_
      refine wpQ_nilCheck rfl (.tmp 32) _ rfl rfl ?_
      refine wpQ_fieldAddr rfl (.tmp 33) 4 _ ⟨g, h * 6 + 4, none⟩ rfl rfl (fun _ => by kernel_rfl) ?_
      refine wpQ_load1 rfl (.tmp 34) _ _ rfl rfl (by kernel_rfl) hS2 ?_
      refine wpQ_loadS isVal rfl (.tmp 4) _ _ rfl rfl rfl hS3 ?_
      refine wpQuiet_nil ?_
      go_wp2_with (go_at_call 211; refine (hPk _).mono ?_; rintro e w' ⟨rfl, hfw⟩)
      refine ⟨hfw, ?_⟩
      refine wpQ_lookS rfl (.tmp 35) (.tmp 37) _ rfl rfl rfl (fun x hx => hL x (hA.drew.trans hx (fun _ _ z => z))) ?_
      refine wpQ_move rfl (.tmp 38) _ rfl rfl ?_
      refine wpQ_pure rfl _ (fun _ => rfl) ?_
      refine wpQ_pure rfl _ (fun _ => rfl) ?_
      refine wpQ_assign rfl (.tmp 39) _ rfl rfl ?_
      refine wpQ_assign rfl (.tmp 40) _ rfl rfl ?_
      refine wpQuiet_nil ?_
      simp only [List.drop_succ_cons, List.drop_zero, List.length_cons, List.length_nil, Nat.reduceAdd, Nat.reduceSub, wpChain_zero, Act.put, List.setIfInBounds_toArray, List.set_cons_succ, List.set_cons_zero]
      go_wp2
      go_ret
      exact ⟨rfl, hA.drew.trans hfw (fun _ _ x => x)⟩
    | some p =>
      have hp := hP p rfl
      simp only [Option.getD_some, Option.isSome_some] at hL
      go_enter Tryz.func136, Tryz.ntmps136
      go_wp2
      obtain ⟨W1, HW1⟩ : ∃ W1 : World, Hid (W1 = w.alloc (.cells #[.int .i64 kt, .int .u64 kn', sv ks] 68)) := ⟨_, rfl⟩
      rw [← HW1.out]
      have hA : Fr (fun _ => False) w W1 := by rw [HW1.out]; exact (Fr.refl _ _).alloc _
      have hS2 : ∀ x, Fr (fun _ => False) W1.drew x → x.cell? ⟨g, h * 6 + 4, none⟩ = some (.map (some l.refs)) := fun x hx => (hA.drew.trans hx (fun _ _ z => z)).cell c2
      have hS3 : ∀ x, Fr (fun _ => False) W1.drew x → Has x w.heap.size #[.int .i64 kt, .int .u64 kn', sv ks] 68 := fun x hx => Has.fr (by rw [HW1.out]; exact Has.new _ _ _) hx (fun z => z)
      refine wp_region_two [0, 1, 2, 3, 4] 5 [6, 7, 8, 9, 10, 11] 12 (fun x => Fr (fun _ => False) W1.drew x) (by kernel_rfl) (by kernel_rfl) (fun _ _ _ _ _ h => h) (Fr.refl _ _) [_, _, _, _, _] rfl _ rfl [_, _, _, _, _, _] rfl ?_
      refine wpQ_move rfl (.tmp 0) _ rfl rfl ?_
      refine wpQ_nilCheck rfl (.tmp 32) _ rfl rfl ?_
      refine wpQ_fieldAddr rfl (.tmp 33) 4 _ ⟨g, h * 6 + 4, none⟩ rfl rfl (fun _ => by kernel_rfl) ?_
      refine wpQ_load1 rfl (.tmp 34) _ _ rfl rfl (by kernel_rfl) hS2 ?_
      refine wpQ_loadS isVal rfl (.tmp 4) _ _ rfl rfl rfl hS3 ?_
      refine wpQuiet_nil ?_
      go_wp2_with (go_at_call 211; refine (hPk _).mono ?_; rintro e w' ⟨rfl, hfw⟩)
      refine ⟨hfw, ?_⟩
      refine wpQ_lookS rfl (.tmp 35) (.tmp 37) _ rfl rfl rfl (fun x hx => hL x (hA.drew.trans hx (fun _ _ z => z))) ?_
      refine wpQ_move rfl (.tmp 38) _ rfl rfl ?_
      refine wpQ_pure rfl _ (fun _ => rfl) ?_
      refine wpQ_pure rfl _ (fun _ => rfl) ?_
      refine wpQ_assign rfl (.tmp 39) _ rfl rfl ?_
      refine wpQ_assign rfl (.tmp 40) _ rfl rfl ?_
      refine wpQuiet_nil ?_
      simp only [List.drop_succ_cons, List.drop_zero, List.length_cons, List.length_nil, Nat.reduceAdd, Nat.reduceSub, wpChain_zero, Act.put, List.setIfInBounds_toArray, List.set_cons_succ, List.set_cons_zero]
      go_wp2
      go_ret
      exact ⟨rfl, hA.drew.trans hfw (fun _ _ x => x)⟩
theorem find_any (r : TabsRep w o bt bn s n xs) (hx : xs[h]? = some (t, l)) (hg : s.a = some ⟨g, 0, none⟩) (hf : TFit t) (k : Vl) (hk : 0 ≤ k.t ∧ k.t ≤ 7 ∧ k.n < 18446744073709551616) (i : Int) :
    Calls Tryz.prog 136 #[.pointer (some ⟨g, h * 6, none⟩), k.val, .int .i64 i] w fun e w' => e = .returned (.int .i64 (findI (t.find k i))) ∧ Fr (fun _ => False) w w' := by
  by_cases hi : 1 ≤ i ∧ i ≤ t.arr.length
  · obtain ⟨j, rfl⟩ : ∃ j : Nat, i = (j : Int) + 1 := ⟨(i - 1).toNat, by omega⟩
    have hj : j < t.arr.length := by omega
    have hp : t.arr[j]? = some t.arr[j] := by simp [hj]
    have hfd : t.find k ((j : Int) + 1) = some t.arr[j] := by
      unfold TabD.find
      rw [if_pos hi, ← hp]
      congr 1
    rw [hfd]
    exact find_arr r hx hg hf k hp
  · have e : t.find k i = if k.t = 2 then look t.nums k.n else if k.t = 3 then look t.strs k.s else look t.refs (packV k) := by
      unfold TabD.find
      rw [if_neg hi]
    rw [e]
    by_cases h2 : k.t = 2
    · rw [if_pos h2]
      obtain ⟨kt, kn, ks⟩ := k
      dsimp only at h2
      subst h2
      exact find_num r hx hg hf kn ks hi
    · rw [if_neg h2]
      by_cases h3 : k.t = 3
      · rw [if_pos h3]
        obtain ⟨kt, kn, ks⟩ := k
        dsimp only at h3
        subst h3
        exact find_str r hx hg hf kn ks hi
      · rw [if_neg h3]
        exact find_ref r hx hg hf k h2 h3 hk.1 hk.2.1 hk.2.2 hi
end
end Go.Proofs.Qxb6500574aGreatDoor
