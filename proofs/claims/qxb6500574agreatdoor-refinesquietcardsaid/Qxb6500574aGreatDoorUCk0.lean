/-
  THE WALKS of table: unpack, points; a range over a map in a world that grows.
-/
import Derived.Test.Qxb6500574aGreatDoorVMigW
import Derived.Test.Qxb6500574aGreatDoorUPlaces
import Derived.Test.Qxb6500574aGreatDoorVLawC
import Derived.Test.Qxb6500574aGreatDoorVEq
namespace Go.Proofs.Qxb6500574aGreatDoor
open Go Go.RowKit
set_option linter.unusedVariables false
set_option linter.unusedSimpArgs false
open Go.Shelf
theorem next_gen {P : Program} (W : World) (ty : TypeId) (r bm since c0 clock : Nat) (seen : Array Nat) (es : Array MapEntry) (hr : W.heap[r]? = some (.mapIter (some bm) since seen c0)) (hb : W.heap[bm]? = some (.map es clock)) (hold : ∀ x ∈ es.toList, x.born < since) (hsc : since ≤ c0) :
    ((leftOf es seen).size = 0 ∧ (Instr.next (.pointer (some ⟨r, 0, none⟩)) false ty).run P W = .ok (.tuple #[.bool false]) W) ∨
    ∃ e ∈ (leftOf es seen).toList, ∃ W1 : World, (Instr.next (.pointer (some ⟨r, 0, none⟩)) false ty).run P W = .ok (.tuple #[.bool true, e.key, e.val]) W1 ∧ Fr (fun k => k = r) W W1 ∧ W1.heap[r]? = some (.mapIter (some bm) since (seen.push e.born) clock) := by
  have hrl : r < W.heap.size := (Array.getElem?_eq_some_iff.1 hr).1
  simp only [Instr.next, getObj, Sem.run_bind, Sem.run, hr, hb, Result.andThen, next_test_false seen es since c0 hold hsc, Bool.false_eq_true, if_false]
  unfold leftOf
  have hmem : ∀ x ∈ (Array.filter (fun e => !seen.contains e.born) es).toList, x.born < since := fun x hx => hold x (by simp at hx ⊢; exact hx.1)
  generalize Array.filter (fun e => !seen.contains e.born) es = L at hmem ⊢
  have e1 : L.filter (fun x => decide (x.born < since)) = L := Array.filter_eq_self.2 (fun x hx => by simpa using hmem x (by simpa using hx))
  have e2 : L.filter (fun x => decide (x.born ≥ since)) = #[] := by
    rw [Array.filter_eq_empty_iff]
    intro x hx
    have := hmem x (by simpa using hx)
    simp
    omega
  simp only [e1, e2, Array.append_empty]
  by_cases h0 : L.size = 0
  · left
    have : L = #[] := Array.eq_empty_of_size_eq_zero h0
    subst this
    refine ⟨rfl, ?_⟩
    simp [choose, Sem.run, Question.forced]
  · right
    have hne : L.isEmpty = false := by simp [Array.isEmpty, h0]
    simp only [hne, Bool.false_eq_true, if_false, Array.empty_append, Array.size_map]
    have hch : ∃ (j : Nat) (w1 : World), j < L.size ∧ Fr (fun _ => False) W w1 ∧ w1.heap = W.heap ∧ (choose (Question.mapNext L.size)).run P W = .ok j w1 := by
      by_cases hf : L.size ≤ 1
      · exact ⟨0, W, by omega, Fr.refl _ _, rfl, by simp [choose, Sem.run, Question.forced, hf]⟩
      · exact ⟨_, W.drew, Nat.mod_lt _ (by omega), (Fr.refl _ _).drew, rfl, by
          simp only [choose, Sem.run, Question.forced, decide_eq_true_eq, hf, if_false, Question.cut]
          rfl⟩
    obtain ⟨j, w1, hj, hfr, hhp, hrun⟩ := hch
    have hset : ∀ o' : Obj, (setObj r o').run P w1 = .ok () (w1.putObj r o') := fun o' => by
      simp only [setObj, Sem.run, hhp, hr]
      simp [World.putObj, hhp]
    refine ⟨L[j], by simp, w1.putObj r (.mapIter (some bm) since (seen.push L[j].born) clock), ?_, ?_, ?_⟩
    · simp only [hrun, Array.getElem?_map, Array.getElem?_eq_getElem hj, Option.map_some, Sem.run_bind, hset, Result.andThen]
      rfl
    · exact (hfr.weaken (fun _ _ x => x.elim)).trans ((Fr.of_grown (grownBy_putObj' w1 r _)).weaken (fun k _ e => by cases e; rfl)) (fun _ _ x => x)
    · simp [World.putObj, hhp, hrl]
theorem entry_gen {P : Program} (W : World) (r bm since clock : Nat) (seen : Array Nat) (es : Array MapEntry) (e : MapEntry) (hr : W.heap[r]? = some (.mapIter (some bm) since (seen.push e.born) clock)) (hb : W.heap[bm]? = some (.map es clock)) (he : e ∈ es.toList) (hn : (es.toList.map (·.born)).Nodup) :
    (Instr.entry (.pointer (some ⟨r, 0, none⟩))).run P W = .ok (.tuple #[e.key, e.val]) W := by
  have hf : es.find? (·.born == e.born) = some e := by rw [← Array.find?_toList]; exact find_born e es.toList hn he
  simp only [Instr.entry, getObj, Sem.run_bind, Sem.run, hr, hb, Result.andThen, Array.back?_push, bne_self_eq_false, Bool.false_eq_true, if_false, hf]
  rfl
def snC (sn : List Bool) : Array Value := (sn.map Value.bool).toArray
section
variable {w : World}
set_option maxRecDepth 100000
set_option maxHeartbeats 600000
theorem unpack_any (u : Nat) (hu : u < 18446744073709551616) : Calls Tryz.prog 216 #[.int .u64 u] w fun e w' => e = .returned (unpackV u).val ∧ Fr (fun _ => False) w w' := by
  go_enter Tryz.func216, Tryz.ntmps216
  have hb : bits .and .u64 (u : Int) 4294967295 = ((u % 4294967296 : Nat) : Int) := by
    rw [show (4294967295 : Int) = ((4294967295 : Nat) : Int) from rfl, bits_and_u64_nat _ _ (by omega) (by omega), show (4294967295 : Nat) = 2 ^ 32 - 1 from rfl, Nat.and_two_pow_sub_one_eq_mod]
  go_wp2_with fail
  exact bodyPost_ret (res_cell isVal rfl rfl (Has.newC _ _ _ rfl) rfl) rfl ⟨rfl, (Fr.refl _ _).alloc _⟩
theorem points_any {g h B p nO cO : Nat} {sn : List Bool} {aO : Addr} {k : Vl} (hsl : sn.length = 32) (hB : Has w B (snC sn) 343) (hBg : B ≠ g) (hBa : B ≠ aO.block) (hg : g < w.heap.size) (hc : w.cell? ⟨g, h * 6, none⟩ = some (.slice (some aO) nO cO)) (ha0 : aO = ⟨aO.block, 0, none⟩) (hal : aO.block < w.heap.size)
    (hp : p < nO) (hp32 : p < 32) (hs : sn[p]? = some false) (k0 : w.cell? ⟨aO.block, p * 6, none⟩ = some (.int .i64 k.t)) (k1 : w.cell? ⟨aO.block, p * 6 + 1, none⟩ = some (.int .u64 k.n)) (k2 : w.cell? ⟨aO.block, p * 6 + 2, none⟩ = some (sv k.s)) :
    Calls Tryz.prog 215 #[.pointer (some ⟨g, h * 6, none⟩), .int .i32 p, k.val, .pointer (some ⟨B, 0, none⟩)] w fun e w' => e = .returned (.bool true) ∧ Has w' B (snC (sn.set p true)) 343 ∧ Fr (fun j => j = B) w w' := by
  obtain ⟨kt, kn, ks⟩ := k
  dsimp only at k0 k1 k2
  obtain ⟨ga, rfl⟩ : ∃ ga, aO = ⟨ga, 0, none⟩ := ⟨_, ha0⟩
  dsimp only at *
  have s0 : w.cell? ⟨B, p, none⟩ = some (.bool false) := by rw [hB.cell]; simp [snC, hs]
  have sf := hB.frozen p
  have bl := hB.lt
  have HB : Hid (Has w B (snC sn) 343) := hB
  have heq := fun W => val_eql ⟨kt, kn, ks⟩ ⟨kt, kn, ks⟩ W
  clear hB ha0
  go_enter Tryz.func215, Tryz.ntmps215
  go_wp2_with fail
  have fw : Fr (fun j => j = B) w (((w.setCell ⟨B, p, none⟩ (.bool true)).alloc (.cells #[.int .i64 kt, .int .u64 kn, sv ks] 68)).drew) := (((Fr.refl (fun j => j = B) w).setCell (p := ⟨B, p, none⟩) (.inl rfl) _).alloc _).drew
  have HW : Hid (Fr (fun j => j = B) w (((w.setCell ⟨B, p, none⟩ (.bool true)).alloc (.cells #[.int .i64 kt, .int .u64 kn, sv ks] 68)).drew)) := fw
  clear fw
  have HH : Hid (Has (((w.setCell ⟨B, p, none⟩ (.bool true)).alloc (.cells #[.int .i64 kt, .int .u64 kn, sv ks] 68)).drew) B (snC (sn.set p true)) 343) := by
    have h1 := ((HB.out.put p (.bool true)).alloc (.cells #[.int .i64 kt, .int .u64 kn, sv ks] 68)).drew
    have e1 : (snC sn).setIfInBounds p (.bool true) = snC (sn.set p true) := by simp [snC, List.map_set]
    rw [e1] at h1
    exact h1
  refine wp_region_tail 10 (by kernel_rfl) (by kernel_rfl) (fun _ _ _ _ _ h => h) ?_
  simp only [List.take_succ_cons, List.take_zero, List.drop_succ_cons, List.drop_zero]
  repeat go_big_quiet_step (fail)
  refine wpQuiet_nil ?_
  go_wp2_with fail
  have hsm : Vl.same ⟨kt, kn, ks⟩ ⟨kt, kn, ks⟩ = true := by simp [Vl.same]
  rw [hsm]
  exact bodyPost_ret (results_tmp rfl _ _ _) rfl ⟨rfl, HH.out, HW.out⟩
end
end Go.Proofs.Qxb6500574aGreatDoor
