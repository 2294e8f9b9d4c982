import Derived.Test.Qxb6500575aGreatDoorCall
import Derived.Laws.ResultCell
import Derived.Laws.Rows
namespace Go.Proofs.Qxb6500575aGreatDoor
open Go Go.RowKit
set_option linter.unusedVariables false
set_option linter.unusedSimpArgs false

/-- what a plain instruction takes and gives -/
def sigsP (op : Int) : List UInt8 × List UInt8 × Bool :=
  if op = 15 ∨ op = 17 then ([], [105], true)
  else if op = 18 then ([], [108], true)
  else if op = 16 ∨ op = 29 ∨ op = 19 ∨ op = 21 ∨ op = 22 ∨ op = 23 ∨ op = 24 then ([105], [105], true)
  else if op = 20 ∨ op = 32 ∨ op = 33 then ([105], [108], true)
  else if op = 25 ∨ op = 27 ∨ op = 28 then ([105, 105], [], true)
  else if op = 26 then ([105, 108], [], true)
  else if op = 30 ∨ op = 31 then ([108], [105], true)
  else if 40 ≤ op ∧ op < 56 then ([105, 105], [105], true)
  else if 60 ≤ op ∧ op < 76 then (if op = 73 ∨ op = 74 ∨ op = 75 then ([108, 108], [105], true) else ([108, 108], [108], true))
  else ([], [], false)

theorem sigs_res (tmps : Array Value) (w : World) (b : Nat) (x y : Value) (hp : tmps.getD 2 undef = .pointer (some ⟨b, 0, none⟩)) (hb : Has w b #[x, y] 231) :
    (results Tryz.f124 tmps).run Tryz.prog w = .ok (.tuple #[.agg #[x, y], tmps.getD 3 undef]) w := by
  rw [results_cell_tmp (p := 2) (u := 3) (ty := 231) rfl]
  rw [hp]
  simp only [asAddr, Sem.run_pure, Result.andThen_ok]
  obtain ⟨fs, hu⟩ : ∃ fs, Tryz.prog.underlying 231 = some (.struct fs) := by
    have hk : (match Tryz.prog.underlying 231 with | some (.struct _) => true | _ => false) = true := by kernel_rfl
    split at hk
    · rename_i fs he
      exact ⟨fs, he⟩
    · cases hk
  rw [run_loadVar_row w b 231 231 #[x, y] _ _ hb hu rfl (by kernel_rfl)]
  rfl

set_option maxRecDepth 100000 in
set_option maxHeartbeats 4000000 in
theorem sigs_any (op : Int) (w : World) :
    Calls Tryz.prog 124 #[.int .i64 op] w fun e w' => e = .returned (.tuple #[.agg #[sv (sigsP op).1, sv (sigsP op).2.1], .bool (sigsP op).2.2]) ∧ ∃ o, w' = w.alloc o := by
  by_cases hs : op = 15 ∨ op = 17 ∨ op = 18 ∨ op = 16 ∨ op = 29 ∨ op = 19 ∨ op = 21 ∨ op = 22 ∨ op = 23 ∨ op = 24 ∨ op = 20 ∨ op = 32 ∨ op = 33 ∨ op = 25 ∨ op = 27 ∨ op = 28 ∨ op = 26 ∨ op = 30 ∨ op = 31 ∨ op = 73 ∨ op = 74 ∨ op = 75
  · rcases hs with rfl | rfl | rfl | rfl | rfl | rfl | rfl | rfl | rfl | rfl | rfl | rfl | rfl | rfl | rfl | rfl | rfl | rfl | rfl | rfl | rfl | rfl <;>
    · go_enter Tryz.func124, Tryz.ntmps124
      go_wp2
      (try simp only [Exit.inBlock, Exit.then])
      refine bodyPost_ret (sigs_res _ _ w.heap.size _ _ rfl (Has.new _ _ _)) rfl ?_
      exact ⟨rfl, _, rfl⟩
  · simp only [not_or] at hs
    obtain ⟨x1, x2, x3, x4, x5, x6, x7, x8, x9, x10, x11, x12, x13, x14, x15, x16, x17, x18, x19, x20, x21, x22⟩ := hs
    have b1 := beq_eq_false_iff_ne.2 x1
    have b2 := beq_eq_false_iff_ne.2 x2
    have b3 := beq_eq_false_iff_ne.2 x3
    have b4 := beq_eq_false_iff_ne.2 x4
    have b5 := beq_eq_false_iff_ne.2 x5
    have b6 := beq_eq_false_iff_ne.2 x6
    have b7 := beq_eq_false_iff_ne.2 x7
    have b8 := beq_eq_false_iff_ne.2 x8
    have b9 := beq_eq_false_iff_ne.2 x9
    have b10 := beq_eq_false_iff_ne.2 x10
    have b11 := beq_eq_false_iff_ne.2 x11
    have b12 := beq_eq_false_iff_ne.2 x12
    have b13 := beq_eq_false_iff_ne.2 x13
    have b14 := beq_eq_false_iff_ne.2 x14
    have b15 := beq_eq_false_iff_ne.2 x15
    have b16 := beq_eq_false_iff_ne.2 x16
    have b17 := beq_eq_false_iff_ne.2 x17
    have b18 := beq_eq_false_iff_ne.2 x18
    have b19 := beq_eq_false_iff_ne.2 x19
    have b20 : (op - 60 == 13) = false := beq_eq_false_iff_ne.2 (by omega)
    have b21 : (op - 60 == 14) = false := beq_eq_false_iff_ne.2 (by omega)
    have b22 : (op - 60 == 15) = false := beq_eq_false_iff_ne.2 (by omega)
    by_cases hA : 40 ≤ op ∧ op < 56
    · have e0 : sigsP op = ([105, 105], [105], true) := by
        unfold sigsP; simp only [x1, x2, x3, x4, x5, x6, x7, x8, x9, x10, x11, x12, x13, x14, x15, x16, x17, x18, x19, or_self, if_false, if_pos hA]
      rw [e0]
      clear e0 x1 x2 x3 x4 x5 x6 x7 x8 x9 x10 x11 x12 x13 x14 x15 x16 x17 x18 x19
      obtain ⟨hA1, hA2⟩ := hA
      go_enter Tryz.func124, Tryz.ntmps124
      go_wp2
      (try simp only [Exit.inBlock, Exit.then])
      refine bodyPost_ret (sigs_res _ _ w.heap.size _ _ rfl (Has.new _ _ _)) rfl ?_
      exact ⟨rfl, _, rfl⟩
    · by_cases hB : 60 ≤ op ∧ op < 76
      · have e0 : sigsP op = ([108, 108], [108], true) := by
          unfold sigsP; simp only [x1, x2, x3, x4, x5, x6, x7, x8, x9, x10, x11, x12, x13, x14, x15, x16, x17, x18, x19, x20, x21, x22, or_self, if_false, if_neg hA, if_pos hB]
        rw [e0]
        clear e0 x1 x2 x3 x4 x5 x6 x7 x8 x9 x10 x11 x12 x13 x14 x15 x16 x17 x18 x19
        have hA2 : (decide (op < 56)) = false := by simp; omega
        obtain ⟨hB1, hB2⟩ := hB
        go_enter Tryz.func124, Tryz.ntmps124
        go_wp2
        (try simp only [Exit.inBlock, Exit.then])
        refine bodyPost_ret (sigs_res _ _ w.heap.size _ _ rfl (Has.new _ _ _)) rfl ?_
        exact ⟨rfl, _, rfl⟩
      · have e0 : sigsP op = ([], [], false) := by
          unfold sigsP; simp only [x1, x2, x3, x4, x5, x6, x7, x8, x9, x10, x11, x12, x13, x14, x15, x16, x17, x18, x19, or_self, if_false, if_neg hA, if_neg hB]
        rw [e0]
        clear e0 x1 x2 x3 x4 x5 x6 x7 x8 x9 x10 x11 x12 x13 x14 x15 x16 x17 x18 x19
        by_cases h1 : op < 40
        · go_enter Tryz.func124, Tryz.ntmps124
          go_wp2
          (try simp only [Exit.inBlock, Exit.then])
          refine bodyPost_ret (sigs_res _ _ w.heap.size _ _ rfl (Has.new _ _ _)) rfl ?_
          exact ⟨rfl, _, rfl⟩
        · by_cases h2 : op < 60
          · have h3 : 56 ≤ op := by omega
            go_enter Tryz.func124, Tryz.ntmps124
            go_wp2
            (try simp only [Exit.inBlock, Exit.then])
            refine bodyPost_ret (sigs_res _ _ w.heap.size _ _ rfl (Has.new _ _ _)) rfl ?_
            exact ⟨rfl, _, rfl⟩
          · have h3 : 76 ≤ op := by omega
            go_enter Tryz.func124, Tryz.ntmps124
            go_wp2
            (try simp only [Exit.inBlock, Exit.then])
            refine bodyPost_ret (sigs_res _ _ w.heap.size _ _ rfl (Has.new _ _ _)) rfl ?_
            exact ⟨rfl, _, rfl⟩
end Go.Proofs.Qxb6500575aGreatDoor
