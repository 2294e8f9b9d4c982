/-
  THE WALKS of mach: Size, split, reach, truth, Grow.
-/
import Derived.Test.Qxb6500575aGreatDoorKMem
import Derived.Test.Qxb6500575aGreatDoorReg2
import Derived.Laws.BitsLemmas
namespace Go.Proofs.Qxb6500575aGreatDoor
open Go Go.RowKit
set_option linter.unusedVariables false
set_option linter.unusedSimpArgs false

theorem and32 (x : Int) : 0 ≤ bits .and .i64 x 4294967295 ∧ bits .and .i64 x 4294967295 ≤ 4294967295 := by
  unfold bits
  simp only
  have h : (BitVec.ofInt (IntKind.bits .i64) x &&& BitVec.ofInt (IntKind.bits .i64) 4294967295).toNat ≤ 4294967295 := by
    rw [BitVec.toNat_and]
    exact Nat.le_trans Nat.and_le_right (by decide)
  rw [IntKind.wrap_i64]
  omega
theorem split_key : ∀ n : Fin 33, wrap64 ((bits BinOp.andNot IntKind.i64 ((n.val : Nat) : Int) 7).tdiv 8) = ((n.val / 8 : Nat) : Int) ∧ bits BinOp.and IntKind.i64 ((n.val : Nat) : Int) 7 = ((n.val % 8 : Nat) : Int) := by decide +kernel
section
variable {w : World} {bk : Nat} {L : KL} {d : KD}
set_option maxRecDepth 100000
set_option maxHeartbeats 1000000
theorem ksize_any (h : KRep w bk L d) : Calls Tryz.prog 102 #[.pointer (some ⟨bk, 0, none⟩)] w fun e w' => e = .returned (.int .i64 d.pages.length) ∧ w' = w := by
  have c0 := h.here.cell 0
  simp at c0
  go_enter Tryz.func102, Tryz.ntmps102
  go_wp2
  go_ret
  exact ⟨rfl, rfl⟩
theorem split_any (ea : Nat) (hl : ea ≤ 32) (w : World) : Calls Tryz.prog 106 #[.int .i64 ea] w fun e w' => e = .returned (.tuple #[.int .i64 (ea / 8 : Nat), .int .i64 (ea % 8 : Nat)]) ∧ w' = w := by
  obtain ⟨h1, h2⟩ := split_key ⟨ea, by omega⟩
  simp only at h1 h2
  go_enter Tryz.func106, Tryz.ntmps106
  go_wp2
  go_ret2
  refine ⟨?_, rfl⟩
  simp [h1]
theorem truth_any (b : Bool) (w : World) : Calls Tryz.prog 139 #[.bool b] w fun e w' => e = .returned (.int .i64 (if b then 1 else 0)) ∧ w' = w := by
  cases b
  · go_enter Tryz.func139, Tryz.ntmps139
    go_wp2
    go_ret
    exact ⟨rfl, rfl⟩
  · go_enter Tryz.func139, Tryz.ntmps139
    go_wp2
    go_ret
    exact ⟨rfl, rfl⟩
theorem results_tmp3 {fn : Func} {t u v : Tmp} (h : fn.results = #[.tmp t, .tmp u, .tmp v]) (tmps : Array Value) (P : Program) (w : World) :
    (results fn tmps).run P w = .ok (.tuple #[tmps.getD t undef, tmps.getD u undef, tmps.getD v undef]) w := by
  simp [results, h]
/-- an access in the memory, or a trap -/
def Reach (d : KD) (e : Ending) : Prop := e = .returned (.tuple #[.int .i64 0, .int .i64 0, .int .i64 12]) ∨ ∃ ea wd : Nat, 1 ≤ wd ∧ wd ≤ 8 ∧ ea + wd ≤ d.pages.length * 8 ∧ e = .returned (.tuple #[.int .i64 ea, .int .i64 wd, .int .i64 0])
theorem reach_any (h : KRep w bk L d) (op first last addr off : Int) (h1 : 19 ≤ op) (h2 : op ≤ 28) (h3 : first ≤ op) (h4 : op ≤ last) :
    Calls Tryz.prog 67 #[.pointer (some ⟨bk, 0, none⟩), .int .i64 op, .int .i64 first, .int .i64 last, .int .i64 addr, .int .i64 off] w fun e w' => Reach d e ∧ w' = w := by
  have c0 := h.here.cell 0
  simp at c0
  have hp : d.pages.length ≤ 4 := by have := h.le; have := h.max; omega
  have hu : ∃ a : Nat, addr % 4294967296 = a ∧ a < 4294967296 := ⟨(addr % 4294967296).toNat, by omega, by omega⟩
  obtain ⟨a, ha, hal⟩ := hu
  obtain ⟨kk, wd, rfl, hkk, hw1, hw8, hb⟩ : ∃ (kk wd : Nat), op = 19 + (kk : Int) ∧ kk < 10 ∧ 1 ≤ wd ∧ wd ≤ 8 ∧ ∀ h, (((⟨#[4, 8, 1, 1, 2, 2, 4, 8, 1, 2]⟩ : ByteArray)[kk]'h).toNat : Int) = wd := by
    have : op = 19 ∨ op = 20 ∨ op = 21 ∨ op = 22 ∨ op = 23 ∨ op = 24 ∨ op = 25 ∨ op = 26 ∨ op = 27 ∨ op = 28 := by omega
    rcases this with rfl | rfl | rfl | rfl | rfl | rfl | rfl | rfl | rfl | rfl
    · exact ⟨0, 4, by omega, by omega, by omega, by omega, fun _ => rfl⟩
    · exact ⟨1, 8, by omega, by omega, by omega, by omega, fun _ => rfl⟩
    · exact ⟨2, 1, by omega, by omega, by omega, by omega, fun _ => rfl⟩
    · exact ⟨3, 1, by omega, by omega, by omega, by omega, fun _ => rfl⟩
    · exact ⟨4, 2, by omega, by omega, by omega, by omega, fun _ => rfl⟩
    · exact ⟨5, 2, by omega, by omega, by omega, by omega, fun _ => rfl⟩
    · exact ⟨6, 4, by omega, by omega, by omega, by omega, fun _ => rfl⟩
    · exact ⟨7, 8, by omega, by omega, by omega, by omega, fun _ => rfl⟩
    · exact ⟨8, 1, by omega, by omega, by omega, by omega, fun _ => rfl⟩
    · exact ⟨9, 2, by omega, by omega, by omega, by omega, fun _ => rfl⟩
  have hsub : (19 : Int) + kk - 19 = kk := by omega
  have hlt : (kk : Int) < 10 := by omega
  clear h
  by_cases o1 : off < 0
  · go_enter Tryz.func67, Tryz.ntmps67
    go_wp2
    (try simp only [Exit.inBlock, Exit.then])
    refine bodyPost_ret (results_tmp3 rfl _ _ _) rfl ?_
    exact ⟨.inl rfl, rfl⟩
  · by_cases o2 : 4294967295 < off
    · go_enter Tryz.func67, Tryz.ntmps67
      go_wp2
      (try simp only [Exit.inBlock, Exit.then])
      refine bodyPost_ret (results_tmp3 rfl _ _ _) rfl ?_
      exact ⟨.inl rfl, rfl⟩
    · obtain ⟨f, rfl⟩ : ∃ f : Nat, off = f := ⟨off.toNat, by omega⟩
      by_cases hin : (a : Int) + f + wd ≤ d.pages.length * 8
      · go_enter Tryz.func67, Tryz.ntmps67
        go_wp2
        (try simp only [Exit.inBlock, Exit.then])
        refine bodyPost_ret (results_tmp3 rfl _ _ _) rfl ?_
        exact ⟨.inr ⟨a + f, wd, hw1, hw8, by omega, by simp⟩, rfl⟩
      · go_enter Tryz.func67, Tryz.ntmps67
        go_wp2
        (try simp only [Exit.inBlock, Exit.then])
        refine bodyPost_ret (results_tmp3 rfl _ _ _) rfl ?_
        exact ⟨.inl rfl, rfl⟩
end
end Go.Proofs.Qxb6500575aGreatDoor
