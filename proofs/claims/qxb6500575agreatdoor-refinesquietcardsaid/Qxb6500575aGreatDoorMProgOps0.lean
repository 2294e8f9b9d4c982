/-
  THE WALKS of prepm.Prog's readers: NImports, Mem, Sig.
-/
import Derived.Test.Qxb6500575aGreatDoorMProg
import Derived.Test.Qxb6500575aGreatDoorProgOps0
namespace Go.Proofs.Qxb6500575aGreatDoor
open Go Go.RowKit
set_option linter.unusedVariables false
set_option linter.unusedSimpArgs false

theorem MProg.count {S : Nat → Prop} {w : World} {bp : Nat} {L : MPL} {p : ProgD} {srcs : List (List Ins)} (h : MProg S w bp L p srcs) (n : Int) :
    MProg S (w.setCell ⟨bp, 3, Option.none⟩ (.int .i64 n)) bp L { p with steps := n } srcs ∧ Fr (fun k => k = bp) w (w.setCell ⟨bp, 3, Option.none⟩ (.int .i64 n)) :=
  h.putHead 3 (.int .i64 n) (p' := { p with steps := n }) (by decide) rfl rfl rfl
theorem MProg.counted {S : Nat → Prop} {w : World} {bp : Nat} {L : MPL} {p : ProgD} {srcs : List (List Ins)} (h : MProg S w bp L p srcs) (n : Int) (o : Obj) :
    MProg S ((w.setCell ⟨bp, 3, Option.none⟩ (.int .i64 n)).alloc o) bp L { p with steps := n } srcs ∧ Fr (fun k => k = bp) w ((w.setCell ⟨bp, 3, Option.none⟩ (.int .i64 n)).alloc o) :=
  ⟨(h.count n).1.fresh ((Fr.refl _ _).alloc o), (h.count n).2.alloc o⟩
section
variable (S : Nat → Prop) (bp : Nat) (L : MPL) (p : ProgD) (srcs : List (List Ins)) (w : World)
theorem mpnimports_any (h : MProg S w bp L p srcs) : Calls Tryz.prog 108 #[.pointer (some ⟨bp, 0, none⟩)] w fun e w' => e = .returned (.int .i64 p.nimp) ∧ w' = w := by
  have c := h.here.cell 0
  simp at c
  go_enter Tryz.func108, Tryz.ntmps108
  go_wp2
  go_ret
  exact ⟨rfl, rfl⟩
theorem mpmem_any (h : MProg S w bp L p srcs) : Calls Tryz.prog 35 #[.pointer (some ⟨bp, 0, none⟩)] w fun e w' => e = .returned (.tuple #[.int .i64 p.min, .int .i64 p.max]) ∧ ∃ n, w' = w.drewN n := by
  have c1 := h.here.cell 1
  have c2 := h.here.cell 2
  simp at c1 c2
  go_enter Tryz.func35, Tryz.ntmps35
  go_wp2
  go_quiet (fail)
  go_wp2
  go_ret2
  exact ⟨rfl, _, rfl⟩
set_option maxHeartbeats 1000000 in
theorem msig_any (f : Int) (h : MProg S w bp L p srcs) (hl : p.funs.length ≤ 1000) : Calls Tryz.prog 107 #[.pointer (some ⟨bp, 0, none⟩), .int .i64 f] w fun e w' => e = .returned (.tuple #[sv (p.sig f).1.params, sv (p.sig f).1.results, sv (p.sig f).1.locals, .bool (p.sig f).2]) ∧ ∃ n, w' = w.drewN n := by
  have c4 := h.here.cell 4
  simp at c4
  by_cases h0 : f < 0
  · have e0 : p.sig f = (⟨[], [], []⟩, false) := by unfold ProgD.sig; rw [if_pos h0]
    rw [e0]
    clear e0 h
    go_enter Tryz.func107, Tryz.ntmps107
    go_wp2
    (try simp only [Exit.inBlock, Exit.then]); refine bodyPost_ret (results_tmp4 rfl _ _ _) rfl ?_
    exact ⟨rfl, 0, rfl⟩
  · obtain ⟨j, rfl⟩ : ∃ j : Nat, f = j := ⟨f.toNat, by omega⟩
    by_cases h1 : p.funs.length ≤ j
    · have e0 : p.sig j = (⟨[], [], []⟩, false) := by unfold ProgD.sig; rw [if_neg h0, List.getElem?_eq_none (by simpa using h1)]
      rw [e0]
      clear e0 h
      go_enter Tryz.func107, Tryz.ntmps107
      go_wp2
      (try simp only [Exit.inBlock, Exit.then]); refine bodyPost_ret (results_tmp4 rfl _ _ _) rfl ?_
      exact ⟨rfl, 0, rfl⟩
    · obtain ⟨u, hu⟩ : ∃ u, p.funs[j]? = some u := ⟨_, List.getElem?_eq_getElem (by omega)⟩
      have e0 : p.sig j = (u, true) := by
        unfold ProgD.sig
        rw [if_neg h0]
        simp [hu]
      rw [e0]
      obtain ⟨g, cv, hfa, hcv, hcells, _, _⟩ := h.at hu
      have d0 := hcells 0 (by omega)
      have d1 := hcells 1 (by omega)
      have d2 := hcells 2 (by omega)
      simp [mfunCells] at d0 d1 d2
      clear hcells
      rw [hfa] at c4
      have hrow := h.row
      rw [hfa] at hrow
      have hgl := owns_lt hrow g rfl
      clear e0 h hrow hu hcv hfa
      go_enter Tryz.func107, Tryz.ntmps107
      go_wp2
      go_quiet (fail)
      go_wp2
      (try simp only [Exit.inBlock, Exit.then]); refine bodyPost_ret (results_tmp4 rfl _ _ _) rfl ?_
      exact ⟨rfl, _, rfl⟩
end
end Go.Proofs.Qxb6500575aGreatDoor
