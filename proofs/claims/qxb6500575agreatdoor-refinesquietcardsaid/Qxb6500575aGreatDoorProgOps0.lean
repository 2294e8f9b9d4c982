/-
  THE WALKS of prep.Prog's readers: Steps, Mark, NImports, Sig.
-/
import Derived.Test.Qxb6500575aGreatDoorAt
import Derived.OwnWalk
namespace Go.Proofs.Qxb6500575aGreatDoor
open Go Go.RowKit
set_option linter.unusedVariables false
set_option linter.unusedSimpArgs false

theorem results_tmp4 {fn : Func} {t u v x : Tmp} (h : fn.results = #[.tmp t, .tmp u, .tmp v, .tmp x]) (tmps : Array Value) (P : Program) (w : World) :
    (results fn tmps).run P w = .ok (.tuple #[tmps.getD t undef, tmps.getD u undef, tmps.getD v undef, tmps.getD x undef]) w := by
  simp [results, h]
section
variable (S : Nat → Prop) (bp : Nat) (L : ProgL) (p : ProgD) (w : World)
theorem steps_any (h : ProgRep S w bp L p) : Calls Tryz.prog 41 #[.pointer (some ⟨bp, 0, none⟩)] w fun e w' => e = .returned (.int .i64 p.steps) ∧ w' = w := by
  have c := h.funs.here.cell 3
  simp at c
  go_enter Tryz.func41, Tryz.ntmps41
  go_wp2
  go_ret
  exact ⟨rfl, rfl⟩
theorem pnimports_any (h : ProgRep S w bp L p) : Calls Tryz.prog 20 #[.pointer (some ⟨bp, 0, none⟩)] w fun e w' => e = .returned (.int .i64 p.nimp) ∧ w' = w := by
  have c := h.funs.here.cell 0
  simp at c
  go_enter Tryz.func20, Tryz.ntmps20
  go_wp2
  go_ret
  exact ⟨rfl, rfl⟩
theorem mark_any (h : ProgRep S w bp L p) : Calls Tryz.prog 31 #[.pointer (some ⟨bp, 0, none⟩)] w fun e w' => e = .returned (.tuple #[]) ∧ ProgRep S w' bp L { p with steps := 0 } ∧ Fr (fun k => k = bp) w w' := by
  have c := h.funs.here.cell 3
  have f := h.funs.here.frozen 3
  have hl := h.funs.here.lt
  simp at c
  have H : Hid (_ ∧ _) := h.count 0
  clear h
  go_enter Tryz.func31, Tryz.ntmps31
  go_wp2
  go_end0
  exact ⟨rfl, H.out⟩
def ProgD.sig (p : ProgD) (f : Int) : FunD × Bool :=
  if f < 0 then (⟨[], [], []⟩, false) else
  match p.funs[f.toNat]? with
  | none => (⟨[], [], []⟩, false)
  | some u => (u, true)
set_option maxHeartbeats 1000000 in
theorem sig_any (f : Int) (h : ProgRep S w bp L p) (hl : p.funs.length ≤ 1000) : Calls Tryz.prog 19 #[.pointer (some ⟨bp, 0, none⟩), .int .i64 f] w fun e w' => e = .returned (.tuple #[sv (p.sig f).1.params, sv (p.sig f).1.results, sv (p.sig f).1.locals, .bool (p.sig f).2]) ∧ ∃ n, w' = w.drewN n := by
  have c4 := h.funs.here.cell 4
  simp at c4
  by_cases h0 : f < 0
  · have e0 : p.sig f = (⟨[], [], []⟩, false) := by unfold ProgD.sig; rw [if_pos h0]
    rw [e0]
    clear e0 h
    go_enter Tryz.func19, Tryz.ntmps19
    go_wp2
    (try simp only [Exit.inBlock, Exit.then]); refine bodyPost_ret (results_tmp4 rfl _ _ _) rfl ?_
    exact ⟨rfl, 0, rfl⟩
  · obtain ⟨j, rfl⟩ : ∃ j : Nat, f = j := ⟨f.toNat, by omega⟩
    by_cases h1 : p.funs.length ≤ j
    · have e0 : p.sig j = (⟨[], [], []⟩, false) := by unfold ProgD.sig; rw [if_neg h0, List.getElem?_eq_none (by simpa using h1)]
      rw [e0]
      clear e0 h
      go_enter Tryz.func19, Tryz.ntmps19
      go_wp2
      (try simp only [Exit.inBlock, Exit.then]); refine bodyPost_ret (results_tmp4 rfl _ _ _) rfl ?_
      exact ⟨rfl, 0, rfl⟩
    · obtain ⟨u, hu⟩ : ∃ u, p.funs[j]? = some u := ⟨_, List.getElem?_eq_getElem (by omega)⟩
      have e0 : p.sig j = (u, true) := by
        unfold ProgD.sig
        rw [if_neg h0]
        simp [hu]
      rw [e0]
      obtain ⟨g, cv, hfa, hcv, d0, d1, d2, d3⟩ := h.funs.at hu
      rw [hfa] at c4
      have hrow := h.funs.row
      rw [hfa] at hrow
      have hgl := owns_lt hrow g rfl
      clear e0 h hrow hu hcv hfa
      go_enter Tryz.func19, Tryz.ntmps19
      go_wp2
      go_quiet (fail)
      go_wp2
      (try simp only [Exit.inBlock, Exit.then]); refine bodyPost_ret (results_tmp4 rfl _ _ _) rfl ?_
      exact ⟨rfl, _, rfl⟩
end
end Go.Proofs.Qxb6500575aGreatDoor
