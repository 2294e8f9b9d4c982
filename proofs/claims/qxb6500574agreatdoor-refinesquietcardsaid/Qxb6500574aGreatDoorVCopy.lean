/-
  copy, where an element has more than one cell. Own work over the kit's laws.
-/
import Derived.Test.Qxb6500574aGreatDoorVCoreApp
import Derived.Laws.CopyOwn
namespace Go.Proofs.Qxb6500574aGreatDoor
open Go Go.RowKit
set_option linter.unusedVariables false
set_option linter.unusedSimpArgs false

theorem run_copy_size {P : Program} (w : World) (dT sT ty e : TypeId) (sz : Nat) (hu : P.underlying dT = some (.slice e)) (hsz : (P.info? e).map (·.size) = some sz)
    (gd od ld cd gs os ls cs : Nat) (cur : Array Value) (eT : TypeId) (hg : w.heap[gd]? = some (.cells cur eT (0, 0))) (xs : List Value) (n : Nat) (hn : n = min ls ld) (hl : xs.length = n * sz)
    (hsrc : ∀ j v, xs[j]? = some v → w.cell? ⟨gs, os + j, none⟩ = some v) (h1 : ∀ u ∈ xs, u.oneCell' = true) (hfit : od + n * sz ≤ cur.size) :
    (Builtin.copy_ #[dT, sT] ty #[.slice (some ⟨gd, od, none⟩) ld cd, .slice (some ⟨gs, os, none⟩) ls cs]).run P w =
      .ok (.int .i64 n) (w.setRow gd (cur.toList.take od ++ xs ++ cur.toList.drop (od + n * sz)).toArray) := by
  have hld := run_loadCells_list (P := P) w ⟨gs, os, none⟩ xs (fun j v hj => by
    have hadd : (⟨gs, os, none⟩ : Addr).add j = ⟨gs, os + j, none⟩ := by unfold Addr.add; split <;> simp_all
    rw [hadd]; exact hsrc j v hj)
  have hst := run_storeCells_at P gd od eT xs 0 cur w hg (by omega) h1
  simp only [Nat.add_zero] at hst
  cases hq : P.info? e with
  | none => simp [hq] at hsz
  | some i =>
    have hi : i.size = sz := by simpa [hq] using hsz
    have hmin : Nat.min ls ld = n := hn.symm
    rw [hl] at hld hst
    simp [Builtin.copy_, run_underlying hu, Builtin.lenOf, Builtin.firstCells, sizeOf, typeInfo, hq, hi, hmin, hld, hst, goInt]
end Go.Proofs.Qxb6500574aGreatDoor
