/-
  'copy(dst, src)' of a whole row onto a row of the call's own of the same length, any size of element. Own work over the kit's laws.
-/
import Derived.Test.Qxb6500574aGreatDoorWFl7
import Derived.Test.Qxb6500574aGreatDoorVCopy
import Derived.Laws.CopyRow
namespace Go.Proofs.Qxb6500574aGreatDoor
open Go Go.RowKit
set_option linter.unusedVariables false
set_option linter.unusedSimpArgs false
theorem run_copy_full {P : Program} (w : World) (dT sT ty e : TypeId) (size g cd : Nat) (vs : Value) (n : Nat) (zs xs : List Value)
    (hu : P.underlying dT = some (.slice e)) (hsz : (P.info? e).map (·.size) = some size)
    (hown : w.ownsRow 0 e size (.slice (some ⟨g, 0, none⟩) n cd) n zs) (hsrc : w.ownsRow 0 e size vs n xs) (hn : 0 < n) (h1 : ∀ u ∈ xs, u.oneCell' = true) :
    ∃ w', (Builtin.copy_ #[dT, sT] ty #[.slice (some ⟨g, 0, none⟩) n cd, vs]).run P w = .ok (goInt n) w' ∧ w'.ownsRow 0 e size (.slice (some ⟨g, 0, none⟩) n cd) n xs ∧ Fr (fun k => k = g) w w' := by
  have hl := hsrc.1
  rcases hsrc.2 with ⟨_, h0⟩ | ⟨gs, caps, curs, rfl, _, hgs, hnc, _, hss, htake⟩
  · omega
  rcases hown.2 with ⟨h, _⟩ | ⟨g', cap', cur, hv, hb, hg, hnc', hcm, hcs, _⟩
  · cases h
  simp at hv
  obtain ⟨rfl, rfl⟩ := hv
  have hfit : n * size ≤ cd * size := Nat.mul_le_mul_right _ hnc'
  have hcells : ∀ j v, xs[j]? = some v → w.cell? ((⟨gs, 0, none⟩ : Addr).add j) = some v := by
    intro j v hj
    have hadd : (⟨gs, 0, none⟩ : Addr).add j = ⟨gs, j, none⟩ := by unfold Addr.add; split <;> simp_all
    rw [hadd]
    have hj' : j < n * size := by rw [← hl]; exact (List.getElem?_eq_some_iff.1 hj).1
    rw [← htake, List.getElem?_take, if_pos hj'] at hj
    simpa [World.cell?, hgs] using hj
  have hld := run_loadCells_list (P := P) w ⟨gs, 0, none⟩ xs hcells
  rw [hl] at hld
  have hst := run_storeCells_at P g 0 e xs 0 cur w hg (by rw [hl]; omega) h1
  simp only [Nat.zero_add, List.take_zero, List.nil_append] at hst
  refine ⟨w.setRow g (xs ++ cur.toList.drop xs.length).toArray, ?_, ⟨hl, .inr ⟨g, cd, _, rfl, hb, setRow_heap w g cur _ e _ hg, hnc', hcm, ?_, ?_⟩⟩, ⟨rfl, rfl, rfl, by simp [World.setRow], fun k _ hk => setRow_other w g k _ hk⟩⟩
  · cases hq : P.info? e with
    | none => simp [hq] at hsz
    | some i =>
      have hi : i.size = size := by simpa [hq] using hsz
      have hmin : Nat.min n n = n := Nat.min_self n
      simp [Builtin.copy_, run_underlying hu, Builtin.lenOf, Builtin.firstCells, sizeOf, typeInfo, hq, hi, hmin, hld, hst]
  · simp [hl, hcs]; omega
  · rw [← hl]; simp

theorem wpList_copy_full {P : Program} {w : World} {ops : Array Oper} {rest : List Oper} {o : Oper} {a : Act} {Q : Exit → Act → World → Prop} (hgd : o.guard = none) (d s : Operand) (dT sT : TypeId)
    (ho : o.op = .call { callee := .builtin .copy, args := #[d, s], argTypes := #[dT, sT] }) (e : TypeId) (size : Nat) (hu : P.underlying dT = some (.slice e)) (hsz : (P.info? e).map (·.size) = some size)
    (g cd : Nat) (vs : Value) (n : Nat) (zs xs : List Value) (hd : a.eval d = .slice (some ⟨g, 0, none⟩) n cd) (hs : a.eval s = vs)
    (hown : w.ownsRow 0 e size (.slice (some ⟨g, 0, none⟩) n cd) n zs) (hsrc : w.ownsRow 0 e size vs n xs) (hn : 0 < n) (h1 : ∀ u ∈ xs, u.oneCell' = true)
    (h : ∀ w', w'.ownsRow 0 e size (.slice (some ⟨g, 0, none⟩) n cd) n xs → Fr (fun k => k = g) w w' → wpList P ops Q rest (a.put o.dst (goInt n)) w') : wpList P ops Q (o :: rest) a w := by
  refine wpList_plain hgd fun K hK => ?_
  obtain ⟨w', hrun, h2, h3⟩ := run_copy_full (P := P) w dT sT o.type e size g cd vs n zs xs hu hsz hown hsrc hn h1
  unfold Oper.wp
  simp [execOp, ho, resolve, invoke, builtin, hd, hs, hrun, Result.andThen]
  exact hK _ _ (h w' h2 h3)
end Go.Proofs.Qxb6500574aGreatDoor
