/-
  THE WALK of prep.Prog.At at a place that lies in the code: the count may wrap.
-/
import Derived.Test.Qxb6500575aGreatDoorAt
namespace Go.Proofs.Qxb6500575aGreatDoor
open Go Go.RowKit
set_option linter.unusedVariables false
set_option linter.unusedSimpArgs false

set_option maxRecDepth 100000 in
set_option maxHeartbeats 2000000 in
theorem xat_any (S : Nat → Prop) (bp : Nat) (L : ProgL) (p : ProgD) (j k : Nat) (w : World) (h : ProgRep S w bp L p) (hl : p.codes.length ≤ 1000) {c : List Flat} (hc : p.codes[j]? = some c) {x : Flat} (hx : c[k]? = some x) (hcl' : c.length ≤ 1000) :
    Calls Tryz.prog 95 #[.pointer (some ⟨bp, 0, Option.none⟩), .int .i64 j, .int .i64 k] w fun e w' => e = .returned x.val ∧ ProgRep S w' bp L { p with steps := wrap64 (p.steps + 1) } ∧ Fr (fun k => k = bp) w w' := by
  have c3 := h.funs.here.cell 3
  have c4 := h.funs.here.cell 4
  simp at c3 c4
  have f3 := h.funs.here.frozen 3
  have hb := h.funs.here.lt
  have hb1 : bp < w.heap.size + 1 := by omega
  have hne0 : bp ≠ w.heap.size := by omega
  have hcf := h.clen
  have hfl : p.funs.length ≤ 1000 := by omega
  have H : Hid (∀ n o, _) := h.counted
  have h2 : j < p.funs.length := by rw [← hcf]; exact (List.getElem?_eq_some_iff.1 hc).1
  obtain ⟨u, hu⟩ : ∃ u, p.funs[j]? = some u := ⟨_, List.getElem?_eq_getElem h2⟩
  obtain ⟨g, cv, hfa, hcv, _, _, _, d3⟩ := h.funs.at hu
  have hco := h.codes j cv c hcv hc
  have hrow := h.funs.row
  rw [hfa] at hrow c4
  have hgl := owns_lt hrow g rfl
  have hgl1 : g < w.heap.size + 1 := by omega
  have hgb : g ≠ bp := fun e => owns_ne hrow h.funs.here (by decide) (by rw [e]; rfl)
  have hgb' : bp ≠ g := fun e => hgb e.symm
  obtain ⟨ca, cc, hcs⟩ : ∃ ca cc, cv = .slice ca c.length cc := by
    rcases hco.2 with ⟨h1, h2⟩ | ⟨g, cap, cur, h1, _⟩
    · exact ⟨Option.none, 0, by rw [h1, h2]⟩
    · exact ⟨_, _, h1⟩
  rw [hcs] at d3 hco
  clear hrow
  have h5 : k < c.length := (List.getElem?_eq_some_iff.1 hx).1
  obtain ⟨g2, hg2, hc2⟩ := owns_some hco (by omega)
  subst hg2
  have q0 := hc2 (k * 4 + 0) (by omega)
  have q1 := hc2 (k * 4 + 1) (by omega)
  have q2 := hc2 (k * 4 + 2) (by omega)
  have q3 := hc2 (k * 4 + 3) (by omega)
  rw [flatCells_at _ _ _ x hx (by omega)] at q0 q1 q2 q3
  simp [Flat.cells] at q0 q1 q2 q3
  have hgl2 := owns_lt hco g2 rfl
  have hgl3 : g2 < w.heap.size + 1 := by omega
  have hgb2 : g2 ≠ bp := fun e => owns_ne hco h.funs.here (by decide) (by rw [e]; rfl)
  have hgb3 : bp ≠ g2 := fun e => hgb2 e.symm
  clear h hco hc2 hcs hc hu hcv hx
  go_enter Tryz.func95, Tryz.ntmps95
  go_wp2
  (try simp only [Exit.inBlock, Exit.then])
  refine bodyPost_ret (at_res _ _ w.heap.size _ _ _ _ rfl (Has.newSet _ _ _ _ _)) rfl ?_
  exact ⟨rfl, (H.out _ _).1, (H.out _ _).2⟩
end Go.Proofs.Qxb6500575aGreatDoor
