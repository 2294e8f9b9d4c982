import Derived.Test.Qxb6500575aGreatDoorBranch
namespace Go.Proofs.Qxb6500575aGreatDoor
open Go Go.RowKit
set_option linter.unusedVariables false
set_option linter.unusedSimpArgs false

/-- prep.fun, its code apart -/
structure FunD where
  params : List UInt8
  results : List UInt8
  locals : List UInt8
def funCells (x : FunD × Value) : List Value := [sv x.1.params, sv x.1.results, sv x.1.locals, x.2]
theorem funCells_len (x : FunD × Value) : (funCells x).length = 4 := rfl
/-- the functions' signatures, as they lie in memory: the Prog in block bp, her row of functions -/
structure FunsAt (w : World) (bp : Nat) (n1 n2 n3 n4 : Value) (fa : Option Addr) (fc : Nat) (funs : List FunD) (cvs : List Value) : Prop where
  here : Has w bp #[n1, n2, n3, n4, .slice fa funs.length fc] 101
  row : w.ownsRow 0 105 4 (.slice fa funs.length fc) funs.length ((funs.zip cvs).flatMap funCells)
  len : cvs.length = funs.length
theorem FunsAt.fr {S : Nat → Prop} {w w' : World} {bp : Nat} {n1 n2 n3 n4 : Value} {fa : Option Addr} {fc : Nat} {funs : List FunD} {cvs : List Value} (h : FunsAt w bp n1 n2 n3 n4 fa fc funs cvs) (hf : Fr S w w') (h1 : ¬ S bp) (h2 : ∀ g, (Value.slice fa 0 0).ownBlock = some g → ¬ S g) : FunsAt w' bp n1 n2 n3 n4 fa fc funs cvs :=
  ⟨h.here.fr hf h1, owns_fr h.row hf (fun g hg => h2 g (by rw [ownBlock_any _ _ _ funs.length fc]; exact hg)), h.len⟩
/-- the cells of the f-th function -/
theorem FunsAt.at {w : World} {bp : Nat} {n1 n2 n3 n4 : Value} {fa : Option Addr} {fc : Nat} {funs : List FunD} {cvs : List Value} (h : FunsAt w bp n1 n2 n3 n4 fa fc funs cvs) {j : Nat} {u : FunD} (hj : funs[j]? = some u) :
    ∃ g cv, fa = some ⟨g, 0, none⟩ ∧ cvs[j]? = some cv ∧ w.cell? ⟨g, j * 4, none⟩ = some (sv u.params) ∧ w.cell? ⟨g, j * 4 + 1, none⟩ = some (sv u.results) ∧ w.cell? ⟨g, j * 4 + 2, none⟩ = some (sv u.locals) ∧ w.cell? ⟨g, j * 4 + 3, none⟩ = some cv := by
  have hl : j < funs.length := (List.getElem?_eq_some_iff.1 hj).1
  obtain ⟨g, hg, hc⟩ := owns_some h.row (by omega)
  have hl2 : j < cvs.length := by rw [h.len]; exact hl
  have hcv : cvs[j]? = some cvs[j] := List.getElem?_eq_getElem hl2
  have hz : (funs.zip cvs)[j]? = some (u, cvs[j]) := by rw [List.getElem?_zip_eq_some]; exact ⟨hj, hcv⟩
  have at_ : ∀ i, i < 4 → w.cell? ⟨g, j * 4 + i, none⟩ = (funCells (u, cvs[j]))[i]? := fun i hi => by
    rw [hc (j * 4 + i) (by omega), flatMap_at funCells 4 funCells_len _ j i _ hz hi]
  exact ⟨g, cvs[j], hg, hcv, by have := at_ 0 (by omega); simpa [funCells] using this, by have := at_ 1 (by omega); simpa [funCells] using this, by have := at_ 2 (by omega); simpa [funCells] using this, by have := at_ 3 (by omega); simpa [funCells] using this⟩

def Ck.call (s : Ck) (funs : List FunD) (j : Nat) : Ck × Int :=
  match funs[j]? with
  | none => (s, 5)
  | some u => s.swap u.params u.results

set_option maxHeartbeats 1000000 in
theorem call_any (B bk : Nat) (fx : CkF) (L : CkL) (s : Ck) (op : Int) (j : Nat) (w : World) (h : CkRep B w bk fx L s) {b : Blk} {r : List Blk} (ht : s.Top b r) (hr : r.length ≤ 900) (hs : s.st.length ≤ 1000)
    {bp : Nat} {n1 n2 n3 n4 : Value} {fa : Option Addr} {fc : Nat} {funs : List FunD} {cvs : List Value} (hf : FunsAt w bp n1 n2 n3 n4 fa fc funs cvs) (hp : fx.p = .pointer (some ⟨bp, 0, none⟩)) (hfl : funs.length ≤ 1000) (hps : ∀ u ∈ funs, u.params.length ≤ 1000) (hrs : ∀ u ∈ funs, u.results.length ≤ 1000) :
    Calls Tryz.prog 116 #[.pointer (some ⟨bk, 0, none⟩), .agg #[.int .i64 op, .int .i64 j, sv []]] w fun e w' => e = .returned (.int .i64 (s.call funs j).2) ∧ ∃ L', CkRep B w' bk fx L' (s.call funs j).1 ∧ CkStep w w' bk L L' := by
  have c0 := h.here.cell 0
  simp [hp] at c0
  have p4 := hf.here.cell 4
  simp at p4
  have hb := h.here.lt
  have hb1 : bk < w.heap.size + 1 := by omega
  have hb2 := hf.here.lt
  have hb3 : bp < w.heap.size + 1 := by omega
  have H : Hid (CkRep B w bk fx L s) := h
  by_cases hj : funs.length ≤ j
  · have e0 : s.call funs j = (s, 5) := by unfold Ck.call; rw [List.getElem?_eq_none hj]
    rw [e0]
    clear e0 h ht hf
    go_enter Tryz.func116, Tryz.ntmps116
    go_wp2
    go_quiet (fail)
    go_wp2
    go_ret
    exact ⟨rfl, L, (H.out.alloc _).drewN _, ((CkStep.refl _ _ _).alloc _).drewN _⟩
  · have hj' : j < funs.length := by omega
    obtain ⟨u, hu⟩ : ∃ u, funs[j]? = some u := ⟨_, List.getElem?_eq_getElem hj'⟩
    have hum : u ∈ funs := List.mem_of_getElem? hu
    have e0 : s.call funs j = s.swap u.params u.results := by unfold Ck.call; rw [hu]
    rw [e0]
    obtain ⟨g, cv, rfl, _, d0, d1, _, _⟩ := hf.at hu
    have hgl := owns_lt hf.row g rfl
    have hgl1 : g < w.heap.size + 1 := by omega
    have HC : Hid (∀ w', CkRep B w' bk fx L s → _) := fun w' h' => swap_any B bk fx L s u.params u.results w' h' ht (by omega) hs (hps _ hum) (hrs _ hum)
    clear e0 h ht hf hps hrs
    go_enter Tryz.func116, Tryz.ntmps116
    go_wp2
    go_quiet (fail)
    go_wp2
    refine wp_region_tail 25 (by kernel_rfl) (by kernel_rfl) (fun _ _ _ _ _ h => h) ?_
    simp only [List.take_succ_cons, List.take_zero, List.drop_succ_cons, List.drop_zero]
    repeat go_big_quiet_step (fail)
    refine wpQuiet_nil ?_
    go_wp2_with fail
    refine (HC.out _ (((H.out.alloc _).drewN _).drew)).mono ?_
    rintro e w1 ⟨sa, sc, rfl, g1, g2⟩
    have FIN : Hid (_ ∧ _) := And.intro g1 (((((CkStep.refl w bk L).alloc _).drewN _).drew).trans g2)
    clear g1 g2 HC H
    go_wp2
    go_ret
    exact ⟨rfl, _, FIN.out⟩
end Go.Proofs.Qxb6500575aGreatDoor
