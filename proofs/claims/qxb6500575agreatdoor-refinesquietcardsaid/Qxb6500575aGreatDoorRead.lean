/-
  THE WALKS of modm's readers.
-/
import Derived.Test.Qxb6500575aGreatDoorModm
import Derived.Laws.Rows
import Derived.Test.Qxb6500575aGreatDoorReg
import Derived.OwnWalk
namespace Go.Proofs.Qxb6500575aGreatDoor
open Go Go.RowKit
set_option linter.unusedVariables false
set_option linter.unusedSimpArgs false

def ModD.importAt (m : ModD) (i : Int) : Int := if i < 0 then -1 else (m.imports[i.toNat]?).getD (-1)
def ModD.typeAt (m : ModD) (i : Int) : List UInt8 × List UInt8 := if i < 0 then ([], []) else ((m.params[i.toNat]?).getD [], (m.results[i.toNat]?).getD [])
def ModD.funcAt (m : ModD) (i : Int) : Int × List UInt8 × Int :=
  if i < 0 then (-1, [], 0) else
  match m.funcs[i.toNat]? with
  | none => (-1, [], 0)
  | some f => (f.typ, f.locals, f.code.length)
def ModD.insAt (m : ModD) (f i : Int) : Ins :=
  if f < 0 ∨ i < 0 then ⟨-1, 0, []⟩ else
  match m.funcs[f.toNat]? with
  | none => ⟨-1, 0, []⟩
  | some fn => (fn.code[i.toNat]?).getD ⟨-1, 0, []⟩

set_option maxHeartbeats 400000 in
theorem nimports_any (S : Nat → Prop) (bm : Nat) (L : ModL) (m : ModD) (w : World) (h : ModRep S w bm L m) :
    Calls Tryz.prog 50 #[.pointer (some ⟨bm, 0, none⟩)] w fun e w' => e = .returned (.int .i64 m.imports.length) ∧ w' = w := by
  have c2 := h.here.cell 2
  simp at c2
  go_enter Tryz.func50, Tryz.ntmps50
  go_wp2
  go_ret
  exact ⟨rfl, rfl⟩
set_option maxHeartbeats 400000 in
theorem nfuncs_any (S : Nat → Prop) (bm : Nat) (L : ModL) (m : ModD) (w : World) (h : ModRep S w bm L m) :
    Calls Tryz.prog 53 #[.pointer (some ⟨bm, 0, none⟩)] w fun e w' => e = .returned (.int .i64 m.funcs.length) ∧ w' = w := by
  have c2 := h.here.cell 5
  simp at c2
  go_enter Tryz.func53, Tryz.ntmps53
  go_wp2
  go_ret
  exact ⟨rfl, rfl⟩
set_option maxHeartbeats 400000 in
theorem ntypes_any (S : Nat → Prop) (bm : Nat) (L : ModL) (m : ModD) (w : World) (h : ModRep S w bm L m) :
    Calls Tryz.prog 52 #[.pointer (some ⟨bm, 0, none⟩)] w fun e w' => e = .returned (.int .i64 m.params.length) ∧ w' = w := by
  have c2 := h.here.cell 0
  simp at c2
  go_enter Tryz.func52, Tryz.ntmps52
  go_wp2
  go_ret
  exact ⟨rfl, rfl⟩
set_option maxHeartbeats 400000 in
theorem mem_any (S : Nat → Prop) (bm : Nat) (L : ModL) (m : ModD) (w : World) (h : ModRep S w bm L m) :
    Calls Tryz.prog 51 #[.pointer (some ⟨bm, 0, none⟩)] w fun e w' => e = .returned (.tuple #[.int .i64 m.min, .int .i64 m.max]) ∧ ∃ n, w' = w.drewN n := by
  have c3 := h.here.cell 3
  have c4 := h.here.cell 4
  simp at c3 c4
  go_enter Tryz.func51, Tryz.ntmps51
  go_wp2
  go_quiet (fail)
  go_wp2
  go_ret2
  exact ⟨rfl, _, rfl⟩
set_option maxHeartbeats 400000 in
theorem import_any (S : Nat → Prop) (bm : Nat) (L : ModL) (m : ModD) (i : Int) (w : World) (h : ModRep S w bm L m) (hl : m.imports.length ≤ 1000) :
    Calls Tryz.prog 54 #[.pointer (some ⟨bm, 0, none⟩), .int .i64 i] w fun e w' => e = .returned (.int .i64 (m.importAt i)) ∧ w' = w := by
  have c2 := h.here.cell 2
  simp at c2
  by_cases h0 : i < 0
  · have e0 : m.importAt i = -1 := by unfold ModD.importAt; rw [if_pos h0]
    rw [e0]
    go_enter Tryz.func54, Tryz.ntmps54
    go_wp2
    go_ret
    exact ⟨rfl, rfl⟩
  · obtain ⟨j, rfl⟩ : ∃ j : Nat, i = j := ⟨i.toNat, by omega⟩
    by_cases h1 : m.imports.length ≤ j
    · have e0 : m.importAt j = -1 := by unfold ModD.importAt; rw [if_neg h0]; simp [h1]
      rw [e0]
      go_enter Tryz.func54, Tryz.ntmps54
      go_wp2
      go_ret
      exact ⟨rfl, rfl⟩
    · have h2 : j < m.imports.length := by omega
      have e0 : m.importAt j = m.imports[j] := by unfold ModD.importAt; rw [if_neg h0]; simp [h2]
      obtain ⟨g, hg, hc⟩ := owns_some h.imports (by omega)
      have cj := hc j (by omega)
      simp [intCells, h2] at cj
      rw [hg] at c2
      rw [e0]
      clear hc
      go_enter Tryz.func54, Tryz.ntmps54
      go_wp2
      go_ret
      exact ⟨rfl, rfl⟩
set_option maxHeartbeats 400000 in
theorem type_any (S : Nat → Prop) (bm : Nat) (L : ModL) (m : ModD) (i : Int) (w : World) (h : ModRep S w bm L m) (hl : m.params.length ≤ 1000) (hlr : m.results.length = m.params.length) :
    Calls Tryz.prog 56 #[.pointer (some ⟨bm, 0, none⟩), .int .i64 i] w fun e w' => e = .returned (.tuple #[sv (m.typeAt i).1, sv (m.typeAt i).2]) ∧ ∃ n, w' = w.drewN n := by
  have c2 := h.here.cell 0
  have c3 := h.here.cell 1
  simp at c2 c3
  by_cases h0 : i < 0
  · have e0 : m.typeAt i = ([], []) := by unfold ModD.typeAt; rw [if_pos h0]
    rw [e0]
    go_enter Tryz.func56, Tryz.ntmps56
    go_wp2
    go_ret2
    exact ⟨rfl, 0, rfl⟩
  · obtain ⟨j, rfl⟩ : ∃ j : Nat, i = j := ⟨i.toNat, by omega⟩
    by_cases h1 : m.params.length ≤ j
    · have e0 : m.typeAt j = ([], []) := by unfold ModD.typeAt; rw [if_neg h0]; simp [h1, hlr]
      rw [e0]
      go_enter Tryz.func56, Tryz.ntmps56
      go_wp2
      go_ret2
      exact ⟨rfl, 0, rfl⟩
    · have h2 : j < m.params.length := by omega
      have h3 : j < m.results.length := by omega
      have e0 : m.typeAt j = (m.params[j], m.results[j]) := by unfold ModD.typeAt; rw [if_neg h0]; simp [h2, h3]
      obtain ⟨g, hg, hc⟩ := owns_some h.params (by omega)
      obtain ⟨g', hg', hc'⟩ := owns_some h.results (by omega)
      have cj := hc j (by omega)
      have cj' := hc' j (by omega)
      simp [strCells, h2, h3] at cj cj'
      rw [hg] at c2
      rw [hg', hlr] at c3
      rw [e0]
      clear hc hc'
      go_enter Tryz.func56, Tryz.ntmps56
      go_wp2
      go_quiet (fail)
      go_wp2
      go_ret2
      exact ⟨rfl, _, rfl⟩
set_option maxHeartbeats 400000 in
theorem func_any (S : Nat → Prop) (bm : Nat) (L : ModL) (m : ModD) (i : Int) (w : World) (h : ModRep S w bm L m) (hl : m.funcs.length ≤ 1000) :
    Calls Tryz.prog 55 #[.pointer (some ⟨bm, 0, none⟩), .int .i64 i] w fun e w' => e = .returned (.tuple #[.int .i64 (m.funcAt i).1, sv (m.funcAt i).2.1, .int .i64 (m.funcAt i).2.2]) ∧ ∃ n, w' = w.drewN n := by
  have c5 := h.here.cell 5
  simp at c5
  by_cases h0 : i < 0
  · have e0 : m.funcAt i = (-1, [], 0) := by unfold ModD.funcAt; rw [if_pos h0]
    rw [e0]
    go_enter Tryz.func55, Tryz.ntmps55
    go_wp2
    go_ret3
    exact ⟨rfl, 0, rfl⟩
  · obtain ⟨j, rfl⟩ : ∃ j : Nat, i = j := ⟨i.toNat, by omega⟩
    by_cases h1 : m.funcs.length ≤ j
    · have e0 : m.funcAt j = (-1, [], 0) := by unfold ModD.funcAt; rw [if_neg h0]; simp [h1]
      rw [e0]
      go_enter Tryz.func55, Tryz.ntmps55
      go_wp2
      go_ret3
      exact ⟨rfl, 0, rfl⟩
    · have h2 : j < m.funcs.length := by omega
      obtain ⟨fn, hfn⟩ : ∃ fn, m.funcs[j]? = some fn := ⟨_, List.getElem?_eq_getElem h2⟩
      have e0 : m.funcAt j = (fn.typ, fn.locals, (fn.code.length : Int)) := by unfold ModD.funcAt; rw [if_neg h0]; simp [hfn]
      obtain ⟨g, hg, hc⟩ := owns_some h.funcs (by omega)
      have hl2 : j < L.cv.length := by rw [h.cvlen]; exact h2
      have hcv : L.cv[j]? = some L.cv[j] := List.getElem?_eq_getElem hl2
      have hz : (m.funcs.zip L.cv)[j]? = some (fn, L.cv[j]) := by rw [List.getElem?_zip_eq_some]; exact ⟨hfn, hcv⟩
      have at_ : ∀ i, i < 3 → w.cell? ⟨g, j * 3 + i, none⟩ = (fnCells (fn, L.cv[j]))[i]? := fun i hi => by
        rw [hc (j * 3 + i) (by omega), flatMap_at fnCells 3 fnCells_len _ j i _ hz hi]
      have hco := h.codes j fn L.cv[j] hfn hcv
      obtain ⟨ca, cc, hcs⟩ : ∃ ca cc, L.cv[j] = .slice ca fn.code.length cc := by
        rcases hco.2 with ⟨h1, h2⟩ | ⟨g, cap, cur, h1, _⟩
        · exact ⟨none, 0, by rw [h1, h2]⟩
        · exact ⟨_, _, h1⟩
      have d0 := at_ 0 (by omega)
      have d1 := at_ 1 (by omega)
      have d2 := at_ 2 (by omega)
      rw [hcs] at d0 d1 d2
      simp [fnCells] at d0 d1 d2
      rw [hg] at c5
      rw [e0]
      clear hc at_ hcs hco hz hcv
      go_enter Tryz.func55, Tryz.ntmps55
      go_wp2
      go_quiet (fail)
      go_wp2
      go_ret3
      exact ⟨rfl, _, rfl⟩

theorem insAt_res (tmps : Array Value) (w : World) (b : Nat) (x y z : Value) (hp : tmps.getD 6 undef = .pointer (some ⟨b, 0, none⟩)) (hb : Has w b #[x, y, z] 67) :
    (results Tryz.f57 tmps).run Tryz.prog w = .ok (.agg #[x, y, z]) w := by
  obtain ⟨fs, hu⟩ : ∃ fs, Tryz.prog.underlying 67 = some (.struct fs) := by
    have hk : (match Tryz.prog.underlying 67 with | some (.struct _) => true | _ => false) = true := by kernel_rfl
    split at hk
    · rename_i fs he
      exact ⟨fs, he⟩
    · cases hk
  exact results_cell_row (p := 6) (ty := 67) rfl tmps w b 67 #[x, y, z] _ _ hp hb hu rfl (by kernel_rfl)

set_option maxHeartbeats 1000000 in
theorem insAt_any (S : Nat → Prop) (bm : Nat) (L : ModL) (m : ModD) (f i : Int) (w : World) (h : ModRep S w bm L m) (hl : m.funcs.length ≤ 1000) (hcl : ∀ fn ∈ m.funcs, fn.code.length ≤ 1000) :
    Calls Tryz.prog 57 #[.pointer (some ⟨bm, 0, none⟩), .int .i64 f, .int .i64 i] w fun e w' => e = .returned (.agg #[.int .i64 (m.insAt f i).op, .int .i64 (m.insAt f i).imm, sv (m.insAt f i).tab]) ∧ ∃ o, w' = w.alloc o := by
  have c5 := h.here.cell 5
  simp at c5
  have hb := h.here.lt
  have hb1 : bm < w.heap.size + 1 := by omega
  by_cases h0 : f < 0
  · have e0 : m.insAt f i = ⟨-1, 0, []⟩ := by unfold ModD.insAt; rw [if_pos (.inl h0)]
    rw [e0]
    go_enter Tryz.func57, Tryz.ntmps57
    go_wp2
    (try simp only [Exit.inBlock, Exit.then])
    refine bodyPost_ret (insAt_res _ _ w.heap.size _ _ _ rfl (Has.new _ _ _)) rfl ?_
    exact ⟨rfl, _, rfl⟩
  · obtain ⟨j, rfl⟩ : ∃ j : Nat, f = j := ⟨f.toNat, by omega⟩
    by_cases h1 : m.funcs.length ≤ j
    · have e0 : m.insAt j i = ⟨-1, 0, []⟩ := by
        unfold ModD.insAt
        split
        · rfl
        · simp [h1]
      rw [e0]
      go_enter Tryz.func57, Tryz.ntmps57
      go_wp2
      (try simp only [Exit.inBlock, Exit.then])
      refine bodyPost_ret (insAt_res _ _ w.heap.size _ _ _ rfl (Has.new _ _ _)) rfl ?_
      exact ⟨rfl, _, rfl⟩
    · have h2 : j < m.funcs.length := by omega
      by_cases h3 : i < 0
      · have e0 : m.insAt j i = ⟨-1, 0, []⟩ := by unfold ModD.insAt; rw [if_pos (.inr h3)]
        rw [e0]
        go_enter Tryz.func57, Tryz.ntmps57
        go_wp2
        (try simp only [Exit.inBlock, Exit.then])
        refine bodyPost_ret (insAt_res _ _ w.heap.size _ _ _ rfl (Has.new _ _ _)) rfl ?_
        exact ⟨rfl, _, rfl⟩
      · obtain ⟨k, rfl⟩ : ∃ k : Nat, i = k := ⟨i.toNat, by omega⟩
        obtain ⟨fn, hfn⟩ : ∃ fn, m.funcs[j]? = some fn := ⟨_, List.getElem?_eq_getElem h2⟩
        obtain ⟨g, hg, hc⟩ := owns_some h.funcs (by omega)
        have hl2 : j < L.cv.length := by rw [h.cvlen]; exact h2
        have hcv : L.cv[j]? = some L.cv[j] := List.getElem?_eq_getElem hl2
        have hz : (m.funcs.zip L.cv)[j]? = some (fn, L.cv[j]) := by rw [List.getElem?_zip_eq_some]; exact ⟨hfn, hcv⟩
        have at_ : ∀ i, i < 3 → w.cell? ⟨g, j * 3 + i, none⟩ = (fnCells (fn, L.cv[j]))[i]? := fun i hi => by
          rw [hc (j * 3 + i) (by omega), flatMap_at fnCells 3 fnCells_len _ j i _ hz hi]
        have hco := h.codes j fn L.cv[j] hfn hcv
        have hcl' := hcl fn (List.mem_of_getElem? hfn)
        have hgl := owns_lt h.funcs g (by rw [hg]; rfl)
        have hgl1 : g < w.heap.size + 1 := by omega
        obtain ⟨ca, cc, hcs⟩ : ∃ ca cc, L.cv[j] = .slice ca fn.code.length cc := by
          rcases hco.2 with ⟨h1, h2⟩ | ⟨g, cap, cur, h1, _⟩
          · exact ⟨none, 0, by rw [h1, h2]⟩
          · exact ⟨_, _, h1⟩
        have d2 := at_ 2 (by omega)
        rw [hcs] at d2 hco
        simp [fnCells] at d2
        rw [hg] at c5
        clear hc at_ hcs hz hcv
        by_cases h4 : fn.code.length ≤ k
        · have e0 : m.insAt j k = ⟨-1, 0, []⟩ := by
            unfold ModD.insAt
            rw [if_neg (by omega)]
            simp [hfn, h4]
          rw [e0]
          clear h hco
          go_enter Tryz.func57, Tryz.ntmps57
          go_wp2
          (try simp only [Exit.inBlock, Exit.then])
          refine bodyPost_ret (insAt_res _ _ w.heap.size _ _ _ rfl (Has.new _ _ _)) rfl ?_
          exact ⟨rfl, _, rfl⟩
        · have h5 : k < fn.code.length := by omega
          obtain ⟨c, hcc⟩ : ∃ c, fn.code[k]? = some c := ⟨_, List.getElem?_eq_getElem h5⟩
          have e0 : m.insAt j k = c := by
            unfold ModD.insAt
            rw [if_neg (by omega)]
            simp [hfn, hcc]
          obtain ⟨g2, hg2, hc2⟩ := owns_some hco (by omega)
          subst hg2
          have q0 := hc2 (k * 3 + 0) (by omega)
          have q1 := hc2 (k * 3 + 1) (by omega)
          have q2 := hc2 (k * 3 + 2) (by omega)
          rw [insCells_at _ _ _ c hcc (by omega)] at q0 q1 q2
          simp [Ins.cells] at q0 q1 q2
          have hgl2 := owns_lt hco g2 rfl
          have hgl3 : g2 < w.heap.size + 1 := by omega
          rw [e0]
          clear h hco hc2
          go_enter Tryz.func57, Tryz.ntmps57
          go_wp2
          (try simp only [Exit.inBlock, Exit.then])
          refine bodyPost_ret (insAt_res _ _ w.heap.size _ _ _ rfl (Has.new _ _ _)) rfl ?_
          exact ⟨rfl, _, rfl⟩
end Go.Proofs.Qxb6500575aGreatDoor
