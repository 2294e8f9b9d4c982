/-
  THE WALKS of prepm.Prog's readers: Steps, Mark, NImports, Mem, Sig, At.
-/
import Derived.Test.Qxb6500576aGreatDoorMProg
import Derived.Test.Qxb6500576aGreatDoorProgOps
namespace Go.Proofs.Qxb6500576aGreatDoor
open Go Go.RowKit
set_option linter.unusedVariables false
set_option linter.unusedSimpArgs false

theorem MProg.count {S : Nat → Prop} {w : World} {bp : Nat} {L : MPL} {p : ProgD} {srcs : List (List Ins)} (h : MProg S w bp L p srcs) (n : Int) :
    MProg S (w.setCell ⟨bp, 3, Option.none⟩ (.int .i64 n)) bp L { p with steps := n } srcs ∧ Fr (fun k => k = bp) w (w.setCell ⟨bp, 3, Option.none⟩ (.int .i64 n)) :=
  h.putHead 3 (.int .i64 n) (p' := { p with steps := n }) (by decide) rfl rfl rfl
theorem MProg.counted {S : Nat → Prop} {w : World} {bp : Nat} {L : MPL} {p : ProgD} {srcs : List (List Ins)} (h : MProg S w bp L p srcs) (n : Int) (o : Obj) :
    MProg S ((w.setCell ⟨bp, 3, Option.none⟩ (.int .i64 n)).alloc o) bp L { p with steps := n } srcs ∧ Fr (fun k => k = bp) w ((w.setCell ⟨bp, 3, Option.none⟩ (.int .i64 n)).alloc o) :=
  ⟨(h.count n).1.fresh ((Fr.refl _ _).alloc o), (h.count n).2.alloc o⟩
theorem mat_res (tmps : Array Value) (w : World) (b : Nat) (x y z u : Value) (hp : tmps.getD 6 undef = .pointer (some ⟨b, 0, Option.none⟩)) (hb : Has w b #[x, y, z, u] 97) :
    (results Tryz.f46 tmps).run Tryz.prog w = .ok (.agg #[x, y, z, u]) w := by
  obtain ⟨fs, hu⟩ : ∃ fs, Tryz.prog.underlying 97 = some (.struct fs) := by
    have hk : (match Tryz.prog.underlying 97 with | some (.struct _) => true | _ => false) = true := by kernel_rfl
    split at hk
    · rename_i fs he
      exact ⟨fs, he⟩
    · cases hk
  exact results_cell_row (p := 6) (ty := 97) rfl tmps w b 97 #[x, y, z, u] _ _ hp hb hu rfl (by kernel_rfl)
section
variable (S : Nat → Prop) (bp : Nat) (L : MPL) (p : ProgD) (srcs : List (List Ins)) (w : World)
theorem msteps_any (h : MProg S w bp L p srcs) : Calls Tryz.prog 17 #[.pointer (some ⟨bp, 0, none⟩)] w fun e w' => e = .returned (.int .i64 p.steps) ∧ w' = w := by
  have c := h.here.cell 3
  simp at c
  go_enter Tryz.func17, Tryz.ntmps17
  go_wp2
  go_ret
  exact ⟨rfl, rfl⟩
theorem mpnimports_any (h : MProg S w bp L p srcs) : Calls Tryz.prog 45 #[.pointer (some ⟨bp, 0, none⟩)] w fun e w' => e = .returned (.int .i64 p.nimp) ∧ w' = w := by
  have c := h.here.cell 0
  simp at c
  go_enter Tryz.func45, Tryz.ntmps45
  go_wp2
  go_ret
  exact ⟨rfl, rfl⟩
theorem mpmem_any (h : MProg S w bp L p srcs) : Calls Tryz.prog 44 #[.pointer (some ⟨bp, 0, none⟩)] w fun e w' => e = .returned (.tuple #[.int .i64 p.min, .int .i64 p.max]) ∧ ∃ n, w' = w.drewN n := by
  have c1 := h.here.cell 1
  have c2 := h.here.cell 2
  simp at c1 c2
  go_enter Tryz.func44, Tryz.ntmps44
  go_wp2
  go_quiet (fail)
  go_wp2
  go_ret2
  exact ⟨rfl, _, rfl⟩
theorem mmark_any (h : MProg S w bp L p srcs) : Calls Tryz.prog 47 #[.pointer (some ⟨bp, 0, none⟩)] w fun e w' => e = .returned (.tuple #[]) ∧ MProg S w' bp L { p with steps := 0 } srcs ∧ Fr (fun k => k = bp) w w' := by
  have c := h.here.cell 3
  have f := h.here.frozen 3
  have hl := h.here.lt
  simp at c
  have H : Hid (_ ∧ _) := h.count 0
  clear h
  go_enter Tryz.func47, Tryz.ntmps47
  go_wp2
  go_end0
  exact ⟨rfl, H.out⟩
set_option maxHeartbeats 1000000 in
theorem msig_any (f : Int) (h : MProg S w bp L p srcs) (hl : p.funs.length ≤ 1000) : Calls Tryz.prog 43 #[.pointer (some ⟨bp, 0, none⟩), .int .i64 f] w fun e w' => e = .returned (.tuple #[sv (p.sig f).1.params, sv (p.sig f).1.results, sv (p.sig f).1.locals, .bool (p.sig f).2]) ∧ ∃ n, w' = w.drewN n := by
  have c4 := h.here.cell 4
  simp at c4
  by_cases h0 : f < 0
  · have e0 : p.sig f = (⟨[], [], []⟩, false) := by unfold ProgD.sig; rw [if_pos h0]
    rw [e0]
    clear e0 h
    go_enter Tryz.func43, Tryz.ntmps43
    go_wp2
    (try simp only [Exit.inBlock, Exit.then]); refine bodyPost_ret (results_tmp4 rfl _ _ _) rfl ?_
    exact ⟨rfl, 0, rfl⟩
  · obtain ⟨j, rfl⟩ : ∃ j : Nat, f = j := ⟨f.toNat, by omega⟩
    by_cases h1 : p.funs.length ≤ j
    · have e0 : p.sig j = (⟨[], [], []⟩, false) := by unfold ProgD.sig; rw [if_neg h0, List.getElem?_eq_none (by simpa using h1)]
      rw [e0]
      clear e0 h
      go_enter Tryz.func43, Tryz.ntmps43
      go_wp2
      (try simp only [Exit.inBlock, Exit.then]); refine bodyPost_ret (results_tmp4 rfl _ _ _) rfl ?_
      exact ⟨rfl, 0, rfl⟩
    · obtain ⟨u, hu⟩ : ∃ u, p.funs[j]? = some u := ⟨_, List.getElem?_eq_getElem (by omega)⟩
      have e0 : p.sig j = (u, true) := by
        unfold ProgD.sig
        rw [if_neg h0]
        simp [hu]
      rw [e0]
      obtain ⟨g, cv, hfa, hcv, hcells, _, _⟩ := h.at hu
      have d0 := hcells 0 (by omega)
      have d1 := hcells 1 (by omega)
      have d2 := hcells 2 (by omega)
      simp [mfunCells] at d0 d1 d2
      clear hcells
      rw [hfa] at c4
      have hrow := h.row
      rw [hfa] at hrow
      have hgl := owns_lt hrow g rfl
      clear e0 h hrow hu hcv hfa
      go_enter Tryz.func43, Tryz.ntmps43
      go_wp2
      go_quiet (fail)
      go_wp2
      (try simp only [Exit.inBlock, Exit.then]); refine bodyPost_ret (results_tmp4 rfl _ _ _) rfl ?_
      exact ⟨rfl, _, rfl⟩
end
set_option maxRecDepth 100000 in
set_option maxHeartbeats 2000000 in
theorem mat_any (S : Nat → Prop) (bp : Nat) (L : MPL) (p : ProgD) (srcs : List (List Ins)) (f pc : Int) (w : World) (h : MProg S w bp L p srcs) (hl : p.codes.length ≤ 1000) (hcl : ∀ c ∈ p.codes, c.length ≤ 1000) (hs0 : 0 ≤ p.steps) (hs1 : p.steps ≤ 1000000000000000000) :
    Calls Tryz.prog 46 #[.pointer (some ⟨bp, 0, Option.none⟩), .int .i64 f, .int .i64 pc] w fun e w' => e = .returned (p.at f pc).val ∧ MProg S w' bp L { p with steps := p.steps + 1 } srcs ∧ Fr (fun k => k = bp) w w' := by
  have c3 := h.here.cell 3
  have c4 := h.here.cell 4
  simp at c3 c4
  have f3 := h.here.frozen 3
  have hb := h.here.lt
  have hb1 : bp < w.heap.size + 1 := by omega
  have hne0 : bp ≠ w.heap.size := by omega
  have hcf := h.cl
  have hfl : p.funs.length ≤ 1000 := by omega
  have H : Hid (∀ o, _) := h.counted (p.steps + 1)
  by_cases h0 : f < 0
  · have e0 : p.at f pc = Flat.none := by unfold ProgD.at; rw [if_pos (.inl h0)]
    rw [e0]
    clear h e0
    go_enter Tryz.func46, Tryz.ntmps46
    go_wp2
    (try simp only [Exit.inBlock, Exit.then])
    refine bodyPost_ret (mat_res _ _ w.heap.size _ _ _ _ rfl (Has.newSet _ _ _ _ _)) rfl ?_
    exact ⟨rfl, H.out _⟩
  · obtain ⟨j, rfl⟩ : ∃ j : Nat, f = j := ⟨f.toNat, by omega⟩
    by_cases h1 : p.funs.length ≤ j
    · have e0 : p.at j pc = Flat.none := by
        unfold ProgD.at
        split
        · rfl
        · rw [List.getElem?_eq_none (by simp; omega)]
      rw [e0]
      clear h e0
      go_enter Tryz.func46, Tryz.ntmps46
      go_wp2
      (try simp only [Exit.inBlock, Exit.then])
      refine bodyPost_ret (mat_res _ _ w.heap.size _ _ _ _ rfl (Has.newSet _ _ _ _ _)) rfl ?_
      exact ⟨rfl, H.out _⟩
    · have h2 : j < p.funs.length := by omega
      by_cases h3 : pc < 0
      · have e0 : p.at j pc = Flat.none := by unfold ProgD.at; rw [if_pos (.inr h3)]
        rw [e0]
        clear h e0
        go_enter Tryz.func46, Tryz.ntmps46
        go_wp2
        (try simp only [Exit.inBlock, Exit.then])
        refine bodyPost_ret (mat_res _ _ w.heap.size _ _ _ _ rfl (Has.newSet _ _ _ _ _)) rfl ?_
        exact ⟨rfl, H.out _⟩
      · obtain ⟨k, rfl⟩ : ∃ k : Nat, pc = k := ⟨pc.toNat, by omega⟩
        obtain ⟨u, hu⟩ : ∃ u, p.funs[j]? = some u := ⟨_, List.getElem?_eq_getElem h2⟩
        obtain ⟨c, hc⟩ : ∃ c, p.codes[j]? = some c := ⟨_, List.getElem?_eq_getElem (by omega)⟩
        obtain ⟨g, vv, hfa, hcv, hcells, _, _⟩ := h.at hu
        have d3 := hcells 4 (by omega)
        simp [mfunCells] at d3
        have hco := h.code j vv c hcv hc
        obtain ⟨cv, hcvv⟩ : ∃ cv, cv = vv.2 := ⟨_, rfl⟩
        rw [← hcvv] at d3 hco
        clear hcells hcvv
        have hcl' := hcl c (List.mem_of_getElem? hc)
        have hrow := h.row
        rw [hfa] at hrow c4
        have hgl := owns_lt hrow g rfl
        have hgl1 : g < w.heap.size + 1 := by omega
        have hgb : g ≠ bp := fun e => owns_ne hrow h.here (by decide) (by rw [e]; rfl)
        have hgb' : bp ≠ g := fun e => hgb e.symm
        obtain ⟨ca, cc, hcs⟩ : ∃ ca cc, cv = .slice ca c.length cc := by
          rcases hco.2 with ⟨h1, h2⟩ | ⟨g, cap, cur, h1, _⟩
          · exact ⟨Option.none, 0, by rw [h1, h2]⟩
          · exact ⟨_, _, h1⟩
        rw [hcs] at d3 hco
        clear hrow
        by_cases h4 : c.length ≤ k
        · have e0 : p.at j k = Flat.none := by
            unfold ProgD.at
            rw [if_neg (by omega)]
            simp [hc, h4]
          rw [e0]
          clear h hco e0 hcs hc hu hcv hcl
          go_enter Tryz.func46, Tryz.ntmps46
          go_wp2
          (try simp only [Exit.inBlock, Exit.then])
          refine bodyPost_ret (mat_res _ _ w.heap.size _ _ _ _ rfl (Has.newSet _ _ _ _ _)) rfl ?_
          exact ⟨rfl, H.out _⟩
        · have h5 : k < c.length := by omega
          obtain ⟨x, hx⟩ : ∃ x, c[k]? = some x := ⟨_, List.getElem?_eq_getElem h5⟩
          have e0 : p.at j k = x := by
            unfold ProgD.at
            rw [if_neg (by omega)]
            simp [hc, hx]
          obtain ⟨g2, hg2, hc2⟩ := owns_some hco (by omega)
          subst hg2
          have q0 := hc2 (k * 4 + 0) (by omega)
          have q1 := hc2 (k * 4 + 1) (by omega)
          have q2 := hc2 (k * 4 + 2) (by omega)
          have q3 := hc2 (k * 4 + 3) (by omega)
          rw [flatCells_at _ _ _ x hx (by omega)] at q0 q1 q2 q3
          simp [Flat.cells] at q0 q1 q2 q3
          have hgl2 := owns_lt hco g2 rfl
          have hgl3 : g2 < w.heap.size + 1 := by omega
          have hgb2 : g2 ≠ bp := fun e => owns_ne hco h.here (by decide) (by rw [e]; rfl)
          have hgb3 : bp ≠ g2 := fun e => hgb2 e.symm
          rw [e0]
          clear h hco hc2 e0 hcs hc hu hcv hcl hx
          go_enter Tryz.func46, Tryz.ntmps46
          go_wp2
          (try simp only [Exit.inBlock, Exit.then])
          refine bodyPost_ret (mat_res _ _ w.heap.size _ _ _ _ rfl (Has.newSet _ _ _ _ _)) rfl ?_
          exact ⟨rfl, H.out _⟩
end Go.Proofs.Qxb6500576aGreatDoor
