/-
  THE WALK of prep.Prog.At.
-/
import Derived.Test.Qxb6500575aGreatDoorNew
namespace Go.Proofs.Qxb6500575aGreatDoor
open Go Go.RowKit
set_option linter.unusedVariables false
set_option linter.unusedSimpArgs false

def Flat.none : Flat := ⟨-1, 0, 0, 0⟩
def ProgD.at (p : ProgD) (f pc : Int) : Flat :=
  if f < 0 ∨ pc < 0 then Flat.none else
  match p.codes[f.toNat]? with
  | Option.none => Flat.none
  | some c => (c[pc.toNat]?).getD Flat.none
def Flat.val (c : Flat) : Value := .agg #[.int .i64 c.op, .int .i64 c.imm, .int .i64 c.keep, .int .i64 c.cut]

theorem at_res (tmps : Array Value) (w : World) (b : Nat) (x y z u : Value) (hp : tmps.getD 6 undef = .pointer (some ⟨b, 0, Option.none⟩)) (hb : Has w b #[x, y, z, u] 176) :
    (results Tryz.f95 tmps).run Tryz.prog w = .ok (.agg #[x, y, z, u]) w := by
  obtain ⟨fs, hu⟩ : ∃ fs, Tryz.prog.underlying 176 = some (.struct fs) := by
    have hk : (match Tryz.prog.underlying 176 with | some (.struct _) => true | _ => false) = true := by kernel_rfl
    split at hk
    · rename_i fs he
      exact ⟨fs, he⟩
    · cases hk
  exact results_cell_row (p := 6) (ty := 176) rfl tmps w b 176 #[x, y, z, u] _ _ hp hb hu rfl (by kernel_rfl)

/-- a step counted -/
theorem ProgRep.count {S : Nat → Prop} {w : World} {bp : Nat} {L : ProgL} {p : ProgD} (h : ProgRep S w bp L p) (n : Int) :
    ProgRep S (w.setCell ⟨bp, 3, Option.none⟩ (.int .i64 n)) bp L { p with steps := n } ∧ Fr (fun k => k = bp) w (w.setCell ⟨bp, 3, Option.none⟩ (.int .i64 n)) :=
  h.putHead 3 (.int .i64 n) (p' := { p with steps := n }) (by decide) rfl rfl rfl

theorem ProgRep.counted {S : Nat → Prop} {w : World} {bp : Nat} {L : ProgL} {p : ProgD} (h : ProgRep S w bp L p) (n : Int) (o : Obj) :
    ProgRep S ((w.setCell ⟨bp, 3, Option.none⟩ (.int .i64 n)).alloc o) bp L { p with steps := n } ∧ Fr (fun k => k = bp) w ((w.setCell ⟨bp, 3, Option.none⟩ (.int .i64 n)).alloc o) :=
  ⟨(h.count n).1.fresh ((Fr.refl _ _).alloc o), (h.count n).2.alloc o⟩

set_option maxRecDepth 100000 in
set_option maxHeartbeats 2000000 in
theorem at_any (S : Nat → Prop) (bp : Nat) (L : ProgL) (p : ProgD) (f pc : Int) (w : World) (h : ProgRep S w bp L p) (hl : p.codes.length ≤ 1000) (hcl : ∀ c ∈ p.codes, c.length ≤ 1000) (hs0 : 0 ≤ p.steps) (hs1 : p.steps ≤ 1000000000000000000) :
    Calls Tryz.prog 95 #[.pointer (some ⟨bp, 0, Option.none⟩), .int .i64 f, .int .i64 pc] w fun e w' => e = .returned (p.at f pc).val ∧ ProgRep S w' bp L { p with steps := p.steps + 1 } ∧ Fr (fun k => k = bp) w w' := by
  have c3 := h.funs.here.cell 3
  have c4 := h.funs.here.cell 4
  simp at c3 c4
  have f3 := h.funs.here.frozen 3
  have hb := h.funs.here.lt
  have hb1 : bp < w.heap.size + 1 := by omega
  have hne0 : bp ≠ w.heap.size := by omega
  have hcf := h.clen
  have hfl : p.funs.length ≤ 1000 := by omega
  have H : Hid (∀ o, _) := h.counted (p.steps + 1)
  by_cases h0 : f < 0
  · have e0 : p.at f pc = Flat.none := by unfold ProgD.at; rw [if_pos (.inl h0)]
    rw [e0]
    clear h e0
    go_enter Tryz.func95, Tryz.ntmps95
    go_wp2
    (try simp only [Exit.inBlock, Exit.then])
    refine bodyPost_ret (at_res _ _ w.heap.size _ _ _ _ rfl (Has.newSet _ _ _ _ _)) rfl ?_
    exact ⟨rfl, H.out _⟩
  · obtain ⟨j, rfl⟩ : ∃ j : Nat, f = j := ⟨f.toNat, by omega⟩
    by_cases h1 : p.funs.length ≤ j
    · have e0 : p.at j pc = Flat.none := by
        unfold ProgD.at
        split
        · rfl
        · rw [List.getElem?_eq_none (by simp; omega)]
      rw [e0]
      clear h e0
      go_enter Tryz.func95, Tryz.ntmps95
      go_wp2
      (try simp only [Exit.inBlock, Exit.then])
      refine bodyPost_ret (at_res _ _ w.heap.size _ _ _ _ rfl (Has.newSet _ _ _ _ _)) rfl ?_
      exact ⟨rfl, H.out _⟩
    · have h2 : j < p.funs.length := by omega
      by_cases h3 : pc < 0
      · have e0 : p.at j pc = Flat.none := by unfold ProgD.at; rw [if_pos (.inr h3)]
        rw [e0]
        clear h e0
        go_enter Tryz.func95, Tryz.ntmps95
        go_wp2
        (try simp only [Exit.inBlock, Exit.then])
        refine bodyPost_ret (at_res _ _ w.heap.size _ _ _ _ rfl (Has.newSet _ _ _ _ _)) rfl ?_
        exact ⟨rfl, H.out _⟩
      · obtain ⟨k, rfl⟩ : ∃ k : Nat, pc = k := ⟨pc.toNat, by omega⟩
        obtain ⟨u, hu⟩ : ∃ u, p.funs[j]? = some u := ⟨_, List.getElem?_eq_getElem h2⟩
        obtain ⟨c, hc⟩ : ∃ c, p.codes[j]? = some c := ⟨_, List.getElem?_eq_getElem (by omega)⟩
        obtain ⟨g, cv, hfa, hcv, _, _, _, d3⟩ := h.funs.at hu
        have hco := h.codes j cv c hcv hc
        have hcl' := hcl c (List.mem_of_getElem? hc)
        have hrow := h.funs.row
        rw [hfa] at hrow c4
        have hgl := owns_lt hrow g rfl
        have hgl1 : g < w.heap.size + 1 := by omega
        have hgb : g ≠ bp := fun e => owns_ne hrow h.funs.here (by decide) (by rw [e]; rfl)
        have hgb' : bp ≠ g := fun e => hgb e.symm
        obtain ⟨ca, cc, hcs⟩ : ∃ ca cc, cv = .slice ca c.length cc := by
          rcases hco.2 with ⟨h1, h2⟩ | ⟨g, cap, cur, h1, _⟩
          · exact ⟨Option.none, 0, by rw [h1, h2]⟩
          · exact ⟨_, _, h1⟩
        rw [hcs] at d3 hco
        clear hrow
        by_cases h4 : c.length ≤ k
        · have e0 : p.at j k = Flat.none := by
            unfold ProgD.at
            rw [if_neg (by omega)]
            simp [hc, h4]
          rw [e0]
          clear h hco e0 hcs hc hu hcv hcl
          go_enter Tryz.func95, Tryz.ntmps95
          go_wp2
          (try simp only [Exit.inBlock, Exit.then])
          refine bodyPost_ret (at_res _ _ w.heap.size _ _ _ _ rfl (Has.newSet _ _ _ _ _)) rfl ?_
          exact ⟨rfl, H.out _⟩
        · have h5 : k < c.length := by omega
          obtain ⟨x, hx⟩ : ∃ x, c[k]? = some x := ⟨_, List.getElem?_eq_getElem h5⟩
          have e0 : p.at j k = x := by
            unfold ProgD.at
            rw [if_neg (by omega)]
            simp [hc, hx]
          obtain ⟨g2, hg2, hc2⟩ := owns_some hco (by omega)
          subst hg2
          have q0 := hc2 (k * 4 + 0) (by omega)
          have q1 := hc2 (k * 4 + 1) (by omega)
          have q2 := hc2 (k * 4 + 2) (by omega)
          have q3 := hc2 (k * 4 + 3) (by omega)
          rw [flatCells_at _ _ _ x hx (by omega)] at q0 q1 q2 q3
          simp [Flat.cells] at q0 q1 q2 q3
          have hgl2 := owns_lt hco g2 rfl
          have hgl3 : g2 < w.heap.size + 1 := by omega
          have hgb2 : g2 ≠ bp := fun e => owns_ne hco h.funs.here (by decide) (by rw [e]; rfl)
          have hgb3 : bp ≠ g2 := fun e => hgb2 e.symm
          rw [e0]
          clear h hco hc2 e0 hcs hc hu hcv hcl hx
          go_enter Tryz.func95, Tryz.ntmps95
          go_wp2
          (try simp only [Exit.inBlock, Exit.then])
          refine bodyPost_ret (at_res _ _ w.heap.size _ _ _ _ rfl (Has.newSet _ _ _ _ _)) rfl ?_
          exact ⟨rfl, H.out _⟩
end Go.Proofs.Qxb6500575aGreatDoor
