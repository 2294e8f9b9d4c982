/-
  THE WALKS of preplaw.Fetch and Jump.
-/
import Derived.Test.Qxb6500576aDoorReg3
import Derived.Test.Qxb6500576aDoorProgOps
import Derived.Test.Qxb6500576aDoorLaw4
import Derived.Test.Qxb6500576aDoorNewReg
import Derived.Test.Qxb6500576aDoorDoNew
namespace Go.Proofs.Qxb6500576aDoor
open Go Go.RowKit
set_option linter.unusedVariables false
set_option linter.unusedSimpArgs false

/-- preplaw.Jump -/
structure JumpOk (pc n : Int) (c : Flat) : Prop where
  i0 : 0 ≤ c.imm
  i1 : c.imm < n
  k0 : 0 ≤ c.keep
  k1 : c.keep ≤ 1
  c0 : 0 ≤ c.cut
  c1 : c.cut ≤ 24
  back : pc < c.imm ∨ c.keep = 0
set_option maxRecDepth 100000 in
set_option maxHeartbeats 2000000 in
theorem jumpLaw_any (c : Flat) (pc n : Int) (h : JumpOk pc n c) (w : World) :
    Calls Tryd.prog 38 #[c.val, .int .i64 pc, .int .i64 n] w fun e w' => e = .returned (.bool true) ∧ Fr (fun _ => False) w w' := by
  obtain ⟨op, imm, keep, cut⟩ := c
  obtain ⟨i0, i1, k0, k1, c0, c1, hb⟩ := h
  simp only at i0 i1 k0 k1 c0 c1 hb
  unfold Flat.val
  simp only
  by_cases h1 : pc < imm
  · clear hb
    go_enter Tryd.func38, Tryd.ntmps38
    go_wp2
    go_ret
    exact ⟨rfl, (Fr.refl _ _).alloc _⟩
  · have hk : keep = 0 := by rcases hb with h | h; exact absurd h h1; exact h
    subst hk
    clear hb
    go_enter Tryd.func38, Tryd.ntmps38
    go_wp2
    go_ret
    exact ⟨rfl, (Fr.refl _ _).alloc _⟩

theorem results_cell_tmp2 {fn : Func} {p u : Tmp} {ty : TypeId} (h : fn.results = #[.cell p ty, .tmp u]) (tmps : Array Value) (P : Program) (w : World) :
    (results fn tmps).run P w =
      ((asAddr (tmps.getD p undef)).run P w).andThen fun a w₁ => ((loadVar ty a).run P w₁).andThen fun v w₂ => .ok (.tuple #[v, tmps.getD u undef]) w₂ := by
  simp only [results, h]
  simp [Sem.run_bind, Result.andThen]
theorem fetch_res (tmps : Array Value) (w : World) (b : Nat) (x y z u : Value) (hp : tmps.getD 6 undef = .pointer (some ⟨b, 0, none⟩)) (hb : Has w b #[x, y, z, u] 45) :
    (results Tryd.f37 tmps).run Tryd.prog w = .ok (.tuple #[.agg #[x, y, z, u], tmps.getD 7 undef]) w := by
  rw [results_cell_tmp2 (p := 6) (u := 7) (ty := 45) rfl]
  rw [hp]
  simp only [asAddr, Sem.run_pure, Result.andThen_ok]
  obtain ⟨fs, hu⟩ : ∃ fs, Tryd.prog.underlying 45 = some (.struct fs) := by
    have hk : (match Tryd.prog.underlying 45 with | some (.struct _) => true | _ => false) = true := by kernel_rfl
    split at hk
    · rename_i fs he
      exact ⟨fs, he⟩
    · cases hk
  rw [run_loadVar_row w b 45 45 #[x, y, z, u] _ _ hb hu rfl (by kernel_rfl)]
  rfl

theorem wpQ_loadFlat {ops : Array Oper} {C : World → Prop} {T : Act → Prop} {a : Act} {o : Oper} {rest : List Oper} (hg : o.guard = none) (x : Operand) (b : Nat) (v0 v1 v2 v3 : Value) (ho : o.op = .load 45 x) (hx : a.eval x = .pointer (some ⟨b, 0, none⟩)) (hC : ∀ w, C w → Has w b #[v0, v1, v2, v3] 45)
    (h : wpQuiet Tryd.prog ops C T rest (a.put o.dst (.agg #[v0, v1, v2, v3]))) : wpQuiet Tryd.prog ops C T (o :: rest) a := by
  refine wpQuiet_step (fun K hK => ?_)
  rw [if_pos (by simp [Region.wanted, hg])]
  refine ⟨.agg #[v0, v1, v2, v3], fun w hw => ?_, hK _ h⟩
  obtain ⟨fs, hu⟩ : ∃ fs, Tryd.prog.underlying 45 = some (.struct fs) := by
    have hk : (match Tryd.prog.underlying 45 with | some (.struct _) => true | _ => false) = true := by kernel_rfl
    split at hk
    · rename_i fs he
      exact ⟨fs, he⟩
    · cases hk
  have hld := run_loadVar_row w b 45 45 #[v0, v1, v2, v3] _ _ (hC w hw) hu rfl (by kernel_rfl)
  unfold Oper.quietAt
  have : (execOp a.eval o).run Tryd.prog w = .ok (.value (.agg #[v0, v1, v2, v3])) w := by
    simp [execOp, ho, hx, Instr.loadAt, Instr.sureAddr, Sem.run_bind, hld]
  rw [this]
  exact ⟨rfl, rfl⟩
set_option maxRecDepth 100000 in
set_option maxHeartbeats 4000000 in
theorem fetch_any (S : Nat → Prop) (bp : Nat) (L : ProgL) (p : ProgD) (f pc : Int) (w : World) (h : ProgRep S w bp L p) (hl : p.codes.length ≤ 1000) (hcl : ∀ c ∈ p.codes, c.length ≤ 1000) (hs0 : 0 ≤ p.steps) (hs1 : p.steps ≤ 1000000000) (hSl : ∀ k, S k → k < w.heap.size) :
    Calls Tryd.prog 37 #[.pointer (some ⟨bp, 0, none⟩), .int .i64 f, .int .i64 pc] w fun e w' => e = .returned (.tuple #[(p.at f pc).val, .bool true]) ∧ ProgRep S w' bp L { p with steps := p.steps + 1 } ∧ Fr (fun k => k = bp) w w' := by
  have hbl := h.funs.here.lt
  obtain ⟨W, hW⟩ : ∃ W, W = w.alloc (.cells #[.int .i64 0, .int .i64 0, .int .i64 0, .int .i64 0] 45) := ⟨_, rfl⟩
  have F0 : Fr (fun _ => False) w W := by rw [hW]; exact (Fr.refl _ w).alloc _
  have kR : Has W w.heap.size #[.int .i64 0, .int .i64 0, .int .i64 0, .int .i64 0] 45 := by rw [hW]; exact Has.new w _ _
  have HR : Hid (ProgRep S W bp L p) := h.fresh F0
  have HC : Hid (Calls _ _ _ _ _) := steps_any S bp L p W HR.out
  have HA : Hid (Calls _ _ _ _ _) := at_any S bp L p f pc W HR.out hl hcl hs0 (by omega)
  rw [hW] at HC HA
  generalize p.at f pc = fl at *
  obtain ⟨f1, f2, f3, f4⟩ := fl
  unfold Flat.val at HA ⊢
  simp only at HA ⊢
  have HK : Hid (Has W w.heap.size _ _) := kR
  have HF : Hid (Fr (fun _ => False) w W) := F0
  clear h kR F0
  go_enter Tryd.func37, Tryd.ntmps37
  go_wp2_with fail
  refine HC.out.mono ?_
  rintro e w1 ⟨rfl, hw1⟩
  subst hw1
  clear HC
  go_wp2_with fail
  refine HA.out.mono ?_
  rintro e w2 ⟨rfl, g1, g2⟩
  rw [← hW] at g2
  have hs2 : w.heap.size < w2.heap.size := by have := g2.size; rw [hW] at this; simp at this; omega
  have kR2 : Has w2 w.heap.size _ _ := HK.out.fr g2 (fun e => by omega)
  have k9 : Has (w2.alloc (.cells #[.int .i64 f1, .int .i64 f2, .int .i64 f3, .int .i64 f4] 45)) w2.heap.size _ _ := Has.new w2 _ _
  have HKR : Hid (Has (w2.alloc (.cells #[.int .i64 f1, .int .i64 f2, .int .i64 f3, .int .i64 f4] 45)) w.heap.size _ _) := kR2.alloc _
  have HR2 : Hid (ProgRep S (w2.alloc (.cells #[.int .i64 f1, .int .i64 f2, .int .i64 f3, .int .i64 f4] 45)) bp L _) := g1.fresh ((Fr.refl _ w2).alloc _)
  have HF2 : Hid (Fr (fun k => k = bp) w (w2.alloc (.cells #[.int .i64 f1, .int .i64 f2, .int .i64 f3, .int .i64 f4] 45))) := ((HF.out.weaken (fun _ _ h => h.elim)).trans g2 (fun _ _ h => h)).alloc _
  have HK9 : Hid (Has (w2.alloc (.cells #[.int .i64 f1, .int .i64 f2, .int .i64 f3, .int .i64 f4] 45)) w2.heap.size _ _) := k9
  clear g1 g2 HA HK HF HR kR2 k9 hW
  go_wp2
  refine wp_region_two [0, 1, 3, 4] 2 [5] 6 (fun x => Has x w2.heap.size #[.int .i64 f1, .int .i64 f2, .int .i64 f3, .int .i64 f4] 45) (by kernel_rfl) (by kernel_rfl) (fun _ _ _ _ _ h => h) HK9.out.drew [_, _, _, _] rfl _ rfl [_] rfl ?_
  refine wpQ_loadFlat rfl (.tmp 9) _ _ _ _ _ rfl rfl (fun _ h => h) ?_
  simp only [Act.put, List.setIfInBounds_toArray, List.set_cons_succ, List.set_cons_zero]
  repeat (first | go_big_quiet_step (fail) | (refine wpQuiet_step (fun K hK => ?_); go_simp; refine ⟨_, fun _ _ => rfl, hK _ ?_⟩; clear hK K))
  refine wpQuiet_nil ?_
  have hwr : IntKind.i64.wrap (p.steps + 1) = p.steps + 1 := by rw [IntKind.wrap_i64]; omega
  rw [hwr]
  have HS : Hid (Calls _ _ _ _ _) := steps_any S bp L _ (w2.alloc (.cells #[.int .i64 f1, .int .i64 f2, .int .i64 f3, .int .i64 f4] 45)).drew (HR2.out.fresh ((Fr.refl _ _).drew))
  simp only at HS
  go_wp2_with fail
  refine HS.out.mono ?_
  rintro e w4 ⟨rfl, hw4⟩
  have K4 : Has w4 w2.heap.size #[.int .i64 f1, .int .i64 f2, .int .i64 f3, .int .i64 f4] 45 := by rw [hw4]; exact HK9.out.drew
  have KR4 : Has w4 w.heap.size #[.int .i64 0, .int .i64 0, .int .i64 0, .int .i64 0] 45 := by rw [hw4]; exact HKR.out.drew
  have HR4 : Hid (ProgRep S w4 bp L { p with steps := p.steps + 1 }) := by rw [hw4]; exact HR2.out.fresh ((Fr.refl _ _).drew)
  have HF4 : Hid (Fr (fun k => k = bp) w w4) := by rw [hw4]; exact HF2.out.drew
  have HK4 : Hid (Has w4 w2.heap.size #[.int .i64 f1, .int .i64 f2, .int .i64 f3, .int .i64 f4] 45) := K4
  have HKR4 : Hid (Has w4 w.heap.size #[.int .i64 0, .int .i64 0, .int .i64 0, .int .i64 0] 45) := KR4
  have x0 := KR4.cell 0
  have x1 := KR4.cell 1
  have x2 := KR4.cell 2
  have x3 := KR4.cell 3
  simp at x0 x1 x2 x3
  have y0 := KR4.frozen 0
  have y1 := KR4.frozen 1
  have y2 := KR4.frozen 2
  have y3 := KR4.frozen 3
  have yl := KR4.lt
  clear hw4 HS HR2 HF2 HKR HK9 K4 KR4
  go_wp2
  refine ⟨HK4.out, ?_⟩
  simp only [List.getElem_toArray, List.getElem_cons_succ, List.getElem_cons_zero]
  repeat (first | go_big_quiet_step (fail) | (refine wpQuiet_step (fun K hK => ?_); go_simp; refine ⟨_, fun _ _ => rfl, hK _ ?_⟩; clear hK K))
  refine wpQuiet_nil ?_
  simp only [List.drop_succ_cons, List.drop_zero, List.length_cons, List.length_nil]
  obtain ⟨g1, g2⟩ := HKR4.out.put4 (.int .i64 f1) (.int .i64 f2) (.int .i64 f3) (.int .i64 f4)
  have HG1 : Hid (Has _ w.heap.size _ _) := g1
  have HG2 : Hid (Has _ w2.heap.size _ _) := HK4.out.fr g2 (fun e => by omega)
  have HG3 : Hid (ProgRep S _ bp L { p with steps := p.steps + 1 }) := HR4.out.fr g2 (fun k hk hs e => by have := hSl k hs; omega)
  have HG4 : Hid (Fr (fun k => k = bp) w _) := HF4.out.trans g2 (fun j hj e => by omega)
  clear g1 g2 HR4 HF4 HK4 HKR4
  show wpList _ _ _ [_] _ _
  go_wp2
  refine ⟨HG2.out, ?_⟩
  show wpList _ _ _ [_] _ _
  go_wp2
  refine ⟨HG2.out, ?_⟩
  show wpList _ _ _ [] _ _
  go_wp2
  (try simp only [Exit.inBlock, Exit.then])
  refine bodyPost_ret (fetch_res _ _ w.heap.size _ _ _ _ rfl HG1.out) rfl ?_
  exact ⟨rfl, HG3.out, HG4.out⟩
end Go.Proofs.Qxb6500576aDoor
