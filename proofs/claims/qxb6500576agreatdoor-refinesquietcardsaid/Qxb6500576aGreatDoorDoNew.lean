/-
  THE WALK of preplaw.Do at KNew, the module accepted.
-/
import Derived.Test.Qxb6500576aGreatDoorBelow
import Derived.Test.Qxb6500576aGreatDoorAt
namespace Go.Proofs.Qxb6500576aGreatDoor
open Go Go.RowKit
set_option linter.unusedVariables false
set_option linter.unusedSimpArgs false

theorem results_tmp_cell {fn : Func} {p u : Tmp} {ty : TypeId} (h : fn.results = #[.tmp u, .cell p ty]) (tmps : Array Value) (P : Program) (w : World) :
    (results fn tmps).run P w =
      ((asAddr (tmps.getD p undef)).run P w).andThen fun a w₁ => ((loadVar ty a).run P w₁).andThen fun v w₂ => .ok (.tuple #[tmps.getD u undef, v]) w₂ := by
  simp only [results, h]
  simp [Sem.run_bind, Result.andThen]
theorem do_res (tmps : Array Value) (w : World) (b : Nat) (x y z u : Value) (hp : tmps.getD 7 undef = .pointer (some ⟨b, 0, none⟩)) (hb : Has w b #[x, y, z, u] 46) :
    (results Tryz.f12 tmps).run Tryz.prog w = .ok (.tuple #[tmps.getD 6 undef, .agg #[x, y, z, u]]) w := by
  rw [results_tmp_cell (p := 7) (u := 6) (ty := 46) rfl]
  rw [hp]
  simp only [asAddr, Sem.run_pure, Result.andThen_ok]
  obtain ⟨fs, hu⟩ : ∃ fs, Tryz.prog.underlying 46 = some (.struct fs) := by
    have hk : (match Tryz.prog.underlying 46 with | some (.struct _) => true | _ => false) = true := by kernel_rfl
    split at hk
    · rename_i fs he
      exact ⟨fs, he⟩
    · cases hk
  rw [run_loadVar_row w b 46 46 #[x, y, z, u] _ _ hb hu rfl (by kernel_rfl)]
  rfl

theorem Has.put4 {w : World} {b : Nat} {T : TypeId} {a0 a1 a2 a3 : Value} (h : Has w b #[a0, a1, a2, a3] T) (v0 v1 v2 v3 : Value) :
    Has ((((w.setCell ⟨b, 0, none⟩ v0).setCell ⟨b, 1, none⟩ v1).setCell ⟨b, 2, none⟩ v2).setCell ⟨b, 3, none⟩ v3) b #[v0, v1, v2, v3] T ∧
    Fr (fun k => k = b) w ((((w.setCell ⟨b, 0, none⟩ v0).setCell ⟨b, 1, none⟩ v1).setCell ⟨b, 2, none⟩ v2).setCell ⟨b, 3, none⟩ v3) := by
  refine ⟨by simpa using (((h.put 0 v0).put 1 v1).put 2 v2).put 3 v3, ?_⟩
  exact Fr.setCell (p := ⟨b, 3, none⟩) (Fr.setCell (p := ⟨b, 2, none⟩) (Fr.setCell (p := ⟨b, 1, none⟩) (Fr.setCell (S := fun k => k = b) (p := ⟨b, 0, none⟩) (Fr.refl _ w) (.inl rfl) v0) (.inl rfl) v1) (.inl rfl) v2) (.inl rfl) v3
structure AnsD where
  e : Int
  n : Int
  m : Int
  s : List UInt8
def AnsD.val (a : AnsD) : Value := .agg #[.int .i64 a.e, .int .i64 a.n, .int .i64 a.m, sv a.s]
def AnsD.zero : AnsD := ⟨0, 0, 0, []⟩

set_option maxRecDepth 100000 in
set_option maxHeartbeats 2000000 in
theorem do_new_ok (S : Nat → Prop) (bb : Nat) (K : BelL) (x : BelD) (o : OpD) (xp : Value) (w : World) (h : BelRep S w bb K x) (hk : o.kind = 7) (hS : ∀ k, S k → k < w.heap.size) (hok : ModOk x.m) (hbody : BodiesOk x.m) (hgood : x.m.load.2.2 = 0) :
    Calls Tryz.prog 12 #[xp, .pointer (some ⟨bb, 0, none⟩), o.val] w fun e w' => Fr (fun _ => False) w w' ∧ ∃ bp Lp, e = .returned (.tuple #[.pointer (some ⟨bp, 0, none⟩), AnsD.zero.val]) ∧ ProgRep (fun k => w.heap.size ≤ k) w' bp Lp x.m.prog := by
  obtain ⟨kind, oa, ob, oc, os, ot⟩ := o
  simp only at hk ⊢
  subst hk
  unfold OpD.val
  have c0 := h.here.cell 0
  simp at c0
  have hb := h.here.lt
  have hb1 : bb < w.heap.size + 1 := by omega
  have hb2 : bb < w.heap.size + 1 + 1 := by omega
  have HC : Hid (∀ w', BelRep S w' bb K x → (∀ k, S k → k < w'.heap.size) → _) := fun w' h' hS' => new_ok _ K.bm K.L x.m w' h'.mod (fun k hk => hS' k hk.1) hok hbody hgood
  have H : Hid (BelRep S w bb K x) := h
  clear h
  go_enter Tryz.func12, Tryz.ntmps12
  go_wp2_with fail
  have F0 : Fr (fun _ => False) w ((w.alloc (.cells #[.int .i64 7, .int .i64 oa, .int .i64 ob, .int .i64 oc, sv os, sv ot] 43)).alloc (.cells #[.int .i64 0, .int .i64 0, .int .i64 0, .string ⟨#[]⟩] 46)) := ((Fr.refl _ w).alloc _).alloc _
  have HB := H.out.newer F0
  have hSz : ∀ k, S k → k < ((w.alloc (.cells #[.int .i64 7, .int .i64 oa, .int .i64 ob, .int .i64 oc, sv os, sv ot] 43)).alloc (.cells #[.int .i64 0, .int .i64 0, .int .i64 0, .string ⟨#[]⟩] 46)).heap.size := fun k hk => by have := hS k hk; simp; omega
  have HX : Hid (Has ((w.alloc (.cells #[.int .i64 7, .int .i64 oa, .int .i64 ob, .int .i64 oc, sv os, sv ot] 43)).alloc (.cells #[.int .i64 0, .int .i64 0, .int .i64 0, .string ⟨#[]⟩] 46)) (w.heap.size + 1) #[.int .i64 0, .int .i64 0, .int .i64 0, .string ⟨#[]⟩] 46) := by
    have := Has.new (w.alloc (.cells #[.int .i64 7, .int .i64 oa, .int .i64 ob, .int .i64 oc, sv os, sv ot] 43)) #[.int .i64 0, .int .i64 0, .int .i64 0, .string ⟨#[]⟩] 46
    show Has _ _ _ _
    simpa using this
  refine (HC.out _ HB hSz).mono ?_
  rintro e w1 ⟨hF1, bp, Lp, rfl, hP⟩
  have HF1 : Hid (Fr _ w w1) := F0.trans hF1 (fun _ _ h => h)
  have hX1 : Has w1 (w.heap.size + 1) _ _ := HX.out.fr hF1 (fun h => h)
  have HX1 : Hid (Has w1 (w.heap.size + 1) _ _) := hX1
  have HP : Hid (ProgRep (fun k => w.heap.size + 2 ≤ k) w1 bp Lp _) := hP.sub (fun k _ hk => by simp at hk; omega)
  have x0 := hX1.cell 0
  have x1 := hX1.cell 1
  have x2 := hX1.cell 2
  have x3 := hX1.cell 3
  simp at x0 x1 x2 x3
  have y0 := hX1.frozen 0
  have y1 := hX1.frozen 1
  have y2 := hX1.frozen 2
  have y3 := hX1.frozen 3
  have yl := hX1.lt
  clear F0 HB hSz hF1 hX1 hP HC H HX
  go_wp2
  (try simp only [Exit.inBlock, Exit.then])
  obtain ⟨g1, g2⟩ := HX1.out.put4 (.int .i64 0) (.int .i64 0) (.int .i64 0) (.string ⟨#[]⟩)
  refine bodyPost_ret (do_res _ _ (w.heap.size + 1) _ _ _ _ rfl g1) rfl ?_
  refine ⟨HF1.out.trans g2 (fun j hj e => by omega), bp, Lp, rfl, ?_⟩
  exact (HP.out.fr g2 (fun k _ hk e => by omega)).sub (fun k _ hk => by omega)
end Go.Proofs.Qxb6500576aGreatDoor
