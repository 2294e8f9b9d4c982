/-
  THE WALKS of compm: pushBool, pushStr, finish, burn, back.
-/
import Derived.Test.Qxb6500574aGreatDoorZC3
namespace Go.Proofs.Qxb6500574aGreatDoor
open Go Go.RowKit
set_option linter.unusedVariables false
set_option linter.unusedSimpArgs false
section
variable {w : World} {A : RnP} {N : List Nd} {root j : Nat} {m : MD} {T : MTh} {x : XtP}
theorem MRep.rc (h : MRep w A N root m) (i : Nat) {v : Value} (e : (rnV A N root m)[i]? = some v) : w.cell? ⟨A.br, i, none⟩ = some v := by rw [h.run.has.cell]; exact e
theorem up_push (m : MD) (a b : List Vl) (hc : m.cur < m.ths.length) : (m.push a).push b = m.push (a ++ b) := by
  unfold MD.push MD.upT MD.th
  simp [List.getD_eq_getElem?_getD, hc, List.append_assoc]
set_option maxRecDepth 100000
set_option maxHeartbeats 1000000
theorem pushBool_m (h : MRep w A N root m) (hc : m.cur < m.ths.length) (b : Bool) (hl : m.th.vals.length ≤ 1000000) : Calls Tryz.prog 204 #[.pointer (some ⟨A.br, 0, none⟩), .bool b] w (PQm w A N root (m.push [boolV b])) := by
  have C := push_m h hc (boolV b) hl
  cases b
  · have HC : Hid (Calls Tryz.prog 124 #[.pointer (some ⟨A.br, 0, none⟩), .agg #[.int .i64 1, .int .u64 0, sv []]] w (PQm w A N root (m.push [boolV false]))) := C
    clear C h hc hl
    obtain ⟨Q, HQ⟩ : ∃ Q : Ending → World → Prop, Hid (PQm w A N root (m.push [boolV false]) = Q) := ⟨_, rfl⟩
    rw [HQ.out] at HC ⊢
    have HQR : Hid (∀ e w', Q e w' → e = .returned (.tuple #[])) := fun e w' h => by rw [← HQ.out] at h; exact h.1
    clear HQ
    go_enter Tryz.func204, Tryz.ntmps204
    go_wp2_with fail
    refine HC.out.mono ?_
    intro e w' hq
    obtain rfl := HQR.out _ _ hq
    have HQ2 := hid hq
    clear hq
    go_wp2
    go_end0
    exact HQ2.out
  · have HC : Hid (Calls Tryz.prog 124 #[.pointer (some ⟨A.br, 0, none⟩), .agg #[.int .i64 1, .int .u64 1, sv []]] w (PQm w A N root (m.push [boolV true]))) := C
    clear C h hc hl
    obtain ⟨Q, HQ⟩ : ∃ Q : Ending → World → Prop, Hid (PQm w A N root (m.push [boolV true]) = Q) := ⟨_, rfl⟩
    rw [HQ.out] at HC ⊢
    have HQR : Hid (∀ e w', Q e w' → e = .returned (.tuple #[])) := fun e w' h => by rw [← HQ.out] at h; exact h.1
    clear HQ
    go_enter Tryz.func204, Tryz.ntmps204
    go_wp2_with fail
    refine HC.out.mono ?_
    intro e w' hq
    obtain rfl := HQR.out _ _ hq
    have HQ2 := hid hq
    clear hq
    go_wp2
    refine bodyPost_ret (results_none rfl _ _ _) rfl ?_
    exact HQ2.out
theorem pushStr_m (h : MRep w A N root m) (hc : m.cur < m.ths.length) (s : Bs) (hl : m.th.vals.length ≤ 1000000) : Calls Tryz.prog 188 #[.pointer (some ⟨A.br, 0, none⟩), sv s] w (PQm w A N root (m.push [strV s])) := by
  have C := push_m h hc (strV s) hl
  have HC : Hid (Calls Tryz.prog 124 #[.pointer (some ⟨A.br, 0, none⟩), .agg #[.int .i64 3, .int .u64 0, sv s]] w (PQm w A N root (m.push [strV s]))) := C
  clear C h hc hl
  obtain ⟨Q, HQ⟩ : ∃ Q : Ending → World → Prop, Hid (PQm w A N root (m.push [strV s]) = Q) := ⟨_, rfl⟩
  rw [HQ.out] at HC ⊢
  have HQR : Hid (∀ e w', Q e w' → e = .returned (.tuple #[])) := fun e w' h => by rw [← HQ.out] at h; exact h.1
  clear HQ
  go_enter Tryz.func188, Tryz.ntmps188
  go_wp2_with fail
  refine HC.out.mono ?_
  intro e w' hq
  obtain rfl := HQR.out _ _ hq
  have HQ2 := hid hq
  clear hq
  go_wp2
  go_end0
  exact HQ2.out
theorem finish_m (h : MRep w A N root m) (e : Nat) (tail : Bs) {e' : Int} (he : e' = e) : Calls Tryz.prog 189 #[.pointer (some ⟨A.br, 0, none⟩), .int .i64 e', sv tail] w (PQm w A N root (m.finish e tail)) := by
  subst he
  have l1 := h.run.has.lt
  have c13 : w.cell? ⟨A.br, 13, none⟩ = some (.int .i64 m.fuel) := h.rc 13 rfl
  have c14 : w.cell? ⟨A.br, 14, none⟩ = some (.int .i64 m.first) := h.rc 14 rfl
  have c15 : w.cell? ⟨A.br, 15, none⟩ = some (sv m.out) := h.rc 15 rfl
  have c16 : w.cell? ⟨A.br, 16, none⟩ = some (.bool m.done.isSome) := h.rc 16 rfl
  have c17 : w.cell? ⟨A.br, 17, none⟩ = some (.int .i64 A.an.e) := h.rc 17 rfl
  have c18 : w.cell? ⟨A.br, 18, none⟩ = some (.int .i64 A.an.n) := h.rc 18 rfl
  have c19 : w.cell? ⟨A.br, 19, none⟩ = some (.int .i64 A.an.m) := h.rc 19 rfl
  have c20 : w.cell? ⟨A.br, 20, none⟩ = some (sv A.an.s) := h.rc 20 rfl
  have c21 : w.cell? ⟨A.br, 21, none⟩ = some (sv A.an.t) := h.rc 21 rfl
  have fz := h.run.has.frozen
  have f16 := fz 16
  have f17 := fz 17
  have f18 := fz 18
  have f19 := fz 19
  have f20 := fz 20
  have f21 := fz 21
  obtain ⟨p1, p2⟩ := h.run.put 16 (.bool true) (cs' := rnV A N root { m with done := some A.an }) rfl
  obtain ⟨q1, q2⟩ := p1.put 17 (.int .i64 e) rfl
  obtain ⟨r1, r2⟩ := q1.put 18 (.int .i64 m.fuel) rfl
  obtain ⟨s1, s2⟩ := r1.put 19 (.int .i64 m.first) rfl
  obtain ⟨t1, t2⟩ := s1.put 20 (sv m.out) rfl
  obtain ⟨u1, u2⟩ := t1.put 21 (sv tail) rfl
  obtain ⟨z1, z2⟩ := h.scal ((((((p2.trans q2).trans r2).trans s2).trans t2).trans u2)) (sk := A.sk) (an := ⟨e, m.fuel, m.first, m.out, tail⟩) (m' := m.finish e tail) u1.has rfl rfl rfl rfl h.skl h.sk (fun a ha => Option.some.inj ha)
  obtain ⟨Q, HQ⟩ : ∃ Q : Ending → World → Prop, Hid (PQm w A N root (m.finish e tail) = Q) := ⟨_, rfl⟩
  rw [HQ.out]
  have FIN : Hid (Q (.returned (.tuple #[])) ((((((w.setCell ⟨A.br, 16, none⟩ (.bool true)).setCell ⟨A.br, 17, none⟩ (.int .i64 e)).setCell ⟨A.br, 18, none⟩ (.int .i64 m.fuel)).setCell ⟨A.br, 19, none⟩ (.int .i64 m.first)).setCell ⟨A.br, 20, none⟩ (sv m.out)).setCell ⟨A.br, 21, none⟩ (sv tail)).drew) := by
    show Q _ _
    rw [← HQ.out]
    exact ⟨rfl, _, z1.drew, z2.drew⟩
  clear p1 p2 q1 q2 r1 r2 s1 s2 t1 t2 u1 u2 z1 z2 HQ fz h
  go_enter Tryz.func189, Tryz.ntmps189
  go_wp2
  refine wp_region_tail 16 (by kernel_rfl) (by kernel_rfl) (fun _ _ _ _ _ h => h) ?_
  simp only [List.take_succ_cons, List.take_zero, List.drop_succ_cons, List.drop_zero]
  repeat go_big_quiet_step (fail)
  refine wpQuiet_nil ?_
  go_wp2
  go_end0
  exact FIN.out
/-- what burn comes to -/
def BQm (w : World) (A : RnP) (N : List Nd) (root : Nat) (b : Bool) (m' : MD) (e : Ending) (w' : World) : Prop := e = .returned (.bool b) ∧ ∃ A', MRep w' A' N root m' ∧ MSt w A w' A'
theorem mburn_no (h : MRep w A N root m) (h0 : m.fuel = 0) : Calls Tryz.prog 120 #[.pointer (some ⟨A.br, 0, none⟩)] w (BQm w A N root false (m.finish 9 [45])) := by
  have HC := hid (finish_m h 9 [45] (e' := 9) rfl)
  have l1 := h.run.has.lt
  have c13 : w.cell? ⟨A.br, 13, none⟩ = some (.int .i64 m.fuel) := h.rc 13 rfl
  rw [h0] at c13
  clear h h0
  go_enter Tryz.func120, Tryz.ntmps120
  go_wp2_with fail
  refine HC.out.mono ?_
  rintro e w' ⟨rfl, A', q1, q2⟩
  have HQ1 := hid q1
  have HQ2 := hid q2
  clear q1 q2
  go_wp2
  go_ret
  exact ⟨rfl, A', HQ1.out, HQ2.out⟩
theorem mburn_yes (h : MRep w A N root m) {f : Nat} (h0 : m.fuel = f + 1) (hf : f < 9223372036854775807) : Calls Tryz.prog 120 #[.pointer (some ⟨A.br, 0, none⟩)] w (BQm w A N root true { m with fuel := f }) := by
  have l1 := h.run.has.lt
  have c13 : w.cell? ⟨A.br, 13, none⟩ = some (.int .i64 m.fuel) := h.rc 13 rfl
  rw [h0] at c13
  have f13 := h.run.has.frozen 13
  obtain ⟨p1, p2⟩ := h.run.put 13 (.int .i64 f) rfl
  obtain ⟨z1, z2⟩ := h.scal p2 (sk := A.sk) (an := A.an) (m' := { m with fuel := f }) p1.has rfl rfl rfl rfl h.skl h.sk h.don
  have FIN : Hid (∃ A', MRep (w.setCell ⟨A.br, 13, none⟩ (.int .i64 f)) A' N root { m with fuel := f } ∧ MSt w A (w.setCell ⟨A.br, 13, none⟩ (.int .i64 f)) A') := ⟨_, z1, z2⟩
  clear p1 p2 z1 z2 h h0
  have e1 : (f : Int) + 1 - 1 = f := by omega
  have e2 : ((f : Int) + 1 == 0) = false := by rw [beq_eq_false_iff_ne]; omega
  go_enter Tryz.func120, Tryz.ntmps120
  go_wp2
  go_ret
  exact ⟨rfl, FIN.out⟩
end
end Go.Proofs.Qxb6500574aGreatDoor
