/-
  THE WALKS of compm: eval, functions.
-/
import Derived.Test.Qxb6500574aGreatDoorZC15
namespace Go.Proofs.Qxb6500574aGreatDoor
open Go Go.RowKit
set_option linter.unusedVariables false
set_option linter.unusedSimpArgs false
theorem rowClo : IsRow Tryz.prog 169 179 (.agg #[.int .i64 0, .pointer none]) 2 16 := ⟨by kernel_rfl, by kernel_rfl, rfl, by decide⟩
section
variable {w W W1 : World} {A A1 A2 : RnP} {N : List Nd} {root : Nat} {M : MD}
/-- one more closure -/
theorem MRep.cloApp (h : MRep W A1 N root M) (q : Nat × Option Nat) {w1 w2 : World} {g cap : Nat} (hf : Fr (fun _ => False) W w1)
    (q1 : w2.ownsRow 0 179 2 (.slice (some ⟨g, 0, none⟩) (M.clos.length + 1) cap) (M.clos.length + 1) (M.clos.flatMap (coV A1.E) ++ coV A1.E q)) (q2 : Fr (fun k => (A1.cl.v M.clos.length).ownBlock = some k) w1 w2) (q3 : (A1.cl.v M.clos.length).ownBlock = some g ∨ W.heap.size ≤ g) (q4 : g < w2.heap.size) :
    Has w2 A1.br (rnV A1 N root M) 173 ∧ ∃ A', MRep (w2.setCell ⟨A1.br, 4, none⟩ (.slice (some ⟨g, 0, none⟩) (M.clos.length + 1) cap)) A' N root { M with clos := M.clos ++ [q] } ∧ MSt W A1 (w2.setCell ⟨A1.br, 4, none⟩ (.slice (some ⟨g, 0, none⟩) (M.clos.length + 1) cap)) A' := by
  obtain ⟨r1, r2⟩ := h.clo.app hf q1 q2 q3 q4
  have hb := h.run.st r2 (by omega)
  obtain ⟨p1, p2⟩ := hb.put 4 (.slice (some ⟨g, 0, none⟩) (M.clos.length + 1) cap) (cs' := rnV { A1 with o := upd A1.o g 4, cl := ⟨some ⟨g, 0, none⟩, cap⟩ } N root { M with clos := M.clos ++ [q] }) (by simp [rnV])
  have t : Stp (fun l => l = 4 ∨ l = 1) W A1.o _ _ := (r2.weaken (fun l hl => .inl hl)).trans (p2.weaken (fun l hl => .inr hl))
  have l5 := h.l5
  refine ⟨hb.has, { A1 with o := upd A1.o g 4, cl := ⟨some ⟨g, 0, none⟩, cap⟩ }, ⟨p1, h.tab.st t (fun l hl => by unfold isTm at hl; omega), h.tabs, ?_, h.ths.st t (by omega), h.lx, h.l5, fun i U y a b => ?_, h.le, fun i e a => (h.env i e a).st t (by omega), h.nod.st t (by omega), h.skl, h.sk, h.don, t.hi h.own⟩, ⟨t.weaken (fun l hl => by omega), rfl, rfl, rfl, List.prefix_rfl, fun i y hy => ⟨y, hy, rfl⟩⟩⟩
  · show Row _ _ _ _ _ _ (M.clos ++ [q]).length ((M.clos ++ [q]).flatMap (coV A1.E))
    rw [List.length_append, List.flatMap_append]
    have e : [q].flatMap (coV A1.E) = coV A1.E q := by simp
    rw [e]
    exact r1.st p2 (by omega)
  · have a : M.ths[i]? = some U := a
    have := (List.getElem?_eq_some_iff.1 a).1
    exact (h.one i U y a b).st t (by omega) (by omega) (by omega)
set_option maxRecDepth 100000
set_option maxHeartbeats 1000000
theorem eval20 (B : RB w A N root W A1 M) (hvl : M.th.vals.length ≤ 999990) (h24 : M.clos.length ≤ 24) {n : Nat} (hn : n < N.length) (hn0 : n ≠ 0) (hN : N.length ≤ 1000) {x : Nat} {e : Option Nat} (he : ∀ i, e = some i → i < A.E.length) (hk : (N.getD n nd0).k = 20) :
    Calls Tryz.prog 114 #[.pointer (some ⟨A.br, 0, none⟩), .int .i64 n, .int .i64 x, .pointer (eAd A.E e)] W (PQm w A N root (M.eval N n x e)) := by
  obtain ⟨Q, HQ⟩ : ∃ Q : Ending → World → Prop, Hid (PQm w A N root (M.eval N n x e) = Q) := ⟨_, rfl⟩
  rw [HQ.out]
  obtain ⟨g, c, D⟩ := B.nd hn
  obtain ⟨c2, lc, lb, lg, ln, d0, d1, d2, d3, d4, d5, d6, d7⟩ := D
  obtain ⟨⟨dk, da, db, dc, dnx, dn, dss, dp⟩, HD⟩ : ∃ d, Hid (N.getD n nd0 = d) := ⟨_, rfl⟩
  have HZ : Hid (M.eval N n x e = if M.clos.length ≥ 24 then M.finish 8 [45] else { M.push [⟨5, M.clos.length, []⟩] with clos := M.clos ++ [(n, e)] }) := by
    show _ = _
    unfold MD.eval
    dsimp only
    rw [if_neg hn0, HD.out]
    rw [HD.out] at hk
    dsimp only at hk
    subst hk
    simp (config := { decide := true }) only [if_true, if_false]
  rw [HD.out] at d0 d1 d2 d3 d4 d5 d6 d7 hk
  dsimp only at d0 d1 d2 d3 d4 d5 d6 d7 hk
  subst hk
  obtain ⟨NL, HLL⟩ : ∃ NL : Nat, Hid (N.length = NL) := ⟨_, rfl⟩
  rw [HLL.out] at c2 lc ln hN
  have FA : Fr (fun _ => False) W (W.alloc (.cells #[.int .i64 (20 : Nat), .int .i64 (da : Nat), .int .i64 (db : Nat), .int .i64 (dc : Nat), .int .i64 (dnx : Nat), .int .u64 (dn : Nat), sv dss, .int .i64 (dp : Nat)] 134)) := (Fr.refl _ _).alloc _
  have HB0 := hid (B.fresh FA)
  have c4 : W.cell? ⟨A1.br, 4, none⟩ = some (.slice A1.cl.a M.clos.length A1.cl.c) := B.r.rc 4 rfl
  have HEP := hid (B.s.ep he)
  have HBR := hid B.s.br
  rw [B.s.br] at c4
  have HV := hid hvl
  clear B he hvl FA
  unfold ePtr at HEP
  obtain ⟨ea, HEA⟩ : ∃ ea, Hid (eAd A.E e = ea) := ⟨_, rfl⟩
  rw [HEA.out] at HEP ⊢
  have bn0 : ((n : Int) == 0) = false := by rw [beq_eq_false_iff_ne]; omega
  by_cases h24b : 24 ≤ M.clos.length
  · have e24 : M.clos.length = 24 := by omega
    have HZ2 : Hid (M.eval N n x e = M.finish 8 [45]) := by show _ = _; rw [HZ.out, if_pos h24b]
    rw [e24] at c4
    have HC3 := hid (HB0.out.finish 8 [45] (e' := 8) rfl)
    clear HZ h24b e24
    go_enter Tryz.func114, Tryz.ntmps114
    go_wp2_with fail
    refine HC3.out.mono ?_
    rintro e3 w3 ⟨rfl, A3, B3, S3⟩
    have FIN : Hid (Q (.returned (.tuple #[])) w3) := by
      show Q _ _
      rw [← HQ.out, HZ2.out]
      exact B3.end
    clear B3 S3
    go_wp2
    refine bodyPost_ret (results_none rfl _ _ _) rfl ?_
    exact FIN.out
  · have HZ2 : Hid (M.eval N n x e = (({ M with clos := M.clos ++ [(n, e)] } : MD).push [⟨5, M.clos.length, []⟩])) := by show _ = _; rw [HZ.out, if_neg h24b]; rfl
    have HRW : Hid (∀ W2, Fr (fun _ => False) (W.alloc (.cells #[.int .i64 (20 : Nat), .int .i64 (da : Nat), .int .i64 (db : Nat), .int .i64 (dc : Nat), .int .i64 (dnx : Nat), .int .u64 (dn : Nat), sv dss, .int .i64 (dp : Nat)] 134)) W2 → W2.ownsRow 0 179 2 (A1.cl.v M.clos.length) M.clos.length (M.clos.flatMap (coV A1.E))) := fun W2 f => (HB0.out.r.clo.st (Stp.fresh (fun _ => False) A1.o f) (fun x => x)).own
    have HEQ : Hid (coV A1.E (n, e) = [.int .i64 n, .pointer ea]) := by
      show _ = _
      unfold coV ePtr
      have := HEP.out
      rw [show eAd A1.E e = ea from by injection this]
    obtain ⟨CL, HCL⟩ : ∃ CL : Nat, Hid (M.clos.length = CL) := ⟨_, rfl⟩
    have hCL : CL < 24 := by rw [← HCL.out]; omega
    rw [HCL.out] at c4 HZ2
    have h24i : ((24 : Int) ≤ (CL : Int)) = False := by simp; omega
    have e1 : (CL : Int) + 1 - 1 = CL := by omega
    clear HZ h24b
    go_enter Tryz.func114, Tryz.ntmps114
    go_wp2_with (at_builtin; go_must (refine wpList_appN rowClo _ rfl (.tmp 132) (.tmp 136) rfl (A1.cl.v M.clos.length) M.clos.length (M.clos.flatMap (coV A1.E)) (by rw [HCL.out]; rfl) (HRW.out _ ((Fr.refl _ _).alloc _)) (W.heap.size + 1) 1 1 (coV A1.E (n, e)) rfl (by rw [HEQ.out]; exact Has.newC _ _ _ (by simp)) rfl (by omega) (by rw [HEQ.out]; intro u hu; simp at hu; rcases hu with hu | hu <;> subst hu <;> rfl) ?bd ?go))
    case bd => rw [HCL.out]; omega
    case go =>
      intro g3 cap3 w3 q1 q2 q3 q4
      have hq3 : (A1.cl.v M.clos.length).ownBlock = some g3 ∨ (W.alloc (.cells #[.int .i64 (20 : Nat), .int .i64 (da : Nat), .int .i64 (db : Nat), .int .i64 (dc : Nat), .int .i64 (dnx : Nat), .int .u64 (dn : Nat), sv dss, .int .i64 (dp : Nat)] 134)).heap.size ≤ g3 := by
        rcases q3 with q3 | q3
        · exact .inl q3
        · right; rw [q3]; simp
      obtain ⟨hh, A', s1, s2⟩ := HB0.out.r.cloApp (n, e) ((Fr.refl _ _).alloc _) q1 q2 hq3 q4
      rw [HBR.out] at hh
      rw [HBR.out, HCL.out] at s1 s2
      have B5 : RB w A N root (w3.setCell ⟨A.br, 4, none⟩ (.slice (some ⟨g3, 0, none⟩) (CL + 1) cap3)) A' { M with clos := M.clos ++ [(n, e)] } := ⟨s1, HB0.out.s.trans s2, HB0.out.c⟩
      have HC5 : Hid (Calls Tryz.prog 124 #[.pointer (some ⟨A.br, 0, none⟩), .agg #[.int .i64 5, .int .u64 CL, sv []]] _ _) := B5.push (show M.th.vals.length ≤ 1000000 by have := HV.out; omega) ⟨5, CL, []⟩
      have e4 := hh.cell 4
      simp only [rnV, List.getElem?_toArray, List.getElem?_cons_succ, List.getElem?_cons_zero, Sl.v] at e4
      rw [HCL.out] at e4
      have f4 := hh.frozen 4
      have le3 := hh.lt
      rw [HCL.out]
      clear q1 q2 q3 q4 hq3 hh s1 s2 B5
      go_wp2_with fail
      refine HC5.out.mono ?_
      rintro e6 w6 ⟨rfl, A6, B6, S6⟩
      have FIN : Hid (Q (.returned (.tuple #[])) w6) := by
        show Q _ _
        rw [← HQ.out, HZ2.out]
        exact B6.end
      clear B6 S6 e4 f4 le3
      go_wp2
      go_end0
      exact FIN.out
end
end Go.Proofs.Qxb6500574aGreatDoor
