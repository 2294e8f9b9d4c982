/-
  co: run: what stands around a resume. No walk.
-/
import Derived.Test.Qxb6500574aGreatDoorVCo1
namespace Go.Proofs.Qxb6500574aGreatDoor
open Go Go.RowKit
set_option linter.unusedVariables false
set_option linter.unusedSimpArgs false
/-- ahead of the call for the thread that is resumed -/
structure AfR (bc ba bb br bv S2 : Nat) (d1 : Int) (wr : World) (Ak : VL) (a b : Vl) (ev : EvD) (f1 : Nat) (m1 : VMD) (B : Nat) (W2 : World) (A5 : VL) : Prop where
  rep : VRep W2 A5 m1 f1 0
  co : Has W2 bc #[.pointer (some ⟨bv, 0, none⟩), .int .i64 S2, .int .i64 d1] 93 ∧ A5.o bc = 0
  cst : CSt bc wr Ak W2 A5
  hB : Has W2 B (evCells ev) 190
  hr : Has W2 br (bkCells bk0) 128 ∧ A5.o br = 0
  ha : Has W2 ba #[.int .i64 a.t, .int .u64 a.n, sv a.s] 68 ∧ A5.o ba = 0
  hb : Has W2 bb #[.int .i64 b.t, .int .u64 b.n, sv b.s] 68 ∧ A5.o bb = 0
  b5 : A5.b = bv
/-- behind it -/
structure AfC (bc ba bb br bv : Nat) (d1 : Int) (wr : World) (Ak : VL) (a b : Vl) (rb : BackD) (fu2 : Nat) (m2 : VMD) (s2 : Nat) (w6 : World) (A6 : VL) (m6 : VMD) (e6 : Nat) : Prop where
  rep : VRep w6 A6 m6 fu2 e6
  out : TrapC m6 e6 rb m2
  k3 : rb.how ≠ 3 → m6 = m2 ∧ e6 = 0
  co : Has w6 bc #[.pointer (some ⟨bv, 0, none⟩), .int .i64 s2, .int .i64 d1] 93 ∧ A6.o bc = 0
  cst : CSt bc wr Ak w6 A6
  hr : Has w6 br (bkCells bk0) 128 ∧ A6.o br = 0
  ha : Has w6 ba #[.int .i64 a.t, .int .u64 a.n, sv a.s] 68 ∧ A6.o ba = 0
  hb : Has w6 bb #[.int .i64 b.t, .int .u64 b.n, sv b.s] 68 ∧ A6.o bb = 0
section
variable {bc i ba bb br bv : Nat} {dp d1 : Int} {w : World} {A : VL} {F : Nat} {r : BackD × Nat × VMD × Nat} {n : Nat} {wr : World} {Ak : VL} {m : VMD} {f s : Nat} {t : ThD} {a b : Vl} {K : Cx} {ev : EvD} {f1 : Nat} {m1 : VMD} {B : Nat} {W : World} {A5 : VL} {m9 : VMD} {e9 : Nat}
theorem AfEx.toR (h : AfEx bc ba bb br bv s dp wr Ak a b ev f1 m1 B W A5 m9 e9 ev) (h5 : ev.k ≠ 5) (hb : Ak.b = bv) : AfR bc ba bb br bv s (wrap64 (dp + 1)) wr Ak a b ev f1 m1 B W A5 := by
  obtain ⟨e1, e2⟩ := h.k5 h5
  have hr := h.rep
  rw [e1, e2] at hr
  exact ⟨hr, h.co, CSt.of h.st, h.hB, h.hr, h.ha, h.hb, h.st.b.trans hb⟩
theorem AfR.fresh {W' : World} (h : AfR bc ba bb br bv s d1 wr Ak a b ev f1 m1 B W A5) (hf : Fr (fun _ => False) W W') : AfR bc ba bb br bv s d1 wr Ak a b ev f1 m1 B W' A5 :=
  ⟨h.rep.fresh hf, ⟨h.co.1.fr hf (fun x => x), h.co.2⟩, h.cst.trans (CSt.fresh hf), h.hB.fr hf (fun x => x), ⟨h.hr.1.fr hf (fun x => x), h.hr.2⟩, ⟨h.ha.1.fr hf (fun x => x), h.ha.2⟩, ⟨h.hb.1.fr hf (fun x => x), h.hb.2⟩, h.b5⟩
theorem AfR.started (h : AfR bc ba bb br bv s d1 wr Ak a b ev f1 m1 B W A5) (n1 : ba ≠ bc) (n2 : bb ≠ bc) (n3 : br ≠ bc) (n4 : B ≠ bc) : AfR bc ba bb br bv (s + 1) d1 wr Ak a b ev f1 m1 B (W.setCell ⟨bc, 1, none⟩ (.int .i64 ((s + 1 : Nat) : Int))) A5 := by
  have z1 : Stp (fun l => l = 0) W A5.o (W.setCell ⟨bc, 1, none⟩ (.int .i64 ((s + 1 : Nat) : Int))) A5.o := (Stp.refl _ _ _).setCell (p := ⟨bc, 1, none⟩) h.co.2 _
  have hc := h.co.1.put 1 (.int .i64 ((s + 1 : Nat) : Int))
  simp only [List.setIfInBounds_toArray, List.set_cons_succ, List.set_cons_zero] at hc
  exact ⟨h.rep.zero z1, ⟨hc, h.co.2⟩, h.cst.set (p := ⟨bc, 1, none⟩) (.inl rfl) _, h.hB.other (p := ⟨bc, 1, none⟩) n4 _, ⟨h.hr.1.other (p := ⟨bc, 1, none⟩) n3 _, h.hr.2⟩, ⟨h.ha.1.other (p := ⟨bc, 1, none⟩) n1 _, h.ha.2⟩, ⟨h.hb.1.other (p := ⟨bc, 1, none⟩) n2 _, h.hb.2⟩, h.b5⟩
theorem AfR.rec' (h : AfR bc ba bb br bv s d1 wr Ak a b ev f1 m1 B W A5) (n1 : ba ≠ bc) (n2 : bb ≠ bc) (n3 : br ≠ bc) {k : Nat} (CW : CoW bc k) {u : ThD} {K1 : Cx} (S1 : Slp K1 m1) (hv : VOk K1 ev.v) (hf : f1 < 9223372036854775808) (hu : m1.ths[ev.th]? = some u) (hus : u.st = 1 ∨ u.st = 2) (hd1 : -9223372036854775808 ≤ d1) (hd2 : d1 ≤ 9223372036854775807) (hs : s ≤ busy m1 + (if u.st = 1 then 1 else 0)) {rb : BackD} {fu2 : Nat} {m2 : VMD} {s2 : Nat} (hc : coP k ev.th ev.v nilV f1 m1 s = some (rb, fu2, m2, s2)) :
    Calls Tryz.prog 55 #[.pointer (some ⟨bc, 0, none⟩), .int .i64 ev.th, ev.v.val, nilV.val] W fun e' w6 => e' = .returned (.agg (bkCells rb)) ∧ ∃ A6 m6 e6, AfC bc ba bb br bv d1 wr Ak a b rb fu2 m2 s2 w6 A6 m6 e6 := by
  have hb := h.b5
  have := CW W A5 m1 f1 ev.th s d1 u ev.v nilV K1 (rb, fu2, m2, s2) h.rep S1 hf hu (by omega) hv (VOk.nil K1) (by rw [hb]; exact h.co.1) h.co.2 hd1 hd2 hs hc
  refine this.mono ?_
  rintro e' w6 ⟨A6, m6, e6, rfl, R6, ho6, hn6, hc6, oc6, C6⟩
  rw [hb] at hc6
  exact ⟨rfl, A6, m6, e6, R6, ho6, hn6, ⟨hc6, oc6⟩, h.cst.trans C6, C6.keep h.hr.1 h.hr.2 n3, C6.keep h.ha.1 h.ha.2 n1, C6.keep h.hb.1 h.hb.2 n2⟩
variable {rb : BackD} {fu2 : Nat} {m2 : VMD} {s2 : Nat} {w6 w7 : World} {A6 : VL} {m6 : VMD} {e6 : Nat}
theorem AfC.fresh (h : AfC bc ba bb br bv d1 wr Ak a b rb fu2 m2 s2 w6 A6 m6 e6) (hf : Fr (fun _ => False) w6 w7) : AfC bc ba bb br bv d1 wr Ak a b rb fu2 m2 s2 w7 A6 m6 e6 :=
  ⟨h.rep.fresh hf, h.out, h.k3, ⟨h.co.1.fr hf (fun x => x), h.co.2⟩, h.cst.trans (CSt.fresh hf), ⟨h.hr.1.fr hf (fun x => x), h.hr.2⟩, ⟨h.ha.1.fr hf (fun x => x), h.ha.2⟩, ⟨h.hb.1.fr hf (fun x => x), h.hb.2⟩⟩
abbrev set3 (w : World) (b : Nat) (x : Vl) : World := ((w.setCell ⟨b, 0, none⟩ (.int .i64 x.t)).setCell ⟨b, 1, none⟩ (.int .u64 x.n)).setCell ⟨b, 2, none⟩ (sv x.s)
theorem has3_ne {w : World} {b b' : Nat} {cs : Array Value} {T : TypeId} (h : Has w b cs T) (ne : b ≠ b') (x : Vl) : Has (set3 w b' x) b cs T := ((h.other ne _).other ne _).other ne _
/-- the thread goes on with what came back -/
theorem AfC.next (h : AfC bc ba bb br A.b (wrap64 (dp + 1)) wr Ak a b rb fu2 m2 s2 w6 A6 m6 e6) (C : CI bc i ba bb br dp w A F r n wr Ak m f s t a b K) (h3 : rb.how ≠ 3) (n1 : ba ≠ bc) (n2 : bb ≠ bc) (nab : ba ≠ bb) (nar : ba ≠ br) (nbr : bb ≠ br) (wa : w.heap.size ≤ ba) (wb : w.heap.size ≤ bb) {x : Vl} {K2 : Cx} (S2 : Slp K2 m2) (hx : VOk K2 x) (hy : VOk K2 rb.v) {t2 : ThD} (hi : m2.ths[i]? = some t2) (hst : t2.st = 3) (hf : fu2 ≤ F) (hs : s2 ≤ busy m2) {k : Nat} (hrun : coP k i x rb.v fu2 m2 s2 = some r) :
    CI bc i ba bb br dp w A F r k (set3 (set3 w6 ba x) bb rb.v) A6 m2 fu2 s2 t2 x rb.v K2 := by
  obtain ⟨e1, e2⟩ := h.k3 h3
  have hr := h.rep
  rw [e1, e2] at hr
  have kk : ∀ {w1 : World} {j c : Nat} {u : Value}, A6.o c = 0 → Stp (fun l => l = 0) w6 A6.o w1 A6.o → Stp (fun l => l = 0) w6 A6.o (w1.setCell ⟨c, j, none⟩ u) A6.o := fun ho s => s.setCell (p := ⟨_, _, none⟩) ho _
  have cs := C.cst.trans h.cst
  refine ⟨hr.zero (kk h.hb.2 (kk h.hb.2 (kk h.hb.2 (kk h.ha.2 (kk h.ha.2 (kk h.ha.2 (Stp.refl _ _ _))))))), S2, hf, hi, .inr (.inr hst), hx, hy, has3_ne (has3_ne h.co.1 (Ne.symm n1) _) (Ne.symm n2) _, h.co.2, has3_ne (h.ha.1.put3 _ _ _) nab _, ((has3_ne h.hb.1 (Ne.symm nab) x).put3 _ _ _), has3_ne (has3_ne h.hr.1 (Ne.symm nar) _) (Ne.symm nbr) _, h.ha.2, h.hb.2, h.hr.2, by omega, hrun, ?_⟩
  exact (((((cs.set (p := ⟨ba, 0, none⟩) (.inr wa) _).set (p := ⟨ba, 1, none⟩) (.inr wa) _).set (p := ⟨ba, 2, none⟩) (.inr wa) _).set (p := ⟨bb, 0, none⟩) (.inr wb) _).set (p := ⟨bb, 1, none⟩) (.inr wb) _).set (p := ⟨bb, 2, none⟩) (.inr wb) _
end
end Go.Proofs.Qxb6500574aGreatDoor
