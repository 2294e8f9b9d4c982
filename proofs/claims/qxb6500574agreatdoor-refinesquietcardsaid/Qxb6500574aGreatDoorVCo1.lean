/-
  THE WALK of co: run.
-/
import Derived.Test.Qxb6500574aGreatDoorVCo0
import Derived.Test.Qxb6500574aGreatDoorReg9
import Derived.Test.Qxb6500574aGreatDoorVLd3
namespace Go.Proofs.Qxb6500574aGreatDoor
open Go Go.RowKit
set_option linter.unusedVariables false
set_option linter.unusedSimpArgs false
/-- what a call of run answers, in cells -/
abbrev bkCells (r : BackD) : Array Value := #[.int .i64 r.how, .int .i64 r.v.t, .int .u64 r.v.n, sv r.v.s, .int .i64 r.e]
def bk0 : BackD := ⟨0, nilV, 0⟩
theorem isBack : IsStr 128 5 := ⟨by kernel_rfl, by kernel_rfl⟩
abbrev set5 (w : World) (b : Nat) (x : BackD) : World := ((((w.setCell ⟨b, 0, none⟩ (.int .i64 x.how)).setCell ⟨b, 1, none⟩ (.int .i64 x.v.t)).setCell ⟨b, 2, none⟩ (.int .u64 x.v.n)).setCell ⟨b, 3, none⟩ (sv x.v.s)).setCell ⟨b, 4, none⟩ (.int .i64 x.e)
theorem Has.set5 {w : World} {b : Nat} {x : BackD} (y : BackD) (h : Has w b (bkCells x) 128) : Has (Go.Proofs.Qxb6500574aGreatDoor.set5 w b y) b (bkCells y) 128 := by
  have := ((((h.put 0 (.int .i64 y.how)).put 1 (.int .i64 y.v.t)).put 2 (.int .u64 y.v.n)).put 3 (sv y.v.s)).put 4 (.int .i64 y.e)
  simpa using this
theorem Has.bk {w : World} {b : Nat} {x : BackD} (h : Has w b (bkCells x) 128) : w.cell? ⟨b, 0, none⟩ = some (.int .i64 x.how) ∧ w.cell? ⟨b, 1, none⟩ = some (.int .i64 x.v.t) ∧ w.cell? ⟨b, 2, none⟩ = some (.int .u64 x.v.n) ∧ w.cell? ⟨b, 3, none⟩ = some (sv x.v.s) ∧ w.cell? ⟨b, 4, none⟩ = some (.int .i64 x.e) :=
  ⟨by rw [h.cell]; rfl, by rw [h.cell]; rfl, by rw [h.cell]; rfl, by rw [h.cell]; rfl, by rw [h.cell]; rfl⟩
theorem wrap_back (d : Int) (h1 : -9223372036854775808 ≤ d) (h2 : d ≤ 9223372036854775807) : wrap64 (wrap64 (d + 1) - 1) = d := by
  unfold wrap64
  omega
theorem wrap_in (d : Int) : -9223372036854775808 ≤ wrap64 d ∧ wrap64 d ≤ 9223372036854775807 := by
  unfold wrap64
  omega
/-- the machine behind an error -/
def TrapC (m9 : VMD) (e9 : Nat) (rb : BackD) (m1 : VMD) : Prop := m9.out = m1.out ∧ (rb.how = 3 → m9 = wipeM m1 ∧ e9 = rb.e)
/-- how co.run ends -/
def CoRP (bc : Nat) (dp : Int) (w : World) (A : VL) (r : BackD × Nat × VMD × Nat) (e' : Ending) (w' : World) : Prop :=
  ∃ A' m9 e9, e' = .returned (.agg (bkCells r.1)) ∧ VRep w' A' m9 r.2.1 e9 ∧ TrapC m9 e9 r.1 r.2.2.1 ∧ (r.1.how ≠ 3 → m9 = r.2.2.1 ∧ e9 = 0) ∧ Has w' bc #[.pointer (some ⟨A.b, 0, none⟩), .int .i64 r.2.2.2, .int .i64 dp] 93 ∧ A'.o bc = 0 ∧ CSt bc w A w' A'
/-- what a call of co.run asks, and what it comes to -/
def CoW (bc : Nat) (n : Nat) : Prop := ∀ (w : World) (A : VL) (m : VMD) (f i s : Nat) (dp : Int) (t : ThD) (a b : Vl) (K : Cx) (r : BackD × Nat × VMD × Nat), VRep w A m f 0 → Slp K m → f < 9223372036854775808 → m.ths[i]? = some t → (t.st = 1 ∨ t.st = 2 ∨ t.st = 3) → VOk K a → VOk K b → Has w bc #[.pointer (some ⟨A.b, 0, none⟩), .int .i64 s, .int .i64 dp] 93 → A.o bc = 0 → -9223372036854775808 ≤ dp → dp ≤ 9223372036854775807 → s ≤ busy m + (if t.st = 1 then 1 else 0) → coP n i a b f m s = some r →
  Calls Tryz.prog 55 #[.pointer (some ⟨bc, 0, none⟩), .int .i64 i, a.val, b.val] w (CoRP bc dp w A r)
/-- at a head of run's loop -/
structure CI (bc i ba bb br : Nat) (dp : Int) (w : World) (A : VL) (F : Nat) (r : BackD × Nat × VMD × Nat) (n : Nat) (wr : World) (Ak : VL) (m : VMD) (f s : Nat) (t : ThD) (a b : Vl) (K : Cx) : Prop where
  rep : VRep wr Ak m f 0
  slp : Slp K m
  fu : f ≤ F
  hi : m.ths[i]? = some t
  st : t.st = 1 ∨ t.st = 2 ∨ t.st = 3
  va : VOk K a
  vb : VOk K b
  co : Has wr bc #[.pointer (some ⟨A.b, 0, none⟩), .int .i64 s, .int .i64 (wrap64 (dp + 1))] 93
  oc : Ak.o bc = 0
  ha : Has wr ba #[.int .i64 a.t, .int .u64 a.n, sv a.s] 68
  hb : Has wr bb #[.int .i64 b.t, .int .u64 b.n, sv b.s] 68
  hr : Has wr br (bkCells bk0) 128
  oa : Ak.o ba = 0
  ob : Ak.o bb = 0
  or' : Ak.o br = 0
  bs : s ≤ busy m + (if t.st = 1 then 1 else 0)
  run : coP n i a b f m s = some r
  cst : CSt bc w A wr Ak
section
variable {bc i ba bb br : Nat} {dp : Int} {w : World} {A : VL} {F : Nat} {r : BackD × Nat × VMD × Nat} {n : Nat} {wr : World} {Ak : VL} {m : VMD} {f s : Nat} {t : ThD} {a b : Vl} {K : Cx}
/-- what the region that calls Exec reads -/
def RdP (bc ba bb bv : Nat) (a b : Vl) (q : World) : Prop := q.cell? ⟨bc, 0, none⟩ = some (.pointer (some ⟨bv, 0, none⟩)) ∧ (q.cell? ⟨ba, 0, none⟩ = some (.int .i64 a.t) ∧ q.cell? ⟨ba, 1, none⟩ = some (.int .u64 a.n) ∧ q.cell? ⟨ba, 2, none⟩ = some (sv a.s)) ∧ (q.cell? ⟨bb, 0, none⟩ = some (.int .i64 b.t) ∧ q.cell? ⟨bb, 1, none⟩ = some (.int .u64 b.n) ∧ q.cell? ⟨bb, 2, none⟩ = some (sv b.s))
/-- what stands behind Exec and the variable for its event -/
structure AfEx (bc ba bb br bv s : Nat) (dp : Int) (wr : World) (Ak : VL) (a b : Vl) (ev : EvD) (f1 : Nat) (m1 : VMD) (B : Nat) (W : World) (A5 : VL) (m9 : VMD) (e9 : Nat) (ex : EvD) : Prop where
  rep : VRep W A5 m9 f1 e9
  out : TrapM m9 e9 (ev, f1, m1)
  k5 : ev.k ≠ 5 → m9 = m1 ∧ e9 = 0
  st : VSt isVM wr Ak W A5
  hB : Has W B (evCells ex) 190
  oB : A5.o B = 0
  nB : wr.heap.size ≤ B
  co : Has W bc #[.pointer (some ⟨bv, 0, none⟩), .int .i64 s, .int .i64 (wrap64 (dp + 1))] 93 ∧ A5.o bc = 0
  ha : Has W ba #[.int .i64 a.t, .int .u64 a.n, sv a.s] 68 ∧ A5.o ba = 0
  hb : Has W bb #[.int .i64 b.t, .int .u64 b.n, sv b.s] 68 ∧ A5.o bb = 0
  hr : Has W br (bkCells bk0) 128 ∧ A5.o br = 0
theorem AfEx.rd {bv : Nat} {ev ex : EvD} {f1 : Nat} {m1 : VMD} {B : Nat} {W : World} {A5 : VL} {m9 : VMD} {e9 : Nat} (h : AfEx bc ba bb br bv s dp wr Ak a b ev f1 m1 B W A5 m9 e9 ex) : RdP bc ba bb bv a b W :=
  ⟨h.co.1.cell 0, ⟨h.ha.1.cell 0, h.ha.1.cell 1, h.ha.1.cell 2⟩, ⟨h.hb.1.cell 0, h.hb.1.cell 1, h.hb.1.cell 2⟩⟩
theorem AfEx.put {bv : Nat} {ev ex : EvD} {f1 : Nat} {m1 : VMD} {B : Nat} {W : World} {A5 : VL} {m9 : VMD} {e9 : Nat} (h : AfEx bc ba bb br bv s dp wr Ak a b ev f1 m1 B W A5 m9 e9 ex) (hc : bc < wr.heap.size) (h1 : ba < wr.heap.size) (h2 : bb < wr.heap.size) (h3 : br < wr.heap.size) (y : EvD) : AfEx bc ba bb br bv s dp wr Ak a b ev f1 m1 B (set9 W B y) A5 m9 e9 y := by
  have nb := h.nB
  exact ⟨h.rep.set9 h.oB y, h.out, h.k5, h.st.set9 h.nB y, h.hB.set9 y, h.oB, h.nB, ⟨has_set9_ne h.co.1 (by omega) y, h.co.2⟩, ⟨has_set9_ne h.ha.1 (by omega) y, h.ha.2⟩, ⟨has_set9_ne h.hb.1 (by omega) y, h.hb.2⟩, ⟨has_set9_ne h.hr.1 (by omega) y, h.hr.2⟩⟩
/-- the machine's part of a round -/
theorem CI.ex (h : CI bc i ba bb br dp w A F r n wr Ak m f s t a b K) (hF : F < 9223372036854775808) {k : Nat} {ev : EvD} {f1 : Nat} {m1 : VMD} (hr : roundsP k f (startP m i a b) i = some (ev, f1, m1)) {w0 : World} (hw : Fr (fun _ => False) wr w0) :
    Calls Tryz.prog 84 #[.pointer (some ⟨A.b, 0, none⟩), .int .i64 i, a.val, b.val] w0 fun e' w' => e' = .returned ev.val ∧ ∃ A5 m9 e9, VRep w' A5 m9 f1 e9 ∧ TrapM m9 e9 (ev, f1, m1) ∧ (ev.k ≠ 5 → m9 = m1 ∧ e9 = 0) ∧ VSt isVM w0 Ak w' A5 := by
  have fu := h.fu
  have := exec_any (h.rep.fresh hw) h.slp h.slp.low (by omega) h.hi h.st h.va h.vb hr
  rw [h.cst.b] at this
  refine this.mono ?_
  rintro e' w' ⟨A5, m9, e9, rfl, q1, q2, q3, q4⟩
  exact ⟨rfl, A5, m9, e9, q1, q2, q3, q4⟩
theorem CI.af (h : CI bc i ba bb br dp w A F r n wr Ak m f s t a b K) {ev : EvD} {f1 : Nat} {m1 : VMD} {W : World} {A5 : VL} {m9 : VMD} {e9 B : Nat} (q1 : VRep W A5 m9 f1 e9) (q2 : TrapM m9 e9 (ev, f1, m1)) (q3 : ev.k ≠ 5 → m9 = m1 ∧ e9 = 0) (q4 : VSt isVM wr Ak W A5) (hB : Has W B (evCells ev0) 190) (oB : A5.o B = 0) (nB : wr.heap.size ≤ B) : AfEx bc ba bb br A.b s dp wr Ak a b ev f1 m1 B W A5 m9 e9 ev0 :=
  ⟨q1, q2, q3, q4, hB, oB, nB, q4.keep0 notVM0 h.co h.oc, q4.keep0 notVM0 h.ha h.oa, q4.keep0 notVM0 h.hb h.ob, q4.keep0 notVM0 h.hr h.or'⟩
/-- the driver's block and the answer are written: run is left -/
theorem CI.fin (h : CI bc i ba bb br dp w A F r n wr Ak m f s t a b K) (hd1 : -9223372036854775808 ≤ dp) (hd2 : dp ≤ 9223372036854775807) (hbr : w.heap.size ≤ br) {W : World} {A5 : VL} {m9 : VMD} {e9 f1 s2 : Nat} (q1 : VRep W A5 m9 f1 e9) (q4 : CSt bc wr Ak W A5) (hc : Has W bc #[.pointer (some ⟨A.b, 0, none⟩), .int .i64 s2, .int .i64 (wrap64 (dp + 1))] 93) (oc : A5.o bc = 0) (hbk : Has W br (bkCells bk0) 128) (obr : A5.o br = 0) {m1 : VMD} {rb : BackD} (q2 : TrapC m9 e9 rb m1) (q3 : rb.how ≠ 3 → m9 = m1 ∧ e9 = 0) (hr : r = (rb, f1, m1, s2)) :
    CoRP bc dp w A r (.returned (.agg (bkCells rb))) (set5 (W.setCell ⟨bc, 2, none⟩ (.int .i64 (wrap64 (wrap64 (dp + 1) - 1)))) br rb) ∧ Has (set5 (W.setCell ⟨bc, 2, none⟩ (.int .i64 (wrap64 (wrap64 (dp + 1) - 1)))) br rb) br (bkCells rb) 128 := by
  subst hr
  rw [wrap_back dp hd1 hd2]
  have nc : bc ≠ br := fun e => by
    rw [e] at hc
    exact absurd rfl (hc.ne hbk (by decide))
  have z1 : Stp (fun l => l = 0) W A5.o (W.setCell ⟨bc, 2, none⟩ (.int .i64 dp)) A5.o := (Stp.refl _ _ _).setCell (p := ⟨bc, 2, none⟩) oc _
  have kk : ∀ {w1 : World} {j : Nat} {u : Value}, Stp (fun l => l = 0) W A5.o w1 A5.o → Stp (fun l => l = 0) W A5.o (w1.setCell ⟨br, j, none⟩ u) A5.o := fun s => s.setCell (p := ⟨br, _, none⟩) obr _
  have hcc : Has (W.setCell ⟨bc, 2, none⟩ (.int .i64 dp)) bc #[.pointer (some ⟨A.b, 0, none⟩), .int .i64 s2, .int .i64 dp] 93 := by
    have := hc.put 2 (.int .i64 dp)
    simpa using this
  have hbb : Has (W.setCell ⟨bc, 2, none⟩ (.int .i64 dp)) br (bkCells bk0) 128 := hbk.other (p := ⟨bc, 2, none⟩) (Ne.symm nc) _
  have cs := (h.cst.trans q4).set (p := ⟨bc, 2, none⟩) (.inl rfl) (.int .i64 dp)
  refine ⟨⟨A5, m9, e9, rfl, q1.zero (kk (kk (kk (kk (kk z1))))), q2, q3, ?_, oc, ?_⟩, hbb.set5 rb⟩
  · exact ((((hcc.other (p := ⟨br, 0, none⟩) nc _).other (p := ⟨br, 1, none⟩) nc _).other (p := ⟨br, 2, none⟩) nc _).other (p := ⟨br, 3, none⟩) nc _).other (p := ⟨br, 4, none⟩) nc _
  · exact ((((cs.set (p := ⟨br, 0, none⟩) (.inr hbr) _).set (p := ⟨br, 1, none⟩) (.inr hbr) _).set (p := ⟨br, 2, none⟩) (.inr hbr) _).set (p := ⟨br, 3, none⟩) (.inr hbr) _).set (p := ⟨br, 4, none⟩) (.inr hbr) _
end
end Go.Proofs.Qxb6500574aGreatDoor
