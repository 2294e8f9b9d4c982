/-
  THE WALK of vm: ret.
-/
import Derived.Test.Qxb6500574aGreatDoorVEnterW
namespace Go.Proofs.Qxb6500574aGreatDoor
open Go Go.RowKit
set_option linter.unusedVariables false
set_option linter.unusedSimpArgs false

abbrev EvD.val (x : EvD) : Value := .agg #[.int .i64 x.k, .int .i64 x.th, .int .i64 x.e, .int .i64 x.v.t, .int .u64 x.v.n, sv x.v.s, .int .i64 x.w.t, .int .u64 x.w.n, sv x.w.s]
section
variable {w : World} {A : VL} {m : VMD} {f e i : Nat} {t : ThD} {l : ThL}
theorem top2 {r : List Vl} {v u : Vl} (hi : m.ths[i]? = some t) (hs : t.stack = r ++ [v, u]) : topV m i 0 = u ∧ topV m i 1 = v ∧ pops m i 2 = m.setTh i { t with stack := r } := by
  have hl : t.stack.length = r.length + 2 := by rw [hs]; simp
  refine ⟨?_, ?_, ?_⟩
  · simp only [topV, VMD.th_some hi, hl]
    rw [hs, List.getD_eq_getElem?_getD, show r.length + 2 - 1 - 0 = r.length + 1 by omega]
    simp
  · simp only [topV, VMD.th_some hi, hl]
    rw [hs, List.getD_eq_getElem?_getD, show r.length + 2 - 1 - 1 = r.length by omega]
    simp
  · simp only [pops, cut, VMD.th_some hi, hl]
    rw [show r.length + 2 - 2 = r.length by omega]
    simp [hs]
theorem VSt.keep0 {Q : Nat → Prop} {w w' : World} {A A' : VL} (S : VSt Q w A w' A') (hq : ¬ Q 0) {b : Nat} {cs : Array Value} {T : TypeId} (h : Has w b cs T) (h0 : A.o b = 0) : Has w' b cs T ∧ A'.o b = 0 :=
  ⟨S.st.has h (by rw [h0]; exact hq), (S.st.ext b h.lt).trans h0⟩
theorem isT0 {i : Nat} : ¬ isT i 0 := fun h => by rcases h with h | h <;> omega
theorem isC0 {i : Nat} : ¬ (isCo 0 ∨ isT i 0) := fun h => by
  rcases h with h | h
  · rcases h with h | h | h <;> omega
  · exact isT0 h
set_option maxRecDepth 100000
set_option maxHeartbeats 1000000
/-- an event stored in its own cell -/
abbrev evCells (x : EvD) : Array Value := #[.int .i64 x.k, .int .i64 x.th, .int .i64 x.e, .int .i64 x.v.t, .int .u64 x.v.n, sv x.v.s, .int .i64 x.w.t, .int .u64 x.w.n, sv x.w.s]
abbrev set9 (w : World) (b : Nat) (x : EvD) : World := ((((((((w.setCell ⟨b, 0, none⟩ (.int .i64 x.k)).setCell ⟨b, 1, none⟩ (.int .i64 x.th)).setCell ⟨b, 2, none⟩ (.int .i64 x.e)).setCell ⟨b, 3, none⟩ (.int .i64 x.v.t)).setCell ⟨b, 4, none⟩ (.int .u64 x.v.n)).setCell ⟨b, 5, none⟩ (sv x.v.s)).setCell ⟨b, 6, none⟩ (.int .i64 x.w.t)).setCell ⟨b, 7, none⟩ (.int .u64 x.w.n)).setCell ⟨b, 8, none⟩ (sv x.w.s)
theorem Has.set9 {w : World} {b : Nat} {x : EvD} (y : EvD) (h : Has w b (evCells x) 190) : Has (set9 w b y) b (evCells y) 190 := by
  have h0 : Has _ b #[.int .i64 y.k, .int .i64 x.th, .int .i64 x.e, .int .i64 x.v.t, .int .u64 x.v.n, sv x.v.s, .int .i64 x.w.t, .int .u64 x.w.n, sv x.w.s] 190 := h.put 0 (.int .i64 y.k)
  have h1 : Has _ b #[.int .i64 y.k, .int .i64 y.th, .int .i64 x.e, .int .i64 x.v.t, .int .u64 x.v.n, sv x.v.s, .int .i64 x.w.t, .int .u64 x.w.n, sv x.w.s] 190 := h0.put 1 (.int .i64 y.th)
  have h2 : Has _ b #[.int .i64 y.k, .int .i64 y.th, .int .i64 y.e, .int .i64 x.v.t, .int .u64 x.v.n, sv x.v.s, .int .i64 x.w.t, .int .u64 x.w.n, sv x.w.s] 190 := h1.put 2 (.int .i64 y.e)
  have h3 : Has _ b #[.int .i64 y.k, .int .i64 y.th, .int .i64 y.e, .int .i64 y.v.t, .int .u64 x.v.n, sv x.v.s, .int .i64 x.w.t, .int .u64 x.w.n, sv x.w.s] 190 := h2.put 3 (.int .i64 y.v.t)
  have h4 : Has _ b #[.int .i64 y.k, .int .i64 y.th, .int .i64 y.e, .int .i64 y.v.t, .int .u64 y.v.n, sv x.v.s, .int .i64 x.w.t, .int .u64 x.w.n, sv x.w.s] 190 := h3.put 4 (.int .u64 y.v.n)
  have h5 : Has _ b #[.int .i64 y.k, .int .i64 y.th, .int .i64 y.e, .int .i64 y.v.t, .int .u64 y.v.n, sv y.v.s, .int .i64 x.w.t, .int .u64 x.w.n, sv x.w.s] 190 := h4.put 5 (sv y.v.s)
  have h6 : Has _ b #[.int .i64 y.k, .int .i64 y.th, .int .i64 y.e, .int .i64 y.v.t, .int .u64 y.v.n, sv y.v.s, .int .i64 y.w.t, .int .u64 x.w.n, sv x.w.s] 190 := h5.put 6 (.int .i64 y.w.t)
  have h7 : Has _ b #[.int .i64 y.k, .int .i64 y.th, .int .i64 y.e, .int .i64 y.v.t, .int .u64 y.v.n, sv y.v.s, .int .i64 y.w.t, .int .u64 y.w.n, sv x.w.s] 190 := h6.put 7 (.int .u64 y.w.n)
  have h8 : Has _ b #[.int .i64 y.k, .int .i64 y.th, .int .i64 y.e, .int .i64 y.v.t, .int .u64 y.v.n, sv y.v.s, .int .i64 y.w.t, .int .u64 y.w.n, sv y.w.s] 190 := h7.put 8 (sv y.w.s)
  exact h8
theorem VSt.own {Q : Nat → Prop} {w w1 : World} {A A1 : VL} (S : VSt Q w A w1 A1) {b j : Nat} (hb : w.heap.size ≤ b) (u : Value) : VSt Q w A (w1.setCell ⟨b, j, none⟩ u) A1 := ⟨S.st.own (p := ⟨b, j, none⟩) hb u, S.b, S.bn, S.bf, S.bt, S.bT⟩
theorem VSt.set9 {Q : Nat → Prop} {w w1 : World} {A A1 : VL} (S : VSt Q w A w1 A1) {b : Nat} (hb : w.heap.size ≤ b) (y : EvD) : VSt Q w A (set9 w1 b y) A1 :=
  ((((((((S.own hb _).own hb _).own hb _).own hb _).own hb _).own hb _).own hb _).own hb _).own hb _
theorem VRep.set9 (h : VRep w A m f e) {b : Nat} (hb : A.o b = 0) (y : EvD) : VRep (set9 w b y) A m f e := by
  refine h.zero ?_
  have k : ∀ {w1 : World} {j : Nat} {u : Value}, Stp (fun l => l = 0) w A.o w1 A.o → Stp (fun l => l = 0) w A.o (w1.setCell ⟨b, j, none⟩ u) A.o := fun s => s.setCell (p := ⟨b, _, none⟩) hb _
  exact k (k (k (k (k (k (k (k (k (Stp.refl _ _ _)))))))))
theorem Has.cells9 {w : World} {b : Nat} {x : EvD} (h : Has w b (evCells x) 190) : (∀ j, j < 9 → ∃ u, w.cell? ⟨b, j, none⟩ = some u) := fun j hj => by
  rw [h.cell]
  simp only [List.getElem?_toArray]
  exact ⟨_, List.getElem?_eq_getElem (by simpa using hj)⟩
theorem Has.ev {w : World} {b : Nat} {x : EvD} (h : Has w b (evCells x) 190) : w.cell? ⟨b, 0, none⟩ = some (.int .i64 x.k) ∧ w.cell? ⟨b, 1, none⟩ = some (.int .i64 x.th) ∧ w.cell? ⟨b, 2, none⟩ = some (.int .i64 x.e) ∧ w.cell? ⟨b, 3, none⟩ = some (.int .i64 x.v.t) ∧ w.cell? ⟨b, 4, none⟩ = some (.int .u64 x.v.n) ∧ w.cell? ⟨b, 5, none⟩ = some (sv x.v.s) ∧ w.cell? ⟨b, 6, none⟩ = some (.int .i64 x.w.t) ∧ w.cell? ⟨b, 7, none⟩ = some (.int .u64 x.w.n) ∧ w.cell? ⟨b, 8, none⟩ = some (sv x.w.s) :=
  ⟨by rw [h.cell]; rfl, by rw [h.cell]; rfl, by rw [h.cell]; rfl, by rw [h.cell]; rfl, by rw [h.cell]; rfl, by rw [h.cell]; rfl, by rw [h.cell]; rfl, by rw [h.cell]; rfl, by rw [h.cell]; rfl⟩
/-- an instruction's event -/
def EvPost (R : RR EvD) (w : World) (A : VL) (f e i : Nat) (e' : Ending) (w' : World) : Prop := ∃ ev m' A', R = (.inr ev, m') ∧ e' = .returned ev.val ∧ VRep w' A' m' f e ∧ VSt (fun k => isCo k ∨ isT i k) w A w' A'
theorem ret_any (h : VRep w A m f e) (hi : m.ths[i]? = some t) (hx : A.X[i]? = some l) {r : List Vl} {v u : Vl} (hs : t.stack = r ++ [v, u]) (ok : OpnOk m { t with stack := r }) (hsl : t.stack.length ≤ 10000) {fm : FmD} {j g : Nat} (hj : t.frames[j]? = some fm) (hjl : t.frames.length = j + 1) (hjb : j ≤ 1000) (hg : l.f.a = some ⟨g, 0, none⟩) (hrr : fm.ret ≤ r.length) :
    Calls Tryz.prog 268 #[.pointer (some ⟨A.b, 0, none⟩), .pointer (some ⟨A.bT, i * 5, none⟩), .pointer (some ⟨g, j * 5, none⟩)] w (EvPost (retP m i) w A f e i) := by
  obtain ⟨o1, o2, o3⟩ := top2 hi hs
  have hrl : r.length ≤ 100000 := ok.sl
  have H : Hid (VRep w A m f e) := h
  have HI : Hid (m.ths[i]? = some t) := hi
  have HX : Hid (A.X[i]? = some l) := hx
  have HJ : Hid (t.frames[j]? = some fm) := hj
  have HG : Hid (l.f.a = some ⟨g, 0, none⟩) := hg
  have HJL : Hid (t.frames.length = j + 1) := hjl
  have hs2 : t.stack = (r ++ [v]) ++ [u] := by rw [hs]; simp
  have HS : Hid (t.stack = (r ++ [v]) ++ [u]) := hs2
  have hr1 : (r ++ [v]).length ≤ 100000 := by have := hsl; rw [hs] at this; simp at this ⊢; omega
  have hr2 : r.length ≤ 9998 := by have := hsl; rw [hs] at this; simp at this ⊢; omega
  have OK : Hid (OpnOk (m.setTh i { t with stack := r }) { t with stack := r }) := ⟨ok.ok, ok.ol, ok.sl, ok.cl⟩
  have hR0 : t.frames.length = 1 → retP m i = (.inr ⟨1, 0, 0, v, u⟩, kill (m.setTh i { t with stack := r }) i) := fun hf1 => by
    simp only [retP, o1, o2, o3, VMD.th_some (setTh_at hi), hf1, if_true]
  have HR0 : Hid (t.frames.length = 1 → retP m i = (.inr ⟨1, 0, 0, v, u⟩, kill (m.setTh i { t with stack := r }) i)) := hR0
  have htf : topF (m.setTh i { t with stack := r }) i = fm := by
    simp only [topF, VMD.th_some (setTh_at hi), hjl]
    simp [hj]
  have hR1 : t.frames.length ≠ 1 → retP m i = (let m1 := cut (closeFrom (m.setTh i { t with stack := r }) i fm.base) i fm.ret; let m2 := push m1 i (if fm.prot then [boolV true, v] else [v, u]); (.inr ev0, m2.setTh i { m2.th i with frames := (m2.th i).frames.take ((m2.th i).frames.length - 1) })) := fun hf1 => by
    simp only [retP, o1, o2, o3, VMD.th_some (setTh_at hi), if_neg hf1, htf]
  have HR1 : Hid (t.frames.length ≠ 1 → retP m i = (let m1 := cut (closeFrom (m.setTh i { t with stack := r }) i fm.base) i fm.ret; let m2 := push m1 i (if fm.prot then [boolV true, v] else [v, u]); (.inr ev0, m2.setTh i { m2.th i with frames := (m2.th i).frames.take ((m2.th i).frames.length - 1) }))) := hR1
  clear hR0 hR1 htf o1 o2 o3 h hi hx hs ok hs2 hj hg hjl
  go_enter Tryz.func268, Tryz.ntmps268
  go_wp2_with fail
  have hp := vpop_any (H.out.fresh ((Fr.refl _ w).alloc (.cells #[.int .i64 0, .int .i64 0, .int .i64 0, .int .i64 0, .int .u64 0, sv [], .int .i64 0, .int .u64 0, sv []] 190))) HI.out HS.out hr1
  refine hp.mono ?_
  rintro e' w1 ⟨rfl, R1, S1⟩
  obtain ⟨b6, o6⟩ := S1.keep0 isT0 (Has.new w _ _) (H.out.own _ (Nat.le_refl _))
  have HB6 : Hid (Has w1 w.heap.size _ 190) := b6
  have HS1 : Hid (VSt (isT i) w A w1 A) := (VSt.fresh ((Fr.refl _ w).alloc _)).trans S1
  have HR1' : Hid (VRep w1 A (m.setTh i { t with stack := r ++ [v] }) f e) := R1
  have hs1 := S1.st.fr.size
  simp at hs1
  clear R1 S1 b6 hp
  obtain ⟨ut, un, us⟩ := u
  go_wp2_with fail
  have hp := vpop_any (HR1'.out.fresh ((Fr.refl _ w1).alloc (.cells #[.int .i64 ut, .int .u64 un, sv us] 68))) (setTh_at HI.out) rfl hrl
  refine hp.mono ?_
  rintro e' w2 ⟨rfl, R2, S2⟩
  rw [setTh_set] at R2
  obtain ⟨b7, o7⟩ := S2.keep0 isT0 (Has.new w1 _ _) (HR1'.out.own _ (Nat.le_refl _))
  obtain ⟨b6, o6'⟩ := S2.keep0 isT0 (HB6.out.alloc _) o6
  have HB6 : Hid (Has w2 w.heap.size _ 190) := b6
  have HB7 : Hid (Has w2 w1.heap.size #[.int .i64 ut, .int .u64 un, sv us] 68) := b7
  have HS2 : Hid (VSt (isT i) w A w2 A) := (HS1.out.trans (VSt.fresh ((Fr.refl _ w1).alloc _))).trans S2
  have HR2 : Hid (VRep w2 A (m.setTh i { t with stack := r }) f e) := R2
  have hs2 := S2.st.fr.size
  simp at hs2
  have c3 := R2.thCell (setTh_at HI.out) HX.out (j := 3) (by omega)
  simp only [thCells, List.getElem?_cons_succ, List.getElem?_cons_zero, Sl.v, HJL.out, HG.out] at c3
  have hT2 := R2.ths.here.has.lt
  clear R2 S2 b6 b7 hp
  obtain ⟨vt, vn, vs⟩ := v
  by_cases hj0 : j = 0
  · subst hj0
    have HK : Hid (∀ b, Calls Tryz.prog 261 #[.pointer (some ⟨A.b, 0, none⟩), .pointer (some ⟨A.bT, i * 5, none⟩)] (w2.alloc b) fun e' w' => e' = .returned (.tuple #[]) ∧ VRep w' A (kill (m.setTh i { t with stack := r }) i) f e ∧ VSt (fun k => isCo k ∨ isT i k) (w2.alloc b) A w' A) := fun b => kill_any (HR2.out.fresh ((Fr.refl _ w2).alloc b)) (setTh_at HI.out) OK.out
    go_wp2_with fail
    refine (HK.out _).mono ?_
    rintro e' w3 ⟨rfl, R3, S3⟩
    obtain ⟨b6, o6''⟩ := S3.keep0 isC0 (HB6.out.alloc _) o6
    obtain ⟨b7, o7''⟩ := S3.keep0 isC0 (HB7.out.alloc _) o7
    obtain ⟨b8, o8⟩ := S3.keep0 isC0 (Has.new w2 #[.int .i64 vt, .int .u64 vn, sv vs] 68) (HR2.out.own _ (Nat.le_refl _))
    have FIN : Hid (∀ y, VRep (set9 w3 w.heap.size y) A (kill (m.setTh i { t with stack := r }) i) f e ∧ VSt (fun k => isCo k ∨ isT i k) w A (set9 w3 w.heap.size y) A) := fun y => ⟨R3.set9 o6 y, (((HS2.out.weaken (fun k hk => .inr hk)).trans (VSt.fresh ((Fr.refl _ w2).alloc _))).trans S3).set9 (Nat.le_refl _) y⟩
    have HB6 : Hid (Has w3 w.heap.size (evCells ev0) 190) := b6
    obtain ⟨x0, x1, x2, x3, x4, x5, x6, x7, x8⟩ := HB6.out.ev
    obtain ⟨y0, y1, y2⟩ := b7.cells3 (v := ⟨ut, un, us⟩)
    obtain ⟨z0, z1, z2⟩ := b8.cells3 (v := ⟨vt, vn, vs⟩)
    have hb6 := b6.lt
    have hb7 := b7.lt
    have hb8 := b8.lt
    have hz := b6.frozen
    have hz0 := hz 0
    have hz1 := hz 1
    have hz2 := hz 2
    have hz3 := hz 3
    have hz4 := hz 4
    have hz5 := hz 5
    have hz6 := hz 6
    have hz7 := hz 7
    have hz8 := hz 8
    dsimp only [ev0, nilV] at x0 x1 x2 x3 x4 x5 x6 x7 x8 y0 y1 y2 z0 z1 z2
    have HR00 := HR0.out HJL.out
    have HRR : Hid (retP m i = (.inr ⟨1, 0, 0, ⟨vt, vn, vs⟩, ⟨ut, un, us⟩⟩, kill (m.setTh i { t with stack := r }) i)) := HR00
    clear R3 S3 b6 b7 b8 hz HR00 HR0 HR1
    go_wp2_with fail
    refine bodyPost_ret (res_cell isEvent rfl rfl (Has.set9 ⟨1, 0, 0, ⟨vt, vn, vs⟩, ⟨ut, un, us⟩⟩ HB6.out) rfl) rfl ?_
    exact ⟨⟨1, 0, 0, ⟨vt, vn, vs⟩, ⟨ut, un, us⟩⟩, _, A, HRR.out, rfl, (FIN.out ⟨1, 0, 0, ⟨vt, vn, vs⟩, ⟨ut, un, us⟩⟩).1, (FIN.out ⟨1, 0, 0, ⟨vt, vn, vs⟩, ⟨ut, un, us⟩⟩).2⟩
  · have hj1 : ((((j + 1 : Nat) : Int)) == 1) = false := by rw [beq_eq_false_iff_ne]; omega
    obtain ⟨g', ga, _, _, gl, gc, gf⟩ := HR2.out.fm (setTh_at HI.out) HX.out (j := j) HJ.out
    rw [HG.out] at ga
    cases ga
    have c52 := gc 2 (by omega)
    simp only [fCells, List.getElem?_cons_succ, List.getElem?_cons_zero] at c52
    have HC : Hid (∀ b, Calls Tryz.prog 260 #[.pointer (some ⟨A.b, 0, none⟩), .pointer (some ⟨A.bT, i * 5, none⟩), .int .i64 fm.base] (w2.alloc b) fun e' w' => e' = .returned (.tuple #[]) ∧ VRep w' A (closeFrom (m.setTh i { t with stack := r }) i fm.base) f e ∧ VSt (fun k => isCo k ∨ isT i k) (w2.alloc b) A w' A) := fun b => closeFrom_any (HR2.out.fresh ((Fr.refl _ w2).alloc b)) (setTh_at HI.out) OK.out fm.base
    clear gc gf
    go_wp2_with fail
    refine (HC.out _).mono ?_
    rintro e' w3 ⟨rfl, R3, S3⟩
    obtain ⟨t1, h1, h2, h3, h4, h5, h6⟩ := closeFrom_th (i := i) fm.base (setTh_at (t' := { t with stack := r }) HI.out)
    dsimp only at h2 h3 h4 h5
    have HH1 : Hid ((closeFrom (m.setTh i { t with stack := r }) i fm.base).ths[i]? = some t1) := h1
    have HH2 : Hid (t1.stack = r) := h2
    have HH3 : Hid (t1.frames = t.frames) := h3
    obtain ⟨b6, _⟩ := S3.keep0 isC0 (HB6.out.alloc _) o6
    obtain ⟨b7, _⟩ := S3.keep0 isC0 (HB7.out.alloc _) o7
    obtain ⟨b8, o8⟩ := S3.keep0 isC0 (Has.new w2 #[.int .i64 vt, .int .u64 vn, sv vs] 68) (HR2.out.own _ (Nat.le_refl _))
    have HB6 : Hid (Has w3 w.heap.size (evCells ev0) 190) := b6
    have HB7 : Hid (Has w3 w1.heap.size #[.int .i64 ut, .int .u64 un, sv us] 68) := b7
    have HB8 : Hid (Has w3 w2.heap.size #[.int .i64 vt, .int .u64 vn, sv vs] 68) := b8
    have HS3 : Hid (VSt (fun k => isCo k ∨ isT i k) w A w3 A) := ((HS2.out.weaken (fun k hk => .inr hk)).trans (VSt.fresh ((Fr.refl _ w2).alloc _))).trans S3
    have HR3 : Hid (VRep w3 A (closeFrom (m.setTh i { t with stack := r }) i fm.base) f e) := R3
    obtain ⟨g', ga, _, _, gl3, gc, gf⟩ := R3.fm h1 HX.out (j := j) (by rw [h3]; exact HJ.out)
    rw [HG.out] at ga
    cases ga
    have c53 := gc 3 (by omega)
    have c54 := gc 4 (by omega)
    simp only [fCells, List.getElem?_cons_succ, List.getElem?_cons_zero] at c53 c54
    have d2 := R3.thCell h1 HX.out (j := 2) (by omega)
    simp only [thCells, List.getElem?_cons_succ, List.getElem?_cons_zero, Sl.v, h2] at d2
    have z2 := R3.ths.frozen (i * 5 + 2)
    have hT3 := R3.ths.here.has.lt
    have ro := (R3.one h1 HX.out).s.form
    have hcap : r.length ≤ l.s.c := by
      rcases ro with ⟨h, h', h''⟩ | ⟨_, _, h⟩
      · rw [h2] at h'; rw [h']; exact Nat.zero_le _
      · rw [h2] at h; exact h
    have hbT : A.o A.bT = 13 := R3.ths.here.lb
    have go3 : A.o g = 21 + 3 * i := by
      obtain ⟨g'', ga, _, go, _⟩ := R3.fm h1 HX.out (j := j) (by rw [h3]; exact HJ.out)
      rw [HG.out] at ga
      cases ga
      exact go
    have hne : g ≠ A.bT := fun e => by rw [e, hbT] at go3; omega
    have hne' : A.bT ≠ g := fun e => hne e.symm
    obtain ⟨RL, HRL⟩ : ∃ N : Nat, Hid (r.length = N) := ⟨_, rfl⟩
    rw [HRL.out] at d2 hcap hrr hr2 hrl
    have hrr2 : ¬ (fm.ret : Int) < 0 := by omega
    have hrr3 : fm.ret ≤ l.s.c := by omega
    have hrb : fm.ret ≤ 100000 := by omega
    have FIN0 : Hid (∀ W, Fr (fun _ => False) w3 W → VRep (W.setCell ⟨A.bT, i * 5 + 2, none⟩ (.slice l.s.a fm.ret l.s.c)) A ((closeFrom (m.setTh i { t with stack := r }) i fm.base).setTh i { t1 with stack := r.take fm.ret }) f e ∧ VSt (fun k => isCo k ∨ isT i k) w A (W.setCell ⟨A.bT, i * 5 + 2, none⟩ (.slice l.s.a fm.ret l.s.c)) A ∧ Has (W.setCell ⟨A.bT, i * 5 + 2, none⟩ (.slice l.s.a fm.ret l.s.c)) w.heap.size (evCells ev0) 190) := fun W hW => by
      obtain ⟨x1, x2⟩ := (HR3.out.fresh hW).cutS HH1.out HX.out (n := fm.ret) (by rw [HH2.out, HRL.out]; exact hrr)
      rw [HH2.out] at x1
      exact ⟨x1, (HS3.out.trans (VSt.fresh hW)).trans (x2.weaken (fun k hk => .inr hk)), (x2.keep0 isT0 (HB6.out.fr hW (fun x => x)) o6).1⟩
    have HRF := HR1.out (by rw [HJL.out]; omega)
    have HRF2 : Hid (∀ vs', vs' = (if fm.prot then [boolV true, ⟨vt, vn, vs⟩] else [⟨vt, vn, vs⟩, ⟨ut, un, us⟩]) → retP m i = (.inr ev0, (closeFrom (m.setTh i { t with stack := r }) i fm.base).setTh i { t1 with stack := r.take fm.ret ++ vs', frames := t.frames.take j })) := fun vs' hvs => by
      rw [HRF, ← hvs]
      have q1 : (closeFrom (m.setTh i { t with stack := r }) i fm.base).th i = t1 := VMD.th_some HH1.out
      simp only [cut, push, q1, setTh_set, VMD.th_some (setTh_at HH1.out), HH2.out, HH3.out, HJL.out, Nat.add_sub_cancel]
    obtain ⟨y0, y1, y2⟩ := HB7.out.cells3 (v := ⟨ut, un, us⟩)
    obtain ⟨x0, x1, x2⟩ := HB8.out.cells3 (v := ⟨vt, vn, vs⟩)
    dsimp only at x0 x1 x2 y0 y1 y2
    have hn7 : w1.heap.size ≠ A.bT := fun e => by rw [e, hbT] at o7; omega
    have hn8 : w2.heap.size ≠ A.bT := by omega
    have hn7' : A.bT ≠ w1.heap.size := fun e => hn7 e.symm
    have hn8' : A.bT ≠ w2.heap.size := fun e => hn8 e.symm
    have hb7 := HB7.out.lt
    have hb8 := HB8.out.lt
    clear HRF HR0 HR1
    clear R3 S3 b6 b7 b8 gc gf h1 h2 h3 h4 h5 h6 ro c52
    go_wp2_with fail
    cases hpr : fm.prot with
    | true =>
      rw [hpr] at c54 HRF2
      refine wp_region_tail 10 (by kernel_rfl) (by kernel_rfl) (fun _ _ _ _ _ h => h) ?_
      simp only [List.take_succ_cons, List.take_zero, List.drop_succ_cons, List.drop_zero]
      repeat go_big_quiet_step (fail)
      refine wpQuiet_nil ?_
      obtain ⟨F1, F2, F3⟩ := FIN0.out w3.drew (Fr.refl _ w3).drew
      have HF1 : Hid (VRep _ _ _ _ _) := F1
      have HF2 : Hid (VSt _ _ _ _ _) := F2
      have HF3 : Hid (Has _ _ _ _) := F3
      clear F1 F2 F3
      go_wp2_with fail
      have hp := vpush_any (c := 2) (B := w3.heap.size) (HF1.out.fresh ((Fr.refl _ _).alloc (.cells #[.int .i64 1, .int .u64 1, sv [], .int .i64 vt, .int .u64 vn, sv vs] 68))) (setTh_at HH1.out) [boolV true, ⟨vt, vn, vs⟩] (by show 0 < 2; omega) (by simp [HRL.out]; omega) (Has.newC _ _ _ (by simp))
      refine hp.mono ?_
      rintro e' w5 ⟨rfl, A5, R5, S5⟩
      rw [setTh_set] at R5
      have hm5 : ((closeFrom (m.setTh i { t with stack := r }) i fm.base).setTh i { t1 with stack := r.take fm.ret ++ [boolV true, ⟨vt, vn, vs⟩] }).ths[i]? = some { t1 with stack := r.take fm.ret ++ [boolV true, ⟨vt, vn, vs⟩] } := setTh_at HH1.out
      obtain ⟨l5, hl5⟩ := R5.lays hm5
      have c3 := R5.thCell hm5 hl5 (j := 3) (by omega)
      simp only [thCells, List.getElem?_cons_succ, List.getElem?_cons_zero, Sl.v, S5.bT, HH3.out, HJL.out] at c3
      have z3 := R5.ths.frozen (i * 5 + 3)
      rw [S5.bT] at z3
      have hT5 := R5.ths.here.has.lt
      rw [S5.bT] at hT5
      have hcp : j ≤ l5.f.c := by
        rcases (R5.one hm5 hl5).f.form with ⟨h, h', h''⟩ | ⟨_, _, h⟩
        · dsimp only at h'; rw [HH3.out, HJL.out] at h'; omega
        · dsimp only at h; rw [HH3.out, HJL.out] at h; omega
      obtain ⟨b6, o65⟩ := S5.keep0 isT0 (HF3.out.alloc _) o6
      have HB5 : Hid (Has w5 w.heap.size (evCells ev0) 190) := b6
      have hb5 := b6.lt
      have hb5n : w.heap.size ≠ A.bT := fun e => by rw [e, hbT] at o6; omega
      have hb5n' : A.bT ≠ w.heap.size := fun e => hb5n e.symm
      have FIN : Hid (∀ W, Fr (fun _ => False) w5 W → VRep (set9 (W.setCell ⟨A.bT, i * 5 + 3, none⟩ (.slice l5.f.a j l5.f.c)) w.heap.size ⟨0, 0, 0, ⟨0, 0, []⟩, ⟨0, 0, []⟩⟩) A5 ((closeFrom (m.setTh i { t with stack := r }) i fm.base).setTh i { t1 with stack := r.take fm.ret ++ [boolV true, ⟨vt, vn, vs⟩], frames := t.frames.take j }) f e ∧ VSt (fun k => isCo k ∨ isT i k) w A (set9 (W.setCell ⟨A.bT, i * 5 + 3, none⟩ (.slice l5.f.a j l5.f.c)) w.heap.size ⟨0, 0, 0, ⟨0, 0, []⟩, ⟨0, 0, []⟩⟩) A5 ∧ Has (W.setCell ⟨A.bT, i * 5 + 3, none⟩ (.slice l5.f.a j l5.f.c)) w.heap.size (evCells ev0) 190) := fun W hW => by
        obtain ⟨x1, x2⟩ := (R5.fresh hW).cutF hm5 hl5 (n := j) (by show j ≤ t1.frames.length; rw [HH3.out, HJL.out]; omega)
        rw [setTh_set] at x1
        rw [S5.bT] at x1 x2
        dsimp only at x1
        rw [HH3.out] at x1
        exact ⟨x1.set9 o65 _, VSt.set9 (((((HF2.out.trans (VSt.fresh ((Fr.refl _ _).alloc _))).trans (S5.weaken (fun k hk => .inr hk))).trans (VSt.fresh hW)).trans (x2.weaken (fun k hk => .inr hk)))) (Nat.le_refl _) _, (x2.keep0 isT0 (HB5.out.fr hW (fun x => x)) o65).1⟩
      have HRR : Hid (retP m i = _) := HRF2.out [boolV true, ⟨vt, vn, vs⟩] (by simp)
      have hj3 : ((j : Int) + 1 - 1) = j := by omega
      obtain ⟨x0, x1, x2, x3, x4, x5, x6, x7, x8⟩ := HB5.out.ev
      dsimp only [ev0, nilV] at x0 x1 x2 x3 x4 x5 x6 x7 x8
      have hz := b6.frozen
      have hz0 := hz 0
      have hz1 := hz 1
      have hz2 := hz 2
      have hz3 := hz 3
      have hz4 := hz 4
      have hz5 := hz 5
      have hz6 := hz 6
      have hz7 := hz 7
      have hz8 := hz 8
      clear R5 S5 hm5 hl5 hp b6 hz HRF2
      go_wp2_with fail
      refine wp_region_tail 12 (by kernel_rfl) (by kernel_rfl) (fun _ _ _ _ _ h => h) ?_
      simp only [List.take_succ_cons, List.take_zero, List.drop_succ_cons, List.drop_zero]
      repeat go_big_quiet_step (fail)
      refine wpQuiet_nil ?_
      obtain ⟨G1, G2, G3⟩ := FIN.out w5 (Fr.refl _ w5)
      have HG1 : Hid (VRep _ _ _ _ _) := G1
      have HG2 : Hid (VSt _ _ _ _ _) := G2
      have HG3 : Hid (Has _ _ (evCells ⟨0, 0, 0, ⟨0, 0, []⟩, ⟨0, 0, []⟩⟩) _) := G3
      clear G1 G2 G3 FIN
      go_wp2_with fail
      refine bodyPost_ret (res_cell isEvent rfl rfl (Has.drew (Has.set9 ⟨0, 0, 0, ⟨0, 0, []⟩, ⟨0, 0, []⟩⟩ HG3.out)) rfl) rfl ?_
      exact ⟨ev0, _, A5, HRR.out, rfl, HG1.out.fresh (Fr.refl _ _).drew, HG2.out.trans (VSt.fresh (Fr.refl _ _).drew)⟩
    | false =>
      rw [hpr] at c54 HRF2
      refine wp_region_tail 10 (by kernel_rfl) (by kernel_rfl) (fun _ _ _ _ _ h => h) ?_
      simp only [List.take_succ_cons, List.take_zero, List.drop_succ_cons, List.drop_zero]
      repeat go_big_quiet_step (fail)
      refine wpQuiet_nil ?_
      obtain ⟨F1, F2, F3⟩ := FIN0.out w3.drew (Fr.refl _ w3).drew
      have HF1 : Hid (VRep _ _ _ _ _) := F1
      have HF2 : Hid (VSt _ _ _ _ _) := F2
      have HF3 : Hid (Has _ _ _ _) := F3
      clear F1 F2 F3
      go_wp2_with fail
      have hp := vpush_any (c := 2) (B := w3.heap.size) (HF1.out.fresh ((Fr.refl _ _).alloc (.cells #[.int .i64 vt, .int .u64 vn, sv vs, .int .i64 ut, .int .u64 un, sv us] 68))) (setTh_at HH1.out) [⟨vt, vn, vs⟩, ⟨ut, un, us⟩] (by show 0 < 2; omega) (by simp [HRL.out]; omega) (Has.newC _ _ _ (by simp))
      refine hp.mono ?_
      rintro e' w5 ⟨rfl, A5, R5, S5⟩
      rw [setTh_set] at R5
      have hm5 : ((closeFrom (m.setTh i { t with stack := r }) i fm.base).setTh i { t1 with stack := r.take fm.ret ++ [⟨vt, vn, vs⟩, ⟨ut, un, us⟩] }).ths[i]? = some { t1 with stack := r.take fm.ret ++ [⟨vt, vn, vs⟩, ⟨ut, un, us⟩] } := setTh_at HH1.out
      obtain ⟨l5, hl5⟩ := R5.lays hm5
      have c3 := R5.thCell hm5 hl5 (j := 3) (by omega)
      simp only [thCells, List.getElem?_cons_succ, List.getElem?_cons_zero, Sl.v, S5.bT, HH3.out, HJL.out] at c3
      have z3 := R5.ths.frozen (i * 5 + 3)
      rw [S5.bT] at z3
      have hT5 := R5.ths.here.has.lt
      rw [S5.bT] at hT5
      have hcp : j ≤ l5.f.c := by
        rcases (R5.one hm5 hl5).f.form with ⟨h, h', h''⟩ | ⟨_, _, h⟩
        · dsimp only at h'; rw [HH3.out, HJL.out] at h'; omega
        · dsimp only at h; rw [HH3.out, HJL.out] at h; omega
      obtain ⟨b6, o65⟩ := S5.keep0 isT0 (HF3.out.alloc _) o6
      have HB5 : Hid (Has w5 w.heap.size (evCells ev0) 190) := b6
      have hb5 := b6.lt
      have hb5n : w.heap.size ≠ A.bT := fun e => by rw [e, hbT] at o6; omega
      have hb5n' : A.bT ≠ w.heap.size := fun e => hb5n e.symm
      have FIN : Hid (∀ W, Fr (fun _ => False) w5 W → VRep (set9 (W.setCell ⟨A.bT, i * 5 + 3, none⟩ (.slice l5.f.a j l5.f.c)) w.heap.size ⟨0, 0, 0, ⟨0, 0, []⟩, ⟨0, 0, []⟩⟩) A5 ((closeFrom (m.setTh i { t with stack := r }) i fm.base).setTh i { t1 with stack := r.take fm.ret ++ [⟨vt, vn, vs⟩, ⟨ut, un, us⟩], frames := t.frames.take j }) f e ∧ VSt (fun k => isCo k ∨ isT i k) w A (set9 (W.setCell ⟨A.bT, i * 5 + 3, none⟩ (.slice l5.f.a j l5.f.c)) w.heap.size ⟨0, 0, 0, ⟨0, 0, []⟩, ⟨0, 0, []⟩⟩) A5 ∧ Has (W.setCell ⟨A.bT, i * 5 + 3, none⟩ (.slice l5.f.a j l5.f.c)) w.heap.size (evCells ev0) 190) := fun W hW => by
        obtain ⟨x1, x2⟩ := (R5.fresh hW).cutF hm5 hl5 (n := j) (by show j ≤ t1.frames.length; rw [HH3.out, HJL.out]; omega)
        rw [setTh_set] at x1
        rw [S5.bT] at x1 x2
        dsimp only at x1
        rw [HH3.out] at x1
        exact ⟨x1.set9 o65 _, VSt.set9 (((((HF2.out.trans (VSt.fresh ((Fr.refl _ _).alloc _))).trans (S5.weaken (fun k hk => .inr hk))).trans (VSt.fresh hW)).trans (x2.weaken (fun k hk => .inr hk)))) (Nat.le_refl _) _, (x2.keep0 isT0 (HB5.out.fr hW (fun x => x)) o65).1⟩
      have HRR : Hid (retP m i = _) := HRF2.out [⟨vt, vn, vs⟩, ⟨ut, un, us⟩] (by simp)
      have hj3 : ((j : Int) + 1 - 1) = j := by omega
      obtain ⟨x0, x1, x2, x3, x4, x5, x6, x7, x8⟩ := HB5.out.ev
      dsimp only [ev0, nilV] at x0 x1 x2 x3 x4 x5 x6 x7 x8
      have hz := b6.frozen
      have hz0 := hz 0
      have hz1 := hz 1
      have hz2 := hz 2
      have hz3 := hz 3
      have hz4 := hz 4
      have hz5 := hz 5
      have hz6 := hz 6
      have hz7 := hz 7
      have hz8 := hz 8
      clear R5 S5 hm5 hl5 hp b6 hz HRF2
      go_wp2_with fail
      refine wp_region_tail 12 (by kernel_rfl) (by kernel_rfl) (fun _ _ _ _ _ h => h) ?_
      simp only [List.take_succ_cons, List.take_zero, List.drop_succ_cons, List.drop_zero]
      repeat go_big_quiet_step (fail)
      refine wpQuiet_nil ?_
      obtain ⟨G1, G2, G3⟩ := FIN.out w5 (Fr.refl _ w5)
      have HG1 : Hid (VRep _ _ _ _ _) := G1
      have HG2 : Hid (VSt _ _ _ _ _) := G2
      have HG3 : Hid (Has _ _ (evCells ⟨0, 0, 0, ⟨0, 0, []⟩, ⟨0, 0, []⟩⟩) _) := G3
      clear G1 G2 G3 FIN
      go_wp2_with fail
      refine bodyPost_ret (res_cell isEvent rfl rfl (Has.drew (Has.set9 ⟨0, 0, 0, ⟨0, 0, []⟩, ⟨0, 0, []⟩⟩ HG3.out)) rfl) rfl ?_
      exact ⟨ev0, _, A5, HRR.out, rfl, HG1.out.fresh (Fr.refl _ _).drew, HG2.out.trans (VSt.fresh (Fr.refl _ _).drew)⟩
end
end Go.Proofs.Qxb6500574aGreatDoor
