/-
  THE WALK of vm: plain: stores into tables.
-/
import Derived.Test.Qxb6500574aGreatDoorVPl0
namespace Go.Proofs.Qxb6500574aGreatDoor
open Go Go.RowKit
set_option linter.unusedVariables false
set_option linter.unusedSimpArgs false
section
variable {w : World} {A : VL} {m : VMD} {f e i g j gp pi : Nat} {t : ThD} {K : Cx} {fm : FmD} {p : PrD}
set_option maxRecDepth 100000
set_option maxHeartbeats 400000
theorem PlPost.ends {r : RR Unit} {w : World} {A : VL} {f e i : Nat} {e' : Ending} {w' : World} (h : PlPost r w A f e i e' w') : e' = .returned (.tuple #[]) ∨ ∃ ch, e' = .panicked ch := by
  unfold PlPost at h
  split at h
  · exact .inl h.1
  · obtain ⟨⟨b, hb, _⟩, _⟩ := h
    exact .inr ⟨_, hb⟩
  · exact .inr ⟨_, h.1⟩
theorem plain_10 (h : PB w A m f e K i t fm g j gp pi p) {x : Nat} (hx16 : x < 65536) {c b : Vl} {r : List Vl} (hs : t.stack = r ++ [b]) (hc : m.consts[p.k + x]? = some c) :
    Calls Tryz.prog 269 #[.pointer (some ⟨A.b, 0, none⟩), .int .i64 i, .pointer (some ⟨A.bT, i * 5, none⟩), .pointer (some ⟨g, j * 5, none⟩), .pointer (some ⟨gp, pi * 8, none⟩), .int .u8 10, .int .i64 x] w (PlPost (plainP m i 10 x) w A f e i) := by
  have hop : plainP m i 10 x = storeP (m.setTh i { t with stack := r }) 0 c b := by
    unfold plainP
    simp (config := { decide := true }) only [if_true, if_false]
    rw [h.at'.topF, h.pe, pops_1 h.at'.hi hs, topV_0 h.at'.hi hs]
    simp [hc]
  obtain ⟨Q, HQ⟩ : ∃ Q : Ending → World → Prop, Hid (PlPost (plainP m i 10 x) w A f e i = Q) := ⟨_, rfl⟩
  rw [HQ.out]
  have HOP : Hid (plainP m i 10 x = _) := hop
  clear hop
  have HI : Hid (m.ths[i]? = some t) := h.at'.hi
  have HB : Hid (PB w A m f e K i t fm g j gp pi p) := h
  have HC : Hid (m.consts[p.k + x]? = some c) := hc
  have HVC : Hid (VOk K c) := (h.at'.vi.txt.ks c (List.mem_of_getElem? hc)).2 K
  have HS : Hid (t.stack = r ++ [b]) := hs
  have HVB : Hid (VOk K b) := h.at'.ok.sv b (by rw [hs]; simp)
  clear hc hs
  obtain ⟨l, hx, hg, c1, c2, c3, c4, c5, c6, c7, c8, c9, c10, c11, c12⟩ := h.cells
  have HX : Hid (A.X[i]? = some l) := hx
  have HG : Hid (l.f.a = some ⟨g, 0, none⟩) := hg
  have HSN : Hid (t.stack.length ≤ 1120) := c11
  obtain ⟨sa, HSA⟩ : ∃ sa, Hid (l.s.a = sa) := ⟨_, rfl⟩
  obtain ⟨sc, HSC⟩ : ∃ sc, Hid (l.s.c = sc) := ⟨_, rfl⟩
  rw [HSA.out, HSC.out] at c1
  rw [HSC.out] at c9
  obtain ⟨n, HN⟩ : ∃ n, Hid (t.stack.length = n) := ⟨_, rfl⟩
  rw [HN.out] at c1 c9 c10 c11
  clear h hx hg
  go_enter Tryz.func269, Tryz.ntmps269
  go_wp2_with fail
  go_quiet (fail)
  obtain ⟨SL, HSL⟩ : ∃ v, Hid (Value.slice (if sc = fm.base then sa else Option.map (fun x => x.add (fm.base * 3)) sa) (fm.base + p.ns - fm.base) (sc - fm.base) = v) := ⟨_, rfl⟩
  rw [HSL.out]
  have F0 : Fr (fun _ => False) w (w.drewN nq) := (Fr.refl _ _).drewN nq
  obtain ⟨w0, HW0⟩ : ∃ w0, Hid (w.drewN nq = w0) := ⟨_, rfl⟩
  rw [HW0.out] at F0 ⊢
  have HF0 : Hid (Fr (fun _ => False) w w0) := F0
  have B0 := HB.out.fresh F0
  have HB0 : Hid (PB w0 A m f e K i t fm g j gp pi p) := B0
  clear F0 c1 c2 c3 c4 c5 c6 c7 c8
  clear B0
  go_wp2_with fail
  refine (vpop_any HB0.out.rep HI.out HS.out (by have := HSN.out; rw [HS.out] at this; simp at this ⊢; omega)).mono ?_
  rintro e' w1 ⟨rfl, r1, s1⟩
  have HS1 : Hid (VSt isVM w A w1 A) := (VSt.fresh HF0.out).trans (s1.weaken (fun k hk => by unfold isVM; unfold isT at hk; omega))
  have HR1 : Hid (VRep w1 A (m.setTh i { t with stack := r }) f e) := r1
  obtain ⟨bt, bn, bs⟩ := b
  obtain ⟨w2, HW2⟩ : ∃ w2, Hid (w1.alloc (.cells #[.int .i64 bt, .int .u64 bn, sv bs] 68) = w2) := ⟨_, rfl⟩
  have F2 : Fr (fun _ => False) w1 w2 := by rw [← HW2.out]; exact (Fr.refl _ _).alloc _
  have k2 : Has w2 w1.heap.size #[.int .i64 bt, .int .u64 bn, sv bs] 68 := by rw [← HW2.out]; exact Has.new _ _ _
  have R2 := r1.fresh F2
  have HR2 : Hid (VRep w2 A (m.setTh i { t with stack := r }) f e) := R2
  have HF2 : Hid (Fr (fun _ => False) w1 w2) := F2
  have cc := R2.cell0 4
  simp only [vmCells, List.getElem?_toArray, List.getElem?_cons_succ, List.getElem?_cons_zero, Sl.v, VMD.setTh] at cc
  have hbl := R2.bl
  obtain ⟨gc, k1, kk2, k3, k4, k5, k6⟩ := R2.core.consts.at vCells_len (show (m.setTh i { t with stack := r }).consts[p.k + x]? = some c from HC.out)
  rw [k1] at cc
  have k50 := k5 0 (by omega)
  have k51 := k5 1 (by omega)
  have k52 := k5 2 (by omega)
  simp only [vCells, List.getElem?_cons_succ, List.getElem?_cons_zero, Nat.add_zero] at k50 k51 k52
  have p4 : w2.cell? ⟨gp, pi * 8 + 4, none⟩ = some (.int .i64 p.k) := by
    obtain ⟨g2, b1, b2, b3, b4, b5, b6⟩ := R2.core.protos.at pCells_len (show (m.setTh i { t with stack := r }).protos[pi]? = some p from HB0.out.hp)
    rw [HB0.out.pa] at b1
    cases b1
    have r4 := b5 4 (by omega)
    simpa only [pCells, List.getElem?_cons_succ, List.getElem?_cons_zero] using r4
  have pl : gp < w2.heap.size := by
    obtain ⟨_, _, _, _, _, _, _, _, _, _, pl, _⟩ := HB0.out.cells
    have := s1.st.fr.size
    have := F2.size
    omega
  have hkl := (List.getElem?_eq_some_iff.1 HC.out).1
  have hkx := HB0.out.at'.vi.txt.kl
  have hkt := HB0.out.at'.vi.kt
  have hkn := HB0.out.at'.vi.tn
  have hk1 := HB0.out.at'.vi.t1
  obtain ⟨td, htd⟩ : ∃ td, m.tabs[0]? = some td := ⟨m.tabs[0]'(by omega), by simp⟩
  have HTF : Hid (TFit td) := (HB0.out.at'.vi.tb td (List.mem_of_getElem? htd)).1
  have HTD : Hid (m.tabs[0]? = some td) := htd
  obtain ⟨q0, q1, q2⟩ := Has.cells3 (v := ⟨bt, bn, bs⟩) k2
  have ql := k2.lt
  clear htd k1 k3 k5 k6 R2 F2 k2 r1 s1
  obtain ⟨ct, cn, cs⟩ := c
  dsimp only at q0 q1 q2 k50 k51 k52 kk2
  go_wp2_with fail
  have e2 : w1.alloc (.cells #[.int .i64 bt, .int .u64 bn, .string ⟨bs.toArray⟩] 68) = w2 := HW2.out
  rw [e2]
  clear e2
  refine wp_region_tail 14 (by kernel_rfl) (by kernel_rfl) (fun _ _ _ _ _ h => h) ?_
  simp only [List.take_succ_cons, List.take_zero, List.drop_succ_cons, List.drop_zero, List.eraseIdx_cons_succ, List.eraseIdx_cons_zero]
  repeat go_big_quiet_step (fail)
  refine wpQuiet_nil ?_
  clear q0 q1 q2 k50 k51 k52 cc p4
  go_wp2_with fail
  refine (store_any (i := i) (HR2.out.fresh ((Fr.refl _ _).drew)) (show (m.setTh i { t with stack := r }).tabs[0]? = some td from HTD.out) HTF.out (by show m.tabs.length ≤ 12; omega) HVC.out.w HVB.out.w (fun _ => HVC.out.b)).mono ?_
  intro e' wz hz
  have FIN : Hid (Q e' wz) := by
    rw [← HQ.out, HOP.out]
    exact PlPost.pre ((HS1.out.trans (VSt.fresh HF2.out)).trans (VSt.fresh ((Fr.refl _ _).drew))) (FK.refl _ _) hz
  rcases hz.ends with rfl | ⟨ch, rfl⟩
  · clear hz
    go_wp2_with fail
    go_end0
    exact FIN.out
  · exact ⟨rfl, FIN.out⟩
end
end Go.Proofs.Qxb6500574aGreatDoor
