/-
  THE WALK of vm: plain: stores into tables, behind pops.
-/
import Derived.Test.Qxb6500574aGreatDoorVPl0
import Derived.Test.Qxb6500574aGreatDoorVPl6
namespace Go.Proofs.Qxb6500574aGreatDoor
open Go Go.RowKit
set_option linter.unusedVariables false
set_option linter.unusedSimpArgs false
section
variable {w : World} {A : VL} {m : VMD} {f e i g j gp pi : Nat} {t : ThD} {K : Cx} {fm : FmD} {p : PrD}
set_option maxRecDepth 100000
set_option maxHeartbeats 400000
theorem plain_12 (h : PB w A m f e K i t fm g j gp pi p) {x : Nat} (hx16 : x < 65536) {a k v : Vl} {r : List Vl} (hs : t.stack = r ++ [a, k, v]) :
    Calls Tryz.prog 269 #[.pointer (some ⟨A.b, 0, none⟩), .int .i64 i, .pointer (some ⟨A.bT, i * 5, none⟩), .pointer (some ⟨g, j * 5, none⟩), .pointer (some ⟨gp, pi * 8, none⟩), .int .u8 12, .int .i64 x] w (PlPost (plainP m i 12 x) w A f e i) := by
  have hop : plainP m i 12 x = (if a.t ≠ 4 then thrR mIndex (m.setTh i { t with stack := r }) else storeP (m.setTh i { t with stack := r }) a.n k v) := by
    unfold plainP
    simp (config := { decide := true }) only [if_true, if_false]
    rw [pops_is h.at'.hi 3]
    have e0 : topV m i 0 = v := by simp [topV, th_get h.at'.hi, hs]
    have e1 : topV m i 1 = k := by simp [topV, th_get h.at'.hi, hs]
    have e2 : topV m i 2 = a := by simp [topV, th_get h.at'.hi, hs]
    rw [e0, e1, e2]
    simp [hs]
  obtain ⟨Q, HQ⟩ : ∃ Q : Ending → World → Prop, Hid (PlPost (plainP m i 12 x) w A f e i = Q) := ⟨_, rfl⟩
  rw [HQ.out]
  have HOP : Hid (plainP m i 12 x = _) := hop
  clear hop
  have HI : Hid (m.ths[i]? = some t) := h.at'.hi
  have HB : Hid (PB w A m f e K i t fm g j gp pi p) := h
  have HS : Hid (t.stack = (r ++ [a, k]) ++ [v]) := by
    show _ = _
    rw [hs]; simp
  have HVV : Hid (VOk K v) := h.at'.ok.sv v (by rw [hs]; simp)
  have HVK : Hid (VOk K k) := h.at'.ok.sv k (by rw [hs]; simp)
  have HVA : Hid (VOk K a) := h.at'.ok.sv a (by rw [hs]; simp)
  clear hs
  obtain ⟨l, hx, hg, c1, c2, c3, c4, c5, c6, c7, c8, c9, c10, c11, c12⟩ := h.cells
  have HX : Hid (A.X[i]? = some l) := hx
  have HG : Hid (l.f.a = some ⟨g, 0, none⟩) := hg
  have HSN : Hid (t.stack.length ≤ 1120) := c11
  obtain ⟨sa, HSA⟩ : ∃ sa, Hid (l.s.a = sa) := ⟨_, rfl⟩
  obtain ⟨sc, HSC⟩ : ∃ sc, Hid (l.s.c = sc) := ⟨_, rfl⟩
  rw [HSA.out, HSC.out] at c1
  rw [HSC.out] at c9
  obtain ⟨n, HN⟩ : ∃ n, Hid (t.stack.length = n) := ⟨_, rfl⟩
  rw [HN.out] at c1 c9 c10 c11
  clear h hx hg
  go_enter Tryz.func269, Tryz.ntmps269
  go_wp2_with fail
  go_quiet (fail)
  obtain ⟨SL, HSL⟩ : ∃ v, Hid (Value.slice (if sc = fm.base then sa else Option.map (fun x => x.add (fm.base * 3)) sa) (fm.base + p.ns - fm.base) (sc - fm.base) = v) := ⟨_, rfl⟩
  rw [HSL.out]
  have F0 : Fr (fun _ => False) w (w.drewN nq) := (Fr.refl _ _).drewN nq
  obtain ⟨w0, HW0⟩ : ∃ w0, Hid (w.drewN nq = w0) := ⟨_, rfl⟩
  rw [HW0.out] at F0 ⊢
  have HF0 : Hid (Fr (fun _ => False) w w0) := F0
  have B0 := HB.out.fresh F0
  have HB0 : Hid (PB w0 A m f e K i t fm g j gp pi p) := B0
  clear F0 c1 c2 c3 c4 c5 c6 c7 c8
  clear B0
  go_wp2_with fail
  refine (vpop_any HB0.out.rep HI.out HS.out (by have := HSN.out; rw [HS.out] at this; simp at this ⊢; omega)).mono ?_
  rintro e' w1 ⟨rfl, r1, s1⟩
  have HR1 : Hid (VRep w1 A (m.setTh i { t with stack := r ++ [a, k] }) f e) := r1
  have HS1 : Hid (VSt (isT i) w A w1 A) := (VSt.fresh HF0.out).trans s1
  have hz1 : A.o w1.heap.size = 0 := r1.own _ (Nat.le_refl _)
  have HZ1 : Hid (A.o w1.heap.size = 0) := hz1
  clear r1 s1 hz1
  obtain ⟨vt, vn, vs⟩ := v
  go_wp2_with fail
  refine (vpop_any (r := r ++ [a]) (v := k) (HR1.out.fresh ((Fr.refl _ w1).alloc (.cells #[.int .i64 vt, .int .u64 vn, sv vs] 68))) (setTh_at HI.out) (by simp) (by have := HSN.out; rw [HS.out] at this; simp at this ⊢; omega)).mono ?_
  rintro e' w2 ⟨rfl, r2, s2⟩
  rw [setTh_set] at r2
  have k21 : Has w2 w1.heap.size #[.int .i64 vt, .int .u64 vn, sv vs] 68 := (s2.keep0 isT0 (Has.new w1 _ _) HZ1.out).1
  have HS2 : Hid (VSt (isT i) w A w2 A) := (HS1.out.trans (VSt.fresh ((Fr.refl _ w1).alloc _))).trans s2
  have hz2 : A.o w2.heap.size = 0 := r2.own _ (Nat.le_refl _)
  have HZ2 : Hid (A.o w2.heap.size = 0) := hz2
  have HR2 : Hid (VRep w2 A (m.setTh i { t with stack := r ++ [a] }) f e) := r2
  have HK21 : Hid (Has w2 w1.heap.size #[.int .i64 vt, .int .u64 vn, sv vs] 68) := k21
  clear r2 s2 k21 hz2
  obtain ⟨kt, kn, ks⟩ := k
  go_wp2_with fail
  refine (vpop_any (HR2.out.fresh ((Fr.refl _ w2).alloc (.cells #[.int .i64 kt, .int .u64 kn, sv ks] 68))) (setTh_at HI.out) rfl (by have := HSN.out; rw [HS.out] at this; simp at this; omega)).mono ?_
  rintro e' w3 ⟨rfl, r3, s3⟩
  rw [setTh_set] at r3
  have k31 : Has w3 w1.heap.size #[.int .i64 vt, .int .u64 vn, sv vs] 68 := (s3.keep0 isT0 (HK21.out.alloc _) HZ1.out).1
  have k32 : Has w3 w2.heap.size #[.int .i64 kt, .int .u64 kn, sv ks] 68 := (s3.keep0 isT0 (Has.new w2 _ _) HZ2.out).1
  have HS3 : Hid (VSt (isT i) w A w3 A) := (HS2.out.trans (VSt.fresh ((Fr.refl _ w2).alloc _))).trans s3
  have HR3 : Hid (VRep w3 A (m.setTh i { t with stack := r }) f e) := r3
  have HK31 : Hid (Has w3 w1.heap.size #[.int .i64 vt, .int .u64 vn, sv vs] 68) := k31
  have HK32 : Hid (Has w3 w2.heap.size #[.int .i64 kt, .int .u64 kn, sv ks] 68) := k32
  clear r3 s3 k31 k32
  obtain ⟨aT, an, aS⟩ := a
  by_cases h4 : aT = 4
  · subst h4
    rw [if_neg (by simp)] at HOP
    have hnt := HVA.out.t rfl
    have hkt := HB0.out.at'.vi.kt
    have hkn := HB0.out.at'.vi.tn
    dsimp only at hnt
    obtain ⟨td, htd⟩ : ∃ td, m.tabs[an]? = some td := ⟨m.tabs[an]'(by omega), by simp⟩
    have HTF : Hid (TFit td) := (HB0.out.at'.vi.tb td (List.mem_of_getElem? htd)).1
    have HTD : Hid (m.tabs[an]? = some td) := htd
    clear htd
    try dsimp only at HOP
    go_wp2_with fail
    refine (tabOf_ok an (by omega) aS mIndex).mono ?_
    rintro e' w4 ⟨rfl, f4⟩
    have F4 : Fr (fun _ => False) w3 w4 := ((Fr.refl _ w3).alloc _).trans f4 (fun _ _ x => x)
    have HF4 : Hid (Fr (fun _ => False) w3 w4) := F4
    obtain ⟨q0, q1, q2⟩ := Has.cells3 (v := ⟨vt, vn, vs⟩) (HK31.out.fr F4 (fun x => x))
    obtain ⟨q3, q4, q5⟩ := Has.cells3 (v := ⟨kt, kn, ks⟩) (HK32.out.fr F4 (fun x => x))
    have ql := (HK31.out.fr F4 (fun x => x)).lt
    have ql2 := (HK32.out.fr F4 (fun x => x)).lt
    dsimp only at q0 q1 q2 q3 q4 q5
    clear f4 F4
    go_wp2_with fail
    refine (store_any (i := i) (HR3.out.fresh HF4.out) (show (m.setTh i { t with stack := r }).tabs[an]? = some td from HTD.out) HTF.out (by show m.tabs.length ≤ 12; omega) HVK.out.w HVV.out.w (fun _ => HVK.out.b)).mono ?_
    intro e' wz hz
    have FIN : Hid (Q e' wz) := by
      rw [← HQ.out, HOP.out]
      exact PlPost.pre ((HS3.out.weaken (fun k hk => by unfold isVM; unfold isT at hk; omega)).trans (VSt.fresh HF4.out)) (FK.refl _ _) hz
    rcases hz.ends with rfl | ⟨ch, rfl⟩
    · clear hz
      go_wp2_with fail
      go_end0
      exact FIN.out
    · exact ⟨rfl, FIN.out⟩
  · go_wp2_with fail
    refine (tabOf_no ⟨aT, an, aS⟩ h4 mIndex).mono ?_
    rintro e' w4 ⟨⟨b, rfl, hb, hbl⟩, f4⟩
    have FIN : Hid (Q (.panicked (thrE b)) w4) := by
      rw [← HQ.out, HOP.out, if_pos h4]
      have sz := HS3.out.st.fr.size
      exact ⟨⟨b, rfl, hb, by simp at hbl; omega⟩, A, HR3.out.fresh (((Fr.refl _ _).alloc _).trans f4 (fun _ _ x => x)), (HS3.out.weaken (fun k hk => by unfold isVM; unfold isT at hk; omega)).trans (VSt.fresh (((Fr.refl _ _).alloc _).trans f4 (fun _ _ x => x)))⟩
    exact ⟨rfl, FIN.out⟩
theorem plain_13 (h : PB w A m f e K i t fm g j gp pi p) {x : Nat} (hx16 : x < 65536) {a v : Vl} {r : List Vl} (hs : t.stack = r ++ [a, v]) :
    Calls Tryz.prog 269 #[.pointer (some ⟨A.b, 0, none⟩), .int .i64 i, .pointer (some ⟨A.bT, i * 5, none⟩), .pointer (some ⟨g, j * 5, none⟩), .pointer (some ⟨gp, pi * 8, none⟩), .int .u8 13, .int .i64 x] w (PlPost (plainP m i 13 x) w A f e i) := by
  have hop : plainP m i 13 x = (if a.t ≠ 4 then thrR mIndex (m.setTh i { t with stack := r ++ [a] }) else storeP (m.setTh i { t with stack := r ++ [a] }) a.n (numV (fromIntN x)) v) := by
    unfold plainP
    simp (config := { decide := true }) only [if_true, if_false]
    rw [pops_1 h.at'.hi (show t.stack = (r ++ [a]) ++ [v] by rw [hs]; simp), (topV_1 h.at'.hi hs).1, (topV_1 h.at'.hi hs).2]
  obtain ⟨Q, HQ⟩ : ∃ Q : Ending → World → Prop, Hid (PlPost (plainP m i 13 x) w A f e i = Q) := ⟨_, rfl⟩
  rw [HQ.out]
  have HOP : Hid (plainP m i 13 x = _) := hop
  clear hop
  have HI : Hid (m.ths[i]? = some t) := h.at'.hi
  have HB : Hid (PB w A m f e K i t fm g j gp pi p) := h
  have HS : Hid (t.stack = (r ++ [a]) ++ [v]) := by
    show _ = _
    rw [hs]; simp
  have HVV : Hid (VOk K v) := h.at'.ok.sv v (by rw [hs]; simp)
  have HVA : Hid (VOk K a) := h.at'.ok.sv a (by rw [hs]; simp)
  clear hs
  obtain ⟨l, hx, hg, c1, c2, c3, c4, c5, c6, c7, c8, c9, c10, c11, c12⟩ := h.cells
  have HX : Hid (A.X[i]? = some l) := hx
  have HG : Hid (l.f.a = some ⟨g, 0, none⟩) := hg
  have HSN : Hid (t.stack.length ≤ 1120) := c11
  obtain ⟨sa, HSA⟩ : ∃ sa, Hid (l.s.a = sa) := ⟨_, rfl⟩
  obtain ⟨sc, HSC⟩ : ∃ sc, Hid (l.s.c = sc) := ⟨_, rfl⟩
  rw [HSA.out, HSC.out] at c1
  rw [HSC.out] at c9
  obtain ⟨n, HN⟩ : ∃ n, Hid (t.stack.length = n) := ⟨_, rfl⟩
  rw [HN.out] at c1 c9 c10 c11
  clear h hx hg
  go_enter Tryz.func269, Tryz.ntmps269
  go_wp2_with fail
  go_quiet (fail)
  obtain ⟨SL, HSL⟩ : ∃ v, Hid (Value.slice (if sc = fm.base then sa else Option.map (fun x => x.add (fm.base * 3)) sa) (fm.base + p.ns - fm.base) (sc - fm.base) = v) := ⟨_, rfl⟩
  rw [HSL.out]
  have F0 : Fr (fun _ => False) w (w.drewN nq) := (Fr.refl _ _).drewN nq
  obtain ⟨w0, HW0⟩ : ∃ w0, Hid (w.drewN nq = w0) := ⟨_, rfl⟩
  rw [HW0.out] at F0 ⊢
  have HF0 : Hid (Fr (fun _ => False) w w0) := F0
  have B0 := HB.out.fresh F0
  have HB0 : Hid (PB w0 A m f e K i t fm g j gp pi p) := B0
  clear F0 c1 c2 c3 c4 c5 c6 c7 c8
  clear B0
  go_wp2_with fail
  refine (vpop_any HB0.out.rep HI.out HS.out (by have := HSN.out; rw [HS.out] at this; simp at this ⊢; omega)).mono ?_
  rintro e' w1 ⟨rfl, r1, s1⟩
  have HS1 : Hid (VSt (isT i) w A w1 A) := (VSt.fresh HF0.out).trans s1
  obtain ⟨vt, vn, vs⟩ := v
  obtain ⟨w2, HW2⟩ : ∃ w2, Hid (w1.alloc (.cells #[.int .i64 vt, .int .u64 vn, sv vs] 68) = w2) := ⟨_, rfl⟩
  have F2 : Fr (fun _ => False) w1 w2 := by rw [← HW2.out]; exact (Fr.refl _ _).alloc _
  have k2 : Has w2 w1.heap.size #[.int .i64 vt, .int .u64 vn, sv vs] 68 := by rw [← HW2.out]; exact Has.new _ _ _
  have R2 := r1.fresh F2
  have HR2 : Hid (VRep w2 A (m.setTh i { t with stack := r ++ [a] }) f e) := R2
  have HF2 : Hid (Fr (fun _ => False) w1 w2) := F2
  have HK2 : Hid (Has w2 w1.heap.size #[.int .i64 vt, .int .u64 vn, sv vs] 68) := k2
  have HS2 : Hid (VSt (isT i) w A w2 A) := HS1.out.trans (VSt.fresh F2)
  have c2 := R2.thCell (setTh_at HI.out) HX.out (j := 2) (by omega)
  simp only [thCells, List.getElem?_cons_succ, List.getElem?_cons_zero, Sl.v, List.length_append, List.length_cons, List.length_nil, Nat.zero_add] at c2
  obtain ⟨g1, a1, a2, a3, a4, a5, a6, a7, a8⟩ := R2.val (setTh_at HI.out) HX.out (j := r.length) (v := a) (by simp)
  rw [a1] at c2
  have hrl : r.length ≤ 1120 := by
    have := HSN.out
    rw [HS.out] at this
    simp at this
    omega
  have hrc : r.length + 1 ≤ l.s.c := by
    simpa using a2
  have hTl := R2.ths.here.has.lt
  obtain ⟨M, HM⟩ : ∃ M, Hid (r.length = M) := ⟨_, rfl⟩
  rw [HM.out] at c2 a5 a6 a7 hrl hrc
  clear a2 a3 a8 R2 F2 k2 r1 s1
  obtain ⟨aT, an, aS⟩ := a
  dsimp only at a5 a6 a7
  go_wp2_with fail
  have e2 : w1.alloc (.cells #[.int .i64 vt, .int .u64 vn, .string ⟨vs.toArray⟩] 68) = w2 := HW2.out
  rw [e2]
  clear e2
  refine wp_region_tail 12 (by kernel_rfl) (by kernel_rfl) (fun _ _ _ _ _ h => h) ?_
  simp only [List.take_succ_cons, List.take_zero, List.drop_succ_cons, List.drop_zero, List.eraseIdx_cons_succ, List.eraseIdx_cons_zero]
  repeat go_big_quiet_step (fail)
  refine wpQuiet_nil ?_
  clear c2 a5 a6 a7 a1
  by_cases h4 : aT = 4
  · subst h4
    rw [if_neg (by simp)] at HOP
    have hnt := HVA.out.t rfl
    have hkt := HB0.out.at'.vi.kt
    have hkn := HB0.out.at'.vi.tn
    dsimp only at hnt
    obtain ⟨td, htd⟩ : ∃ td, m.tabs[an]? = some td := ⟨m.tabs[an]'(by omega), by simp⟩
    have HTF : Hid (TFit td) := (HB0.out.at'.vi.tb td (List.mem_of_getElem? htd)).1
    have HTD : Hid (m.tabs[an]? = some td) := htd
    clear htd
    try dsimp only at HOP
    go_wp2_with fail
    refine (tabOf_ok an (by omega) aS mIndex).mono ?_
    rintro e' w4 ⟨rfl, f4⟩
    have F4 : Fr (fun _ => False) w2 w4 := ((Fr.refl _ w2).drew).trans f4 (fun _ _ x => x)
    have HF4 : Hid (Fr (fun _ => False) w2 w4) := F4
    have hn0 := (HR2.out.fresh F4).cell0 0
    simp only [vmCells, List.getElem?_toArray, List.getElem?_cons_succ, List.getElem?_cons_zero] at hn0
    have hbl := (HR2.out.fresh F4).bl
    obtain ⟨q0, q1, q2⟩ := Has.cells3 (v := ⟨vt, vn, vs⟩) (HK2.out.fr F4 (fun x => x))
    have ql := (HK2.out.fr F4 (fun x => x)).lt
    clear f4 F4
    go_wp2_with fail
    refine (fromInt_any (.pointer (some ⟨A.bn, 0, none⟩)) (x : Int)).mono ?_
    rintro e' w5 ⟨rfl, rfl⟩
    have hfl := nearest_lt (x : Int)
    generalize hfx : fromIntN (x : Int) = fx at hfl HOP ⊢
    clear hfx
    go_wp2_with fail
    refine (store_any (i := i) (k := numV fx) (HR2.out.fresh HF4.out) (show (m.setTh i { t with stack := r ++ [⟨4, an, aS⟩] }).tabs[an]? = some td from HTD.out) HTF.out (by show m.tabs.length ≤ 12; omega) rfl HVV.out.w (fun _ => hfl)).mono ?_
    intro e' wz hz
    have FIN : Hid (Q e' wz) := by
      rw [← HQ.out, HOP.out]
      exact PlPost.pre ((HS2.out.weaken (fun k hk => by unfold isVM; unfold isT at hk; omega)).trans (VSt.fresh HF4.out)) (FK.refl _ _) hz
    rcases hz.ends with rfl | ⟨ch, rfl⟩
    · clear hz
      go_wp2_with fail
      go_end0
      exact FIN.out
    · exact ⟨rfl, FIN.out⟩
  · go_wp2_with fail
    refine (tabOf_no ⟨aT, an, aS⟩ h4 mIndex).mono ?_
    rintro e' w3 ⟨⟨b, rfl, hb, hbl⟩, f3⟩
    have FIN : Hid (Q (.panicked (thrE b)) w3) := by
      rw [← HQ.out, HOP.out, if_pos h4]
      have sz := HS2.out.st.fr.size
      exact ⟨⟨b, rfl, hb, by have : w2.heap.size ≤ b := hbl; omega⟩, A, HR2.out.fresh (((Fr.refl _ _).drew).trans f3 (fun _ _ x => x)), (HS2.out.weaken (fun k hk => by unfold isVM; unfold isT at hk; omega)).trans (VSt.fresh (((Fr.refl _ _).drew).trans f3 (fun _ _ x => x)))⟩
    exact ⟨rfl, FIN.out⟩
end
end Go.Proofs.Qxb6500574aGreatDoor
