/-
  THE WALK of comp: break (written by tools/gen_st.py).
-/
import Derived.Test.Qxb6500574aGreatDoorWCm32
namespace Go.Proofs.Qxb6500574aGreatDoor
open Go Go.RowKit
set_option linter.unusedVariables false
set_option linter.unusedSimpArgs false
open Go.Lib
section
set_option maxRecDepth 100000
set_option maxHeartbeats 1000000
variable {w : World} {o : Nat → Nat} {C : CC} {N : List Nd} {c : CmD} {f n k a b lo : Nat} {L : List Bs} {r : En}
theorem com_s11 (g : (N.getD n nd0).k = 11) {ls : List LpD} {l0 : LpD} (he : (c.fn f).loops = ls ++ [l0]) (hL : (c.fn f).locals = L) (h12 : l0.base < 65536) : comN N (k + 1) 0 f n c = ((if l0.base < L.length then c.emit f [(29, l0.base)] else c).jump f 21).upd f fun x => { x with loops := x.loops.dropLast ++ [{ l0 with breaks := l0.breaks ++ [(if l0.base < L.length then c.emit f [(29, l0.base)] else c).here f] }] } := by
  conv => lhs; unfold comN
  simp (config := {decide := true}) only [if_true, if_false, g]
  rw [he]
  simp only [List.getLastD_concat]
  rw [hL, Nat.mod_eq_of_lt h12]
theorem st_11y (B : CB w o C N f L r a (17 * (n - lo)) (n - lo) c) (hn : n < N.length) (hd : (N.getD n nd0).k = 11) {ls : List LpD} {l0 : LpD} (he : (c.fn f).loops = ls ++ [l0]) (hlo : lo < n) (hls : ls.length ≤ 1000) (hbk : l0.breaks.length ≤ 100000) (hc :  l0.base < L.length) (hb12 : l0.base ≤ 12) :
    Calls Tryz.prog 102 #[fptr C.gF f, .int .i64 n] w (CQ w o C N (comN N (k + 1) 0 f n c)) := by
  rw [com_s11 hd he B.I.loc (by omega), if_pos hc]
  obtain ⟨gg, ha, ⟨q1, q2, q3, q4, q5, q6, q7⟩⟩ := B.R.nd B.hf (by omega)
  have x0 := q7 n 0 hn (by omega)
  have x1 := q7 n 1 hn (by omega)
  have x2 := q7 n 2 hn (by omega)
  have x3 := q7 n 3 hn (by omega)
  have x4 := q7 n 4 hn (by omega)
  have x5 := q7 n 5 hn (by omega)
  have x6 := q7 n 6 hn (by omega)
  have x7 := q7 n 7 hn (by omega)
  simp only [ndV, List.getElem?_cons_succ, List.getElem?_cons_zero, Nat.add_zero] at x0 x1 x2 x3 x4 x5 x6 x7
  have HB0 : Hid (CB (w.alloc (.cells (ndV (N.getD n nd0)).toArray 134)) o C N f L r a (17 * (n - lo)) (n - lo) c) := B.alloc _
  have HX0 : Hid (Bn (w.alloc (.cells (ndV (N.getD n nd0)).toArray 134)) o (N.getD n nd0) w.heap.size) := Bn.new B.R _
  have HS0 : Hid (Stp QC w o (w.alloc (.cells (ndV (N.getD n nd0)).toArray 134)) o) := (Stp.refl _ _ _).alloc _
  rw [hd] at x0
  obtain ⟨w0, HW0⟩ : ∃ w0, Hid (w.alloc (.cells (ndV (N.getD n nd0)).toArray 134) = w0) := ⟨_, rfl⟩
  rw [HW0.out] at HB0 HX0 HS0
  obtain ⟨o0, ho0⟩ : ∃ z, z = o := ⟨_, rfl⟩
  rw [← ho0] at HB0 HX0
  have HS0 : Hid (Stp QC w o w0 o0) := by rw [ho0]; exact HS0
  clear ho0
  have HG : Hid (lo < n) := hlo
  have h12 := B.I.l12
  have HE : Hid ((c.fn f).loops = ls ++ [l0]) := he
  clear B q7 ha hlo he
  generalize hD : N.getD n nd0 = d at *
  clear hD
  have hV : (ndV d).toArray = #[.int .i64 11, .int .i64 d.a, .int .i64 d.b, .int .i64 d.c, .int .i64 d.next, .int .u64 d.n, sv d.s, .int .i64 d.p] := by unfold ndV; rw [hd]; rfl
  rw [hV] at HW0
  clear hV hd
  obtain ⟨xs0, FL0, F0⟩ := HB0.out.R.fn HB0.out.hf
  obtain ⟨bs, b0, g1, K0⟩ := F0.last HE.out
  obtain ⟨fl0, _, ⟨s3, c3⟩⟩ := HB0.out.lens
  have c10 := K0.c10
  have k0 := K0.k0
  have a2 := K0.a2
  have gl := K0.lt
  have HF0 : Hid (FnAt w0 o0 C c f xs0 FL0) := F0
  have HK0 : Hid (LpLast w0 o0 C c f FL0 ls l0 bs b0 g1) := K0
  clear F0 K0
  obtain ⟨m, HM⟩ : ∃ m : Nat, Hid (L.length = m) := ⟨_, rfl⟩
  obtain ⟨q, HQ⟩ : ∃ q : Nat, Hid (ls.length = q) := ⟨_, rfl⟩
  obtain ⟨lb, HLB⟩ : ∃ lb : Nat, Hid (l0.base = lb) := ⟨_, rfl⟩
  rw [HM.out] at h12 c3 hc
  rw [HQ.out] at c10 k0 a2 hls
  rw [HLB.out] at k0 hc hb12
  have hcd : decide ((lb : Int) < (m : Int)) = true := by simp; omega
  have hcd2 : decide (lb < m) = true := by simp; omega
  unfold fptr
  go_enter Tryz.func102, Tryz.ntmps102
  go_wp2_with fail
  rw [HW0.out]
  refine wp_region_tail 11 (by kernel_rfl) (by kernel_rfl) (fun _ _ _ _ _ h => h) ?_
  simp only [List.take_succ_cons, List.take_zero, List.drop_succ_cons, List.drop_zero]
  repeat go_big_quiet_step (fail)
  refine wpQuiet_nil ?_
  go_wp2_with fail
  have c3' : w0.drew.cell? ⟨C.gF, f * 11 + 3, none⟩ = some (.slice s3.a (m : Nat) s3.c) := c3
  have k0' : w0.drew.cell? ⟨g1, q * 2, none⟩ = some (.int .i64 (lb : Nat)) := k0
  have fl0' : C.gF < w0.drew.heap.size := fl0
  have gl' : g1 < w0.drew.heap.size := gl
  refine wp_region_tail 9 (by kernel_rfl) (by kernel_rfl) (fun _ _ _ _ _ h => h) ?_
  simp only [List.take_succ_cons, List.take_zero, List.drop_succ_cons, List.drop_zero]
  repeat go_big_quiet_step (fail)
  refine wpQuiet_nil ?_
  go_wp2_with fail
  have fr1 : Fr (fun _ => False) w0 (w0.alloc (.cells #[.int .u8 29, .int .u16 (lb : Nat)] 105)).drew.drew := (((Fr.refl _ _).alloc _).drew).drew
  have hb1 : Has (w0.alloc (.cells #[.int .u8 29, .int .u16 (lb : Nat)] 105)).drew.drew w0.heap.size (([(29, lb)] : List In).flatMap iCells).toArray 105 := ((Has.new _ _ _).drew).drew
  refine (emitF (HF0.out.fresh fr1) (HB0.out.R.fresh fr1) HB0.out.hf [(29, lb)] (m := 1) (cap := 1) hb1 rfl (by omega) (by have := HB0.out.pc; have := HG.out; omega)).mono ?_
  rintro e1 w1 ⟨rfl, o1, R1, S1, sl1, F1⟩
  have HS1 : Hid (Stp QC w o w1 o1) := (HS0.out.trans (Stp.fresh QC o0 fr1)).trans (CB.qs S1.code)
  have I1 := (Po.emit a HB0.out.I [(29, lb)]).iv
  have hcl : ((c.emit f [(29, lb)]).fn f).code.length = (c.fn f).code.length + 1 := (emit_len HB0.out.I [(29, lb)]).1
  have hlp1 : ((c.emit f [(29, lb)]).fn f).loops = ls ++ [l0] := (emit_len HB0.out.I [(29, lb)]).2.trans HE.out
  have HNP : Hid (f < (c.emit f [(29, lb)]).np) := HB0.out.hf
  have HPC : Hid (((c.emit f [(29, lb)]).fn f).code.length + 10 ≤ 65000) := by show _ ≤ _; have := HB0.out.pc; have := HG.out; omega
  have HI1 : Hid (Inv (c.emit f [(29, lb)]) ((f, L) :: r)) := I1
  have HLP1 : Hid (((c.emit f [(29, lb)]).fn f).loops = ls ++ [l0]) := hlp1
  have HF1 : Hid (FnAt w1 o1 C (c.emit f [(29, lb)]) f _ { FL0 with cd := sl1 }) := F1
  have HR1 : Hid (CRep w1 o1 C N (c.emit f [(29, lb)])) := R1
  clear fr1 hb1 R1 S1 F1 I1 hcl hlp1 c3 c3' k0 k0' fl0 fl0' gl gl' c10
  generalize hcc : c.emit f [(29, lb)] = c1 at *
  go_wp2_with fail
  refine (jumpF HF1.out HR1.out HNP.out 21 (by have := HPC.out; omega)).mono ?_
  rintro e2 w2 ⟨pa, pb, o2, rfl, R2, S2, P2, sl2, F2⟩
  have hlp2 : ((c1.jump f 21).fn f).loops = ls ++ [l0] := (jump_loops HI1.out 21).trans HLP1.out
  obtain ⟨bs', b0', g1', K2⟩ := F2.last hlp2
  have hgg : g1' = g1 := by
    have h1 := K2.a1
    have h2 := HK0.out.a1
    simp only at h1
    rw [h2] at h1
    cases h1
    rfl
  subst hgg
  have HS2 : Hid (Stp QC w o w2 o2) := HS1.out.trans (CB.qs S2.code)
  have HR2 : Hid (CRep w2 o2 C N (c1.jump f 21)) := R2
  have HF2 : Hid (FnAt w2 o2 C (c1.jump f 21) f _ _) := F2
  have HP2 : Hid (Pat w2 o2 C.gF f (pa, pb) (c1.fn f).code.length) := P2
  have HK2 : Hid (LpLast w2 o2 C (c1.jump f 21) f _ ls l0 bs' b0' g1') := K2
  have k1 := K2.k1
  have kl := K2.lt
  obtain ⟨bq, HBQ⟩ : ∃ bq : Nat, Hid (l0.breaks.length = bq) := ⟨_, rfl⟩
  rw [HQ.out, HBQ.out] at k1
  rw [HBQ.out] at hbk
  have fr3 : Fr (fun _ => False) w2 (w2.alloc (.cells #[patV (pa, pb)] 1)) := (Fr.refl _ _).alloc _
  have HROW : Hid ((w2.alloc (.cells #[patV (pa, pb)] 1)).ownsRow 0 1 1 (b0'.1.v l0.breaks.length) l0.breaks.length (b0'.2.map patV)) := (K2.lp.row.st (Stp.fresh (fun _ => False) o2 fr3) (fun h => h)).own
  have HNB : Hid (Has (w2.alloc (.cells #[patV (pa, pb)] 1)) w2.heap.size ([patV (pa, pb)] : List Value).toArray 1) := Has.new _ _ _
  have HFR : Hid (Fr (fun _ => False) w2 (w2.alloc (.cells #[patV (pa, pb)] 1))) := fr3
  unfold patV at HNB HFR HROW
  unfold patV
  have hlp9 : ls.length = q := HQ.out
  clear R2 S2 P2 F2 K2 fr3 hlp2 hlp9
  go_wp2_with (at_builtin; go_must (refine wpList_appN rowFun _ rfl (.tmp 179) (.tmp 181) rfl (b0'.1.v l0.breaks.length) l0.breaks.length _ (by rw [HBQ.out]; rfl) HROW.out w2.heap.size 1 1 [.func (.func 240) #[] #[.pointer (some ⟨pa, 0, none⟩), .pointer (some ⟨pb, 0, none⟩)]] rfl HNB.out rfl (by omega) (by intro u hu; simp at hu; subst hu; rfl) ?bd ?go))
  case bd => rw [HBQ.out]; omega
  case go =>
    intro g' cap' w3 q1 q2' q3' q4
    have q3x : (b0'.1.v l0.breaks.length).ownBlock = some g' ∨ w2.heap.size ≤ g' := q3'.imp_right (fun h => by rw [h]; simp)
    obtain ⟨⟨m1, m2, m3⟩, o4, R4, S4⟩ := brk_mem HF2.out HR2.out (by exact HNP.out) HK2.out (p := (pa, pb)) (pos := (c1.fn f).code.length) HP2.out HFR.out q1 q2' q3x q4
    rw [HQ.out, HBQ.out] at m1 R4 S4
    rw [HQ.out] at m3
    have HR4 : Hid (CRep _ o4 C N _) := R4
    have HS4 : Hid (Stp QC w o _ o4) := HS2.out.trans (CB.qs S4)
    rw [HBQ.out]
    clear q1 q2' q3' q4 q3x R4 S4
    go_wp2_with fail
    go_end0
    refine ⟨rfl, o4, ?_, HS4.out⟩
    have R5 := HR4.out
    rw [HLB.out] at R5
    rw [HLB.out, hcc]
    exact R5
theorem st_11n (B : CB w o C N f L r a (17 * (n - lo)) (n - lo) c) (hn : n < N.length) (hd : (N.getD n nd0).k = 11) {ls : List LpD} {l0 : LpD} (he : (c.fn f).loops = ls ++ [l0]) (hlo : lo < n) (hls : ls.length ≤ 1000) (hbk : l0.breaks.length ≤ 100000) (hc : ¬ l0.base < L.length) (hb12 : l0.base ≤ 12) :
    Calls Tryz.prog 102 #[fptr C.gF f, .int .i64 n] w (CQ w o C N (comN N (k + 1) 0 f n c)) := by
  rw [com_s11 hd he B.I.loc (by omega), if_neg hc]
  obtain ⟨gg, ha, ⟨q1, q2, q3, q4, q5, q6, q7⟩⟩ := B.R.nd B.hf (by omega)
  have x0 := q7 n 0 hn (by omega)
  have x1 := q7 n 1 hn (by omega)
  have x2 := q7 n 2 hn (by omega)
  have x3 := q7 n 3 hn (by omega)
  have x4 := q7 n 4 hn (by omega)
  have x5 := q7 n 5 hn (by omega)
  have x6 := q7 n 6 hn (by omega)
  have x7 := q7 n 7 hn (by omega)
  simp only [ndV, List.getElem?_cons_succ, List.getElem?_cons_zero, Nat.add_zero] at x0 x1 x2 x3 x4 x5 x6 x7
  have HB0 : Hid (CB (w.alloc (.cells (ndV (N.getD n nd0)).toArray 134)) o C N f L r a (17 * (n - lo)) (n - lo) c) := B.alloc _
  have HX0 : Hid (Bn (w.alloc (.cells (ndV (N.getD n nd0)).toArray 134)) o (N.getD n nd0) w.heap.size) := Bn.new B.R _
  have HS0 : Hid (Stp QC w o (w.alloc (.cells (ndV (N.getD n nd0)).toArray 134)) o) := (Stp.refl _ _ _).alloc _
  rw [hd] at x0
  obtain ⟨w0, HW0⟩ : ∃ w0, Hid (w.alloc (.cells (ndV (N.getD n nd0)).toArray 134) = w0) := ⟨_, rfl⟩
  rw [HW0.out] at HB0 HX0 HS0
  obtain ⟨o0, ho0⟩ : ∃ z, z = o := ⟨_, rfl⟩
  rw [← ho0] at HB0 HX0
  have HS0 : Hid (Stp QC w o w0 o0) := by rw [ho0]; exact HS0
  clear ho0
  have HG : Hid (lo < n) := hlo
  have h12 := B.I.l12
  have HE : Hid ((c.fn f).loops = ls ++ [l0]) := he
  clear B q7 ha hlo he
  generalize hD : N.getD n nd0 = d at *
  clear hD
  have hV : (ndV d).toArray = #[.int .i64 11, .int .i64 d.a, .int .i64 d.b, .int .i64 d.c, .int .i64 d.next, .int .u64 d.n, sv d.s, .int .i64 d.p] := by unfold ndV; rw [hd]; rfl
  rw [hV] at HW0
  clear hV hd
  obtain ⟨xs0, FL0, F0⟩ := HB0.out.R.fn HB0.out.hf
  obtain ⟨bs, b0, g1, K0⟩ := F0.last HE.out
  obtain ⟨fl0, _, ⟨s3, c3⟩⟩ := HB0.out.lens
  have c10 := K0.c10
  have k0 := K0.k0
  have a2 := K0.a2
  have gl := K0.lt
  have HF0 : Hid (FnAt w0 o0 C c f xs0 FL0) := F0
  have HK0 : Hid (LpLast w0 o0 C c f FL0 ls l0 bs b0 g1) := K0
  clear F0 K0
  obtain ⟨m, HM⟩ : ∃ m : Nat, Hid (L.length = m) := ⟨_, rfl⟩
  obtain ⟨q, HQ⟩ : ∃ q : Nat, Hid (ls.length = q) := ⟨_, rfl⟩
  obtain ⟨lb, HLB⟩ : ∃ lb : Nat, Hid (l0.base = lb) := ⟨_, rfl⟩
  rw [HM.out] at h12 c3 hc
  rw [HQ.out] at c10 k0 a2 hls
  rw [HLB.out] at k0 hc hb12
  have hcd : decide ((lb : Int) < (m : Int)) = false := by simp; omega
  have hcd2 : decide (lb < m) = false := by simp; omega
  unfold fptr
  go_enter Tryz.func102, Tryz.ntmps102
  go_wp2_with fail
  rw [HW0.out]
  refine wp_region_tail 11 (by kernel_rfl) (by kernel_rfl) (fun _ _ _ _ _ h => h) ?_
  simp only [List.take_succ_cons, List.take_zero, List.drop_succ_cons, List.drop_zero]
  repeat go_big_quiet_step (fail)
  refine wpQuiet_nil ?_
  go_wp2_with fail
  have c3' : w0.drew.cell? ⟨C.gF, f * 11 + 3, none⟩ = some (.slice s3.a (m : Nat) s3.c) := c3
  have k0' : w0.drew.cell? ⟨g1, q * 2, none⟩ = some (.int .i64 (lb : Nat)) := k0
  have fl0' : C.gF < w0.drew.heap.size := fl0
  have gl' : g1 < w0.drew.heap.size := gl
  refine wp_region_tail 9 (by kernel_rfl) (by kernel_rfl) (fun _ _ _ _ _ h => h) ?_
  simp only [List.take_succ_cons, List.take_zero, List.drop_succ_cons, List.drop_zero]
  repeat go_big_quiet_step (fail)
  refine wpQuiet_nil ?_
  go_wp2_with fail
  have fr1 : Fr (fun _ => False) w0 w0.drew.drew := ((Fr.refl _ _).drew).drew
  have HS1 : Hid (Stp QC w o w0.drew.drew o0) := HS0.out.trans (Stp.fresh QC o0 fr1)
  have HNP : Hid (f < c.np) := HB0.out.hf
  have HPC : Hid ((c.fn f).code.length + 10 ≤ 65000) := by show _ ≤ _; have := HB0.out.pc; have := HG.out; omega
  have HI1 : Hid (Inv c ((f, L) :: r)) := HB0.out.I
  have HLP1 : Hid ((c.fn f).loops = ls ++ [l0]) := HE.out
  have HF1 : Hid (FnAt w0.drew.drew o0 C c f xs0 FL0) := HF0.out.fresh fr1
  have HR1 : Hid (CRep w0.drew.drew o0 C N c) := HB0.out.R.fresh fr1
  clear fr1 c3 c3' k0 k0' fl0 fl0' gl gl' c10
  generalize w0.drew.drew = w1 at *
  obtain ⟨o1, ho1⟩ : ∃ z, z = o0 := ⟨_, rfl⟩
  rw [← ho1] at HS1 HF1 HR1
  obtain ⟨c1, hcc⟩ : ∃ z, z = c := ⟨_, rfl⟩
  rw [← hcc] at HNP HPC HI1 HLP1 HF1 HR1

  refine (jumpF HF1.out HR1.out HNP.out 21 (by have := HPC.out; omega)).mono ?_
  rintro e2 w2 ⟨pa, pb, o2, rfl, R2, S2, P2, sl2, F2⟩
  have hlp2 : ((c1.jump f 21).fn f).loops = ls ++ [l0] := (jump_loops HI1.out 21).trans HLP1.out
  obtain ⟨bs', b0', g1', K2⟩ := F2.last hlp2
  have hgg : g1' = g1 := by
    have h1 := K2.a1
    have h2 := HK0.out.a1
    simp only at h1
    rw [h2] at h1
    cases h1
    rfl
  subst hgg
  have HS2 : Hid (Stp QC w o w2 o2) := HS1.out.trans (CB.qs S2.code)
  have HR2 : Hid (CRep w2 o2 C N (c1.jump f 21)) := R2
  have HF2 : Hid (FnAt w2 o2 C (c1.jump f 21) f _ _) := F2
  have HP2 : Hid (Pat w2 o2 C.gF f (pa, pb) (c1.fn f).code.length) := P2
  have HK2 : Hid (LpLast w2 o2 C (c1.jump f 21) f _ ls l0 bs' b0' g1') := K2
  have k1 := K2.k1
  have kl := K2.lt
  obtain ⟨bq, HBQ⟩ : ∃ bq : Nat, Hid (l0.breaks.length = bq) := ⟨_, rfl⟩
  rw [HQ.out, HBQ.out] at k1
  rw [HBQ.out] at hbk
  have fr3 : Fr (fun _ => False) w2 (w2.alloc (.cells #[patV (pa, pb)] 1)) := (Fr.refl _ _).alloc _
  have HROW : Hid ((w2.alloc (.cells #[patV (pa, pb)] 1)).ownsRow 0 1 1 (b0'.1.v l0.breaks.length) l0.breaks.length (b0'.2.map patV)) := (K2.lp.row.st (Stp.fresh (fun _ => False) o2 fr3) (fun h => h)).own
  have HNB : Hid (Has (w2.alloc (.cells #[patV (pa, pb)] 1)) w2.heap.size ([patV (pa, pb)] : List Value).toArray 1) := Has.new _ _ _
  have HFR : Hid (Fr (fun _ => False) w2 (w2.alloc (.cells #[patV (pa, pb)] 1))) := fr3
  unfold patV at HNB HFR HROW
  unfold patV
  have hlp9 : ls.length = q := HQ.out
  clear R2 S2 P2 F2 K2 fr3 hlp2 hlp9
  go_wp2_with (at_builtin; go_must (refine wpList_appN rowFun _ rfl (.tmp 179) (.tmp 181) rfl (b0'.1.v l0.breaks.length) l0.breaks.length _ (by rw [HBQ.out]; rfl) HROW.out w2.heap.size 1 1 [.func (.func 240) #[] #[.pointer (some ⟨pa, 0, none⟩), .pointer (some ⟨pb, 0, none⟩)]] rfl HNB.out rfl (by omega) (by intro u hu; simp at hu; subst hu; rfl) ?bd ?go))
  case bd => rw [HBQ.out]; omega
  case go =>
    intro g' cap' w3 q1 q2' q3' q4
    have q3x : (b0'.1.v l0.breaks.length).ownBlock = some g' ∨ w2.heap.size ≤ g' := q3'.imp_right (fun h => by rw [h]; simp)
    obtain ⟨⟨m1, m2, m3⟩, o4, R4, S4⟩ := brk_mem HF2.out HR2.out (by exact HNP.out) HK2.out (p := (pa, pb)) (pos := (c1.fn f).code.length) HP2.out HFR.out q1 q2' q3x q4
    rw [HQ.out, HBQ.out] at m1 R4 S4
    rw [HQ.out] at m3
    have HR4 : Hid (CRep _ o4 C N _) := R4
    have HS4 : Hid (Stp QC w o _ o4) := HS2.out.trans (CB.qs S4)
    rw [HBQ.out]
    clear q1 q2' q3' q4 q3x R4 S4
    go_wp2_with fail
    go_end0
    refine ⟨rfl, o4, ?_, HS4.out⟩
    have R5 := HR4.out
    rw [← hcc]
    exact R5
end
end Go.Proofs.Qxb6500574aGreatDoor
