/-
  THE WALK of vm: loop: the plain instructions.
-/
import Derived.Test.Qxb6500574aGreatDoorVLoop3
import Derived.Test.Qxb6500574aGreatDoorVPlAny
namespace Go.Proofs.Qxb6500574aGreatDoor
open Go Go.RowKit
set_option linter.unusedVariables false
set_option linter.unusedSimpArgs false
section
variable {w : World} {A : VL} {m : VMD} {f e i g j gp pi b6 b7 : Nat} {t : ThD} {K : Cx} {fm : FmD} {p : PrD}
set_option maxRecDepth 100000
set_option maxHeartbeats 600000
theorem rd_plain (h : LB w A m f e K i t fm g j gp pi p b6 b7) {a : Act} (ha : Fr62 A.b A.bT i b6 b7 a) {Q : Exit → Act → World → Prop} (hQ : ∀ c a t v w, Q (.panic c) (a.put (some t) v) w → Q (.panic c) a w) {gc CN CD op x : Nat} (hI : LI w A m fm p gc CN CD op x) (hpc : fm.pc < p.nc) (hs : soundP m i op x = true) (hn : ¬ ((t.stack.length : Int) - fm.base - p.ns < need op ∨ (t.stack.length : Int) - fm.base - p.ns + grow op > 128)) (ho : 1 ≤ op ∧ op ≤ 32 ∧ op ≠ 21 ∧ op ≠ 22 ∧ op ≠ 23 ∧ op ≠ 24 ∧ op ≠ 26 ∧ op ≠ 27) (hN : ∀ a' w' A' m1, Fr62 A.b A.bT i b6 b7 a' → plainP m i op x = (.inr (), m1) → VRep w' A' (setPc m1 i ((topF m1 i).pc + 1)) f e → VSt isVM w A w' A' → Q .normal a' w') (hT : ∀ a' w' A' v m1 b, a'.defers = [] → plainP m i op x = (.inl (.inl v), m1) → Has w' b #[.int .i64 v.t, .int .u64 v.n, sv v.s] 340 → w.heap.size ≤ b → VRep w' A' m1 f e → VSt isVM w A w' A' → Q (.panic (thrE b)) a' w') (hK : ∀ a' w' A' k m1, a'.defers = [] → plainP m i op x = (.inl (.inr k), m1) → VRep w' A' m1 f e → VSt isVM w A w' A' → Q (.panic (trapE k)) a' w') : (roundOf Tryz.f214.body).wp Tryz.prog Q a w := by
  have HhN : Hid (∀ a' w' A' m1, Fr62 A.b A.bT i b6 b7 a' → plainP m i op x = (.inr (), m1) → VRep w' A' (setPc m1 i ((topF m1 i).pc + 1)) f e → VSt isVM w A w' A' → Q .normal a' w') := hN
  clear hN
  have HhT : Hid (∀ a' w' A' v m1 b, a'.defers = [] → plainP m i op x = (.inl (.inl v), m1) → Has w' b #[.int .i64 v.t, .int .u64 v.n, sv v.s] 340 → w.heap.size ≤ b → VRep w' A' m1 f e → VSt isVM w A w' A' → Q (.panic (thrE b)) a' w') := hT
  clear hT
  have HhK : Hid (∀ a' w' A' k m1, a'.defers = [] → plainP m i op x = (.inl (.inr k), m1) → VRep w' A' m1 f e → VSt isVM w A w' A' → Q (.panic (trapE k)) a' w') := hK
  clear hK
  have Hho : Hid (1 ≤ op ∧ op ≤ 32 ∧ op ≠ 21 ∧ op ≠ 22 ∧ op ≠ 23 ∧ op ≠ 24 ∧ op ≠ 26 ∧ op ≠ 27) := ho
  clear ho
  have HNE2 : Hid (¬ ((t.stack.length : Int) - fm.base - p.ns < need op ∨ (t.stack.length : Int) - fm.base - p.ns + grow op > 128)) := hn
  clear hn
  have H26 : Hid (op ≠ 26) := by have := Hho.out; show op ≠ 26; omega
  have HSO : Hid (soundP m i op x = true) := hs
  clear hs
  have HI : Hid (LI w A m fm p gc CN CD op x) := hI
  have hpc1 : decide (p.nc ≤ fm.pc) = false := by rw [decide_eq_false_iff_not]; omega
  clear hI
  have HQH : Hid (∀ c a t v w, Q (.panic c) (a.put (some t) v) w → Q (.panic c) a w) := hQ
  clear hQ
  obtain ⟨u, rfl⟩ := ha.form
  obtain ⟨gk, fc, NC, NP, sa, sc, H⟩ := h.lh
  have HB : Hid (LB w A m f e K i t fm g j gp pi p b6 b7) := h
  obtain ⟨n, HN⟩ : ∃ n, Hid (t.stack.length = n) := ⟨_, rfl⟩
  rw [HN.out] at H
  have HH : Hid (LH w A i fm g j gp pi p gk fc NC NP n sa sc) := H
  obtain ⟨c1, c2, c3, c4, c5, c6, c7, c8, c9, c10, c11, c12, c13, c14, c15, c16, c17, c18, c19, c20, c21, c22, c23⟩ := H
  clear ha h
  have hj1 : ((j : Int) + 1 - 1) = j := by omega
  simp only [roundOf, codeL, codeR, codeIn, Tryz.f214, Option.getD_some]
  go_wp2_with fail
  refine wp_region_tail 11 (by kernel_rfl) (by kernel_rfl) (fun c a t v w h => HQH.out c a t v w h) ?_
  simp only [List.take_succ_cons, List.take_zero, List.drop_succ_cons, List.drop_zero]
  repeat go_big_quiet_step (fail)
  refine wpQuiet_nil ?_
  go_wp2_with fail
  refine wp_region_tail 16 (by kernel_rfl) (by kernel_rfl) (fun c a t v w h => HQH.out c a t v w h) ?_
  simp only [List.take_succ_cons, List.take_zero, List.drop_succ_cons, List.drop_zero]
  repeat go_big_quiet_step (fail)
  refine wpQuiet_nil ?_
  go_wp2_with fail
  refine wp_region_quiet_lit (by kernel_rfl) (by kernel_rfl) ?_
  repeat go_big_quiet_step (fail)
  refine wpQuiet_nil ?_
  rintro w' ⟨nq, rfl⟩
  have HF1 : Hid (Fr (fun _ => False) w (w.drew.drew.drewN nq)) := ((Fr.refl _ _).drew.drew).drewN nq
  obtain ⟨W1, HW1⟩ : ∃ W1, Hid (w.drew.drew.drewN nq = W1) := ⟨_, rfl⟩
  rw [HW1.out] at HF1 ⊢
  clear HW1
  go_wp2_with fail
  have I1 := HI.out.fresh HF1.out
  have H1 := HH.out.fresh HF1.out
  obtain ⟨WD, HWD⟩ : ∃ WD, Hid (W1.drew = WD) := ⟨_, rfl⟩
  have HFD : Hid (Fr (fun _ => False) w WD) := by rw [← HWD.out]; exact HF1.out.drew
  have g0 := fun s : WS WD => s.f.cell ((HI.out.fresh HFD.out).a5)
  have g1 := fun s : WS WD => s.f.cell ((HH.out.fresh HFD.out).p6)
  have g2 := fun s : WS WD => s.f.cell ((HH.out.fresh HFD.out).f1)
  have g3 := fun s : WS WD => s.f.cell ((HI.out.fresh HFD.out).i0)
  have g4 := fun s : WS WD => s.f.cell ((HI.out.fresh HFD.out).i1)
  have HNE : Nonempty (WS WD) := WS.non _
  have i5 := I1.cn
  have i6 := I1.c3
  have i7 := I1.o8
  have i8 := I1.x16
  clear I1 H1
  refine wp_region_mid [0, 1, 2, 3, 4, 5, 6, 7, 8, 9, 10, 11, 12, 13, 14] 15 16 (fun y => ∃ s : WS WD, y = s.y) (by kernel_rfl) (by kernel_rfl) (fun c a t v w h => HQH.out c a t v w h) ⟨⟨W1.drew, by rw [HWD.out]; exact Fr.refl _ _⟩, rfl⟩ [_, _, _, _, _, _, _, _, _, _, _, _, _, _, _] rfl _ rfl ?_
  simp only [List.getElem_toArray, List.getElem_cons_succ, List.getElem_cons_zero, List.drop_succ_cons, List.drop_zero, List.length_cons, List.length_nil, Nat.zero_add]
  repeat go_big_quiet_step (fail)
  refine wpQuiet_nil ?_
  clear g0 g1 g2 g3 g4
  go_wp2_with fail
  refine ⟨⟨⟨_, by rw [← HWD.out]; exact ((Fr.refl _ W1.drew).alloc (.cells #[.int .u8 0, .int .u16 0] 329))⟩, rfl⟩, ?_⟩
  clear HWD HFD HNE
  obtain ⟨W2, HW2⟩ : ∃ W2, Hid ((W1.alloc (.cells #[.int .u8 op, .int .u16 x] 329)).drew = W2) := ⟨_, rfl⟩
  have HF2 : Hid (Fr (fun _ => False) w W2) := by rw [← HW2.out]; exact (HF1.out.alloc _).drew
  have HIN : Hid (Has W2 W1.heap.size #[.int .u8 op, .int .u16 x] 329) := by rw [← HW2.out]; exact (Has.new W1 _ _).fr ((Fr.refl (fun _ => False) _).drew) (fun x => x)
  have HB2 : Hid (LB W2 A m f e K i t fm g j gp pi p b6 b7) := HB.out.fresh HF2.out
  clear c1 c2 c3 c4 c5 c6 c7 c8 c9 c10 c11 c12 c13 c14 c15 c16
  go_wp2_with fail
  rw [HW2.out]
  refine (sound_any HB2.out.pb i7 i8).mono ?_
  rintro e' W3 ⟨rfl, f3⟩
  have HF3 : Hid (Fr (fun _ => False) w W3) := HF2.out.trans f3 (fun _ _ x => x)
  have HI3 : Hid (Has W3 W1.heap.size #[.int .u8 op, .int .u16 x] 329) := HIN.out.fr f3 (fun x => x)
  clear f3 HIN HW2 HB2 HF2
  rw [HSO.out]
  obtain ⟨y0, y1⟩ := HI3.out.cells2
  have yl := HI3.out.lt
  go_wp2_with fail
  refine (effect_any op).mono ?_
  rintro e' w4 ⟨rfl, hw4⟩
  rw [hw4]
  clear hw4 w4
  obtain ⟨nd1, nd2, gr1, gr2⟩ := need_b op
  obtain ⟨nd, HND⟩ : ∃ nd, Hid (need op = nd) := ⟨_, rfl⟩
  obtain ⟨gr, HGR⟩ : ∃ gr, Hid (grow op = gr) := ⟨_, rfl⟩
  rw [HND.out] at nd1 nd2 ⊢
  rw [HGR.out] at gr1 gr2 ⊢
  have h26 : ((op : Int) == 26) = false := by rw [beq_eq_false_iff_ne]; have := H26.out; omega
  have H3 := HH.out.fresh HF3.out
  have s2 := H3.s2
  have sl := H3.sl
  have f2 := H3.f2
  have fl := H3.fl
  have p1 := H3.p1
  have pl := H3.pl
  clear H3
  obtain ⟨dp, hdp0⟩ : ∃ dp : Nat, n = fm.base + p.ns + dp := ⟨n - (fm.base + p.ns), by omega⟩
  have HDP : Hid (n = fm.base + p.ns + dp) := hdp0
  have hdp : ((n : Int) - (fm.base : Int) - (p.ns : Int)) = (dp : Int) := by omega
  have hdl : dp ≤ 1120 := by omega
  clear hdp0
  go_wp2_with fail
  refine wp_region_tail 15 (by kernel_rfl) (by kernel_rfl) (fun c a t v w h => HQH.out c a t v w h) ?_
  simp only [List.take_succ_cons, List.take_zero, List.drop_succ_cons, List.drop_zero]
  repeat go_big_quiet_step (fail)
  refine wpQuiet_nil ?_
  obtain ⟨W4, HW4⟩ : ∃ W4, Hid (W3.drew = W4) := ⟨_, rfl⟩
  have HF4 : Hid (Fr (fun _ => False) w W4) := by rw [← HW4.out]; exact HF3.out.drew
  have HI4 : Hid (Has W4 W1.heap.size #[.int .u8 op, .int .u16 x] 329) := by rw [← HW4.out]; exact HI3.out.fr ((Fr.refl (fun _ => False) _).drew) (fun x => x)
  rw [HW4.out]
  clear HW4 s2 sl f2 fl p1 pl y0 y1 yl HI3 HF3
  have hne := HNE2.out
  rw [HND.out, HGR.out, HN.out, hdp] at hne
  have d1 : decide ((dp : Int) < nd) = false := by rw [decide_eq_false_iff_not]; omega
  have d2 : decide (128 < (dp : Int) + gr) = false := by rw [decide_eq_false_iff_not]; omega
  clear hne
  obtain ⟨y0, y1⟩ := HI4.out.cells2
  have yl := HI4.out.lt
  have HB4 : Hid (LB W4 A m f e K i t fm g j gp pi p b6 b7) := HB.out.fresh HF4.out
  obtain ⟨l, hlx, hlg⟩ := HB4.out.pb.lay
  have HLX : Hid (A.X[i]? = some l) := hlx
  have HLG : Hid (l.f.a = some ⟨g, 0, none⟩) := hlg
  clear hlx hlg
  have b21 : ((op : Int) == 21) = false := by rw [beq_eq_false_iff_ne]; have := Hho.out; omega
  have b22 : ((op : Int) == 22) = false := by rw [beq_eq_false_iff_ne]; have := Hho.out; omega
  have b23 : ((op : Int) == 23) = false := by rw [beq_eq_false_iff_ne]; have := Hho.out; omega
  have b24 : ((op : Int) == 24) = false := by rw [beq_eq_false_iff_ne]; have := Hho.out; omega
  have b26 : ((op : Int) == 26) = false := by rw [beq_eq_false_iff_ne]; have := Hho.out; omega
  have b27 : ((op : Int) == 27) = false := by rw [beq_eq_false_iff_ne]; have := Hho.out; omega
  have HNQ : Hid (fm.base + p.ns + (need op).toNat ≤ t.stack.length) := by
    have h0 := HNE2.out
    have h1 := HDP.out
    have h2 := HN.out
    have h3 := (need_b op).1
    show _ ≤ _
    omega
  go_wp2_with fail
  obtain ⟨R, HR⟩ : ∃ R, Hid (plainP m i op x = R) := ⟨_, rfl⟩
  have HPO : Hid (PlOk K m i t (grow op) R) := by
    rw [← HR.out]
    have h1 := HB.out.pb.ns
    exact plain_ok HB.out.pb.at' Hho.out HSO.out (by rw [← h1]; exact HNQ.out)
  refine (plain_any HB4.out.pb i8 Hho.out HSO.out HNQ.out).mono ?_
  rw [HR.out]
  have hsz := HF4.out.size
  rcases R with ⟨(v | k) | q, m4⟩
  · rintro e' w5 ⟨⟨b, rfl, hb, hbl⟩, A5, r5, s5⟩
    exact HhT.out _ _ A5 v m4 b rfl HR.out hb (by omega) r5 ((VSt.fresh HF4.out).trans s5)
  · rintro e' w5 ⟨rfl, A5, r5, s5⟩
    exact HhK.out _ _ A5 k m4 rfl HR.out r5 ((VSt.fresh HF4.out).trans s5)
  · rintro e' w5 ⟨rfl, A5, r5, s5, fk⟩
    obtain ⟨l5, hl5, hlf⟩ := fk l HLX.out
    have hlg5 : l5.f.a = some ⟨g, 0, none⟩ := by rw [hlf]; exact HLG.out
    obtain ⟨K5, t5, c5, _, _⟩ := HPO.out
    have hj5 : t5.frames[j]? = some fm := by rw [c5.fr]; exact HB.out.pb.hj
    have hjl5 : t5.frames.length = j + 1 := by rw [c5.fr]; exact HB.out.jl
    obtain ⟨g9, ga, _, _, gl, gc9, gf⟩ := r5.fm c5.hi hl5 hj5
    rw [hlg5] at ga
    cases ga
    have k1 := gc9 1 (by omega)
    simp only [fCells, List.getElem?_cons_succ, List.getElem?_cons_zero] at k1
    have k2 := gf (j * 5 + 1)
    have hpc6 : fm.pc ≤ 32768 := by omega
    have h7 := r5.setPc c5.hi hl5 hlg5 hj5 (fm.pc + 1)
    have htf : topF m4 i = fm := by
      unfold topF
      rw [th_get c5.hi, hjl5, Nat.add_sub_cancel]
      simp [hj5]
    have R7 : Hid (VRep (w5.setCell ⟨g, j * 5 + 1, none⟩ (.int .i64 ((fm.pc : Int) + 1))) A5 (setPc m4 i ((topF m4 i).pc + 1)) f e) := by
      show VRep _ _ _ _ _
      rw [htf, ← setPc_of c5.hi hjl5 hj5]
      exact h7.1
    have S7 : Hid (VSt isVM w A (w5.setCell ⟨g, j * 5 + 1, none⟩ (.int .i64 ((fm.pc : Int) + 1))) A5) := ((VSt.fresh HF4.out).trans s5).trans (h7.2.weaken (fun _ => isT_vm))
    clear h7 htf gc9 gf r5 s5 fk hl5 hlf hlg5 c5 hj5 hjl5 hsz
    go_wp2_with fail
    exact HhN.out _ _ A5 m4 ⟨by kernel_rfl, by kernel_rfl, by kernel_rfl, by kernel_rfl, by kernel_rfl, by kernel_rfl, rfl⟩ HR.out R7.out S7.out
end
end Go.Proofs.Qxb6500574aGreatDoor
