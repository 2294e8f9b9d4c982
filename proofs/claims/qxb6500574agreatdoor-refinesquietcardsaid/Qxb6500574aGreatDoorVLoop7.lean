/-
  THE WALK of vm: loop: call goes.
-/
import Derived.Test.Qxb6500574aGreatDoorVLoop6
namespace Go.Proofs.Qxb6500574aGreatDoor
open Go Go.RowKit
set_option linter.unusedVariables false
set_option linter.unusedSimpArgs false
section
variable {w : World} {A : VL} {m : VMD} {f e i g j gp pi b6 b7 : Nat} {t : ThD} {K : Cx} {fm : FmD} {p : PrD}
set_option maxRecDepth 100000
set_option maxHeartbeats 600000
theorem call_ev {x : Nat} {ev : EvD} {m1 : VMD} (h : callP m i x = (.inr ev, m1)) (hk : ev.k = 0) : ev = ev0 := by
  unfold callP thrR at h
  dsimp only at h
  repeat' split at h
  all_goals first
    | (cases h; rfl)
    | (cases h; cases hk)
    | (cases h)
theorem rd26 (h : LB w A m (f + 1) e K i t fm g j gp pi p b6 b7) {a : Act} (ha : Fr62 A.b A.bT i b6 b7 a) {Q : Exit → Act → World → Prop} (hQ : ∀ c a t v w, Q (.panic c) (a.put (some t) v) w → Q (.panic c) a w) {gc CN CD op x : Nat} (hI : LI w A m fm p gc CN CD op x) (hpc : fm.pc < p.nc) (hs : soundP m i op x = true) (h26 : op = 26) (hn : ¬ ((t.stack.length : Int) - fm.base - p.ns < (x : Int) + 1 ∨ (t.stack.length : Int) - fm.base - p.ns + (1 - (x : Int)) > 128)) (hN : ∀ a' w5 A5 m1, Fr62 A.b A.bT i b6 b7 a' → callP m i x = (.inr ev0, m1) → VRep w5 A5 m1 f e → VSt isVM w A w5 A5 → Q .normal a' (set9 w5 b7 ev0)) (hE : ∀ a' w5 A5 ev m1, Fr62 A.b A.bT i b6 b7 a' → callP m i x = (.inr ev, m1) → ev.k ≠ 0 → VRep w5 A5 m1 f e → VSt isVM w A w5 A5 → Q (.exit 0) a' (set9 w5 b7 ev)) (hT : ∀ a' w' A' v m1 b, a'.defers = [] → callP m i x = (.inl (.inl v), m1) → Has w' b #[.int .i64 v.t, .int .u64 v.n, sv v.s] 340 → w.heap.size ≤ b → VRep w' A' m1 f e → VSt isVM w A w' A' → Q (.panic (thrE b)) a' w') (hK : ∀ a' w' A' k m1, a'.defers = [] → callP m i x = (.inl (.inr k), m1) → VRep w' A' m1 f e → VSt isVM w A w' A' → Q (.panic (trapE k)) a' w') : (roundOf Tryz.f214.body).wp Tryz.prog Q a w := by
  have HhN : Hid (∀ a' w5 A5 m1, Fr62 A.b A.bT i b6 b7 a' → callP m i x = (.inr ev0, m1) → VRep w5 A5 m1 f e → VSt isVM w A w5 A5 → Q .normal a' (set9 w5 b7 ev0)) := hN
  clear hN
  have HhE : Hid (∀ a' w5 A5 ev m1, Fr62 A.b A.bT i b6 b7 a' → callP m i x = (.inr ev, m1) → ev.k ≠ 0 → VRep w5 A5 m1 f e → VSt isVM w A w5 A5 → Q (.exit 0) a' (set9 w5 b7 ev)) := hE
  clear hE
  have HhT : Hid (∀ a' w' A' v m1 b, a'.defers = [] → callP m i x = (.inl (.inl v), m1) → Has w' b #[.int .i64 v.t, .int .u64 v.n, sv v.s] 340 → w.heap.size ≤ b → VRep w' A' m1 f e → VSt isVM w A w' A' → Q (.panic (thrE b)) a' w') := hT
  clear hT
  have HhK : Hid (∀ a' w' A' k m1, a'.defers = [] → callP m i x = (.inl (.inr k), m1) → VRep w' A' m1 f e → VSt isVM w A w' A' → Q (.panic (trapE k)) a' w') := hK
  clear hK
  have HX3 : Hid (x ≤ 3) := by
    have h0 := hs
    rw [h26] at h0
    unfold soundP at h0
    simp (config := { decide := true }) only [if_true, if_false, decide_eq_true_iff] at h0
    exact h0
  have H26 : Hid (op = 26) := h26
  have HNE2 : Hid (¬ ((t.stack.length : Int) - fm.base - p.ns < (x : Int) + 1 ∨ (t.stack.length : Int) - fm.base - p.ns + (1 - (x : Int)) > 128)) := hn
  clear h26 hn
  have HSO : Hid (soundP m i op x = true) := hs
  clear hs
  have HI : Hid (LI w A m fm p gc CN CD op x) := hI
  have hpc1 : decide (p.nc ≤ fm.pc) = false := by rw [decide_eq_false_iff_not]; omega
  clear hI
  have HQH : Hid (∀ c a t v w, Q (.panic c) (a.put (some t) v) w → Q (.panic c) a w) := hQ
  clear hQ
  obtain ⟨u, rfl⟩ := ha.form
  obtain ⟨gk, fc, NC, NP, sa, sc, H⟩ := h.lh
  have HB : Hid (LB w A m (f + 1) e K i t fm g j gp pi p b6 b7) := h
  obtain ⟨n, HN⟩ : ∃ n, Hid (t.stack.length = n) := ⟨_, rfl⟩
  rw [HN.out] at H
  have HH : Hid (LH w A i fm g j gp pi p gk fc NC NP n sa sc) := H
  obtain ⟨c1, c2, c3, c4, c5, c6, c7, c8, c9, c10, c11, c12, c13, c14, c15, c16, c17, c18, c19, c20, c21, c22, c23⟩ := H
  clear ha h
  have hj1 : ((j : Int) + 1 - 1) = j := by omega
  simp only [roundOf, codeL, codeR, codeIn, Tryz.f214, Option.getD_some]
  go_wp2_with fail
  refine wp_region_tail 11 (by kernel_rfl) (by kernel_rfl) (fun c a t v w h => HQH.out c a t v w h) ?_
  simp only [List.take_succ_cons, List.take_zero, List.drop_succ_cons, List.drop_zero]
  repeat go_big_quiet_step (fail)
  refine wpQuiet_nil ?_
  go_wp2_with fail
  refine wp_region_tail 16 (by kernel_rfl) (by kernel_rfl) (fun c a t v w h => HQH.out c a t v w h) ?_
  simp only [List.take_succ_cons, List.take_zero, List.drop_succ_cons, List.drop_zero]
  repeat go_big_quiet_step (fail)
  refine wpQuiet_nil ?_
  go_wp2_with fail
  refine wp_region_quiet_lit (by kernel_rfl) (by kernel_rfl) ?_
  repeat go_big_quiet_step (fail)
  refine wpQuiet_nil ?_
  rintro w' ⟨nq, rfl⟩
  have HF1 : Hid (Fr (fun _ => False) w (w.drew.drew.drewN nq)) := ((Fr.refl _ _).drew.drew).drewN nq
  obtain ⟨W1, HW1⟩ : ∃ W1, Hid (w.drew.drew.drewN nq = W1) := ⟨_, rfl⟩
  rw [HW1.out] at HF1 ⊢
  clear HW1
  go_wp2_with fail
  have I1 := HI.out.fresh HF1.out
  have H1 := HH.out.fresh HF1.out
  obtain ⟨WD, HWD⟩ : ∃ WD, Hid (W1.drew = WD) := ⟨_, rfl⟩
  have HFD : Hid (Fr (fun _ => False) w WD) := by rw [← HWD.out]; exact HF1.out.drew
  have g0 := fun s : WS WD => s.f.cell ((HI.out.fresh HFD.out).a5)
  have g1 := fun s : WS WD => s.f.cell ((HH.out.fresh HFD.out).p6)
  have g2 := fun s : WS WD => s.f.cell ((HH.out.fresh HFD.out).f1)
  have g3 := fun s : WS WD => s.f.cell ((HI.out.fresh HFD.out).i0)
  have g4 := fun s : WS WD => s.f.cell ((HI.out.fresh HFD.out).i1)
  have HNE : Nonempty (WS WD) := WS.non _
  have i5 := I1.cn
  have i6 := I1.c3
  have i7 := I1.o8
  have i8 := I1.x16
  clear I1 H1
  refine wp_region_mid [0, 1, 2, 3, 4, 5, 6, 7, 8, 9, 10, 11, 12, 13, 14] 15 16 (fun y => ∃ s : WS WD, y = s.y) (by kernel_rfl) (by kernel_rfl) (fun c a t v w h => HQH.out c a t v w h) ⟨⟨W1.drew, by rw [HWD.out]; exact Fr.refl _ _⟩, rfl⟩ [_, _, _, _, _, _, _, _, _, _, _, _, _, _, _] rfl _ rfl ?_
  simp only [List.getElem_toArray, List.getElem_cons_succ, List.getElem_cons_zero, List.drop_succ_cons, List.drop_zero, List.length_cons, List.length_nil, Nat.zero_add]
  repeat go_big_quiet_step (fail)
  refine wpQuiet_nil ?_
  clear g0 g1 g2 g3 g4
  go_wp2_with fail
  refine ⟨⟨⟨_, by rw [← HWD.out]; exact ((Fr.refl _ W1.drew).alloc (.cells #[.int .u8 0, .int .u16 0] 329))⟩, rfl⟩, ?_⟩
  clear HWD HFD HNE
  obtain ⟨W2, HW2⟩ : ∃ W2, Hid ((W1.alloc (.cells #[.int .u8 op, .int .u16 x] 329)).drew = W2) := ⟨_, rfl⟩
  have HF2 : Hid (Fr (fun _ => False) w W2) := by rw [← HW2.out]; exact (HF1.out.alloc _).drew
  have HIN : Hid (Has W2 W1.heap.size #[.int .u8 op, .int .u16 x] 329) := by rw [← HW2.out]; exact (Has.new W1 _ _).fr ((Fr.refl (fun _ => False) _).drew) (fun x => x)
  have HB2 : Hid (LB W2 A m (f + 1) e K i t fm g j gp pi p b6 b7) := HB.out.fresh HF2.out
  clear c1 c2 c3 c4 c5 c6 c7 c8 c9 c10 c11 c12 c13 c14 c15 c16
  go_wp2_with fail
  rw [HW2.out]
  refine (sound_any HB2.out.pb i7 i8).mono ?_
  rintro e' W3 ⟨rfl, f3⟩
  have HF3 : Hid (Fr (fun _ => False) w W3) := HF2.out.trans f3 (fun _ _ x => x)
  have HI3 : Hid (Has W3 W1.heap.size #[.int .u8 op, .int .u16 x] 329) := HIN.out.fr f3 (fun x => x)
  clear f3 HIN HW2 HB2 HF2
  rw [HSO.out]
  obtain ⟨y0, y1⟩ := HI3.out.cells2
  have yl := HI3.out.lt
  go_wp2_with fail
  refine (effect_any op).mono ?_
  rintro e' w4 ⟨rfl, hw4⟩
  rw [hw4]
  clear hw4 w4
  obtain ⟨nd1, nd2, gr1, gr2⟩ := need_b op
  obtain ⟨nd, HND⟩ : ∃ nd, Hid (need op = nd) := ⟨_, rfl⟩
  obtain ⟨gr, HGR⟩ : ∃ gr, Hid (grow op = gr) := ⟨_, rfl⟩
  rw [HND.out] at nd1 nd2 ⊢
  rw [HGR.out] at gr1 gr2 ⊢
  have h26 : ((op : Int) == 26) = true := by rw [beq_iff_eq]; have := H26.out; omega
  have H3 := HH.out.fresh HF3.out
  have s2 := H3.s2
  have sl := H3.sl
  have f2 := H3.f2
  have fl := H3.fl
  have p1 := H3.p1
  have pl := H3.pl
  clear H3
  have hx3 : x ≤ 3 := HX3.out
  obtain ⟨dp, hdp0⟩ : ∃ dp : Nat, n = fm.base + p.ns + dp := ⟨n - (fm.base + p.ns), by omega⟩
  have HDP : Hid (n = fm.base + p.ns + dp) := hdp0
  have hdp : ((n : Int) - (fm.base : Int) - (p.ns : Int)) = (dp : Int) := by omega
  have hdl : dp ≤ 1120 := by omega
  clear hdp0
  go_wp2_with fail
  refine wp_region_tail 15 (by kernel_rfl) (by kernel_rfl) (fun c a t v w h => HQH.out c a t v w h) ?_
  simp only [List.take_succ_cons, List.take_zero, List.drop_succ_cons, List.drop_zero]
  repeat go_big_quiet_step (fail)
  refine wpQuiet_nil ?_
  obtain ⟨W4, HW4⟩ : ∃ W4, Hid (W3.drew = W4) := ⟨_, rfl⟩
  have HF4 : Hid (Fr (fun _ => False) w W4) := by rw [← HW4.out]; exact HF3.out.drew
  have HI4 : Hid (Has W4 W1.heap.size #[.int .u8 op, .int .u16 x] 329) := by rw [← HW4.out]; exact HI3.out.fr ((Fr.refl (fun _ => False) _).drew) (fun x => x)
  rw [HW4.out]
  clear HW4 s2 sl f2 fl p1 pl y0 y1 yl HI3 HF3
  have hne := HNE2.out
  rw [HN.out, hdp] at hne
  have d1 : decide ((dp : Int) < (x : Int) + 1) = false := by rw [decide_eq_false_iff_not]; omega
  have d2 : decide (128 < (dp : Int) + (1 - (x : Int))) = false := by rw [decide_eq_false_iff_not]; omega
  have hdx : x + 1 ≤ dp := by omega
  clear hne
  obtain ⟨y0, y1⟩ := HI4.out.cells2
  have yl := HI4.out.lt
  have HB4 : Hid (LB W4 A m (f + 1) e K i t fm g j gp pi p b6 b7) := HB.out.fresh HF4.out
  obtain ⟨l, hlx, hlg⟩ := HB4.out.pb.lay
  obtain ⟨P, hP⟩ : ∃ P, n = P + 1 + x := ⟨n - x - 1, by have := HDP.out; omega⟩
  obtain ⟨fn, hfn⟩ : ∃ v, t.stack[P]? = some v := ⟨_, List.getElem?_eq_getElem (by rw [HN.out]; omega)⟩
  obtain ⟨gs, v1, _⟩ := HB4.out.pb.rep.val HB4.out.pb.at'.hi hlx hfn
  have hcdl := HB.out.pb.at'.vi.txt.pr p (List.mem_of_getElem? HB.out.pb.hp)
  have hcdc := hcdl.c
  have hcd3 := HB.out.pb.at'.vi.txt.cl
  have HCA : Hid (CaB W4 A m f e K i t fm l g gs j x P n fn (t.stack.drop (P + 1))) := ⟨HB4.out.pb.rep, HB4.out.pb.at', HB4.out.pb.room, hlx, hlg, v1, HB4.out.pb.hj, by rw [HB4.out.jl]; rfl, HN.out, hP, hx3, hfn, rfl, HB4.out.pb.low, HB4.out.fu, by omega, by rw [← HB4.out.pb.at'.vi.kd _ HB4.out.pb.at'.clo, HB4.out.pb.pe]; exact Nat.not_le.1 (of_decide_eq_false hpc1)⟩
  clear hlx hlg hP hfn v1 hcdl hcdc hcd3
  obtain rfl := H26.out
  have opc : ((26 : Nat) : Int) = 26 := rfl
  rw [opc] at y0
  clear opc H26
  go_wp2_with fail
  obtain ⟨R, HR⟩ : ∃ R, Hid (callP m i x = R) := ⟨_, rfl⟩
  refine (call_any HCA.out).mono ?_
  rw [HR.out]
  have hsz := HF4.out.size
  rcases R with ⟨(v | k) | ev, m4⟩
  · rintro e' w5 ⟨⟨b, rfl, hb, hbl⟩, A5, r5, s5⟩
    exact HhT.out _ _ A5 v m4 b rfl HR.out hb (by omega) r5 ((VSt.fresh HF4.out).trans s5)
  · rintro e' w5 ⟨rfl, A5, r5, s5⟩
    exact HhK.out _ _ A5 k m4 rfl HR.out r5 ((VSt.fresh HF4.out).trans s5)
  · rintro e' w5 ⟨rfl, A5, r5, s5⟩
    have H75 : Hid (Has w5 b7 (evCells ev0) 190) := (s5.keep0 (fun h => h rfl) HB4.out.e7.1 HB4.out.e7.2).1
    have R5 : Hid (VRep w5 A5 m4 f e) := r5
    have S5 : Hid (VSt isVM w A w5 A5) := (VSt.fresh HF4.out).trans s5
    clear r5 s5 hsz HCA
    obtain ⟨x0, x1, x2, x3, x4, x5, x6, x7, x8⟩ := H75.out.ev
    have hz := H75.out.frozen
    have hz0 := hz 0
    have hz1 := hz 1
    have hz2 := hz 2
    have hz3 := hz 3
    have hz4 := hz 4
    have hz5 := hz 5
    have hz6 := hz 6
    have hz7 := hz 7
    have hz8 := hz 8
    have hb75 := H75.out.lt
    clear hz
    dsimp only [ev0, nilV] at x0 x1 x2 x3 x4 x5 x6 x7 x8
    by_cases hk : ev.k = 0
    · obtain rfl := call_ev HR.out hk
      clear hk
      go_wp2_with fail
      exact HhN.out _ _ A5 m4 ⟨by kernel_rfl, by kernel_rfl, by kernel_rfl, by kernel_rfl, by kernel_rfl, by kernel_rfl, rfl⟩ HR.out R5.out S5.out
    · obtain ⟨ek, eth, ee, ⟨vt, vn, vs⟩, ⟨wt, wn, ws⟩⟩ := ev
      have HK : Hid (ek ≠ 0) := hk
      have hkb : ((ek : Int) == 0) = false := by rw [beq_eq_false_iff_ne]; have := HK.out; omega
      clear hk
      go_wp2_with fail
      exact HhE.out _ _ A5 ⟨ek, eth, ee, ⟨vt, vn, vs⟩, ⟨wt, wn, ws⟩⟩ m4 ⟨by kernel_rfl, by kernel_rfl, by kernel_rfl, by kernel_rfl, by kernel_rfl, by kernel_rfl, rfl⟩ HR.out HK.out R5.out S5.out
end
end Go.Proofs.Qxb6500574aGreatDoor
