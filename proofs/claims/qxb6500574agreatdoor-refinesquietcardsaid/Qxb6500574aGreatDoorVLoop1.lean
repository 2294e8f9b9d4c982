/-
  THE WALK of vm: loop: the head of a round.
-/
import Derived.Test.Qxb6500574aGreatDoorVLoop0
import Derived.Test.Qxb6500574aGreatDoorVEff
namespace Go.Proofs.Qxb6500574aGreatDoor
open Go Go.RowKit
set_option linter.unusedVariables false
set_option linter.unusedSimpArgs false
/-- at a round's head -/
structure LB (w : World) (A : VL) (m : VMD) (f e : Nat) (K : Cx) (i : Nat) (t : ThD) (fm : FmD) (g j gp pi : Nat) (p : PrD) (b6 b7 : Nat) : Prop where
  pb : PB w A m f e K i t fm g j gp pi p
  jl : t.frames.length = j + 1
  qc : ∃ q, m.clos[fm.clo]? = some q ∧ q.p = pi
  e6 : Has w b6 (evCells ev0) 190 ∧ A.o b6 = 0
  e7 : Has w b7 (evCells ev0) 190 ∧ A.o b7 = 0
  ne : b6 ≠ b7
  fu : f < 9223372036854775808
/-- what the head reads -/
structure LH (w : World) (A : VL) (i : Nat) (fm : FmD) (g j gp pi : Nat) (p : PrD) (gk fc NC NP n : Nat) (sa : Option Addr) (sc : Nat) : Prop where
  s2 : w.cell? ⟨A.bT, i * 5 + 2, none⟩ = some (.slice sa n sc)
  s3 : w.cell? ⟨A.bT, i * 5 + 3, none⟩ = some (.slice (some ⟨g, 0, none⟩) (j + 1) fc)
  sl : A.bT < w.heap.size
  bl : A.b < w.heap.size
  a2 : w.cell? ⟨A.b, 2, none⟩ = some (.slice (some ⟨gp, 0, none⟩) NP A.C.protos.c)
  a6 : w.cell? ⟨A.b, 6, none⟩ = some (.slice (some ⟨gk, 0, none⟩) NC A.C.clos.c)
  f0 : w.cell? ⟨g, j * 5, none⟩ = some (.int .i64 fm.clo)
  f1 : w.cell? ⟨g, j * 5 + 1, none⟩ = some (.int .i64 fm.pc)
  f2 : w.cell? ⟨g, j * 5 + 2, none⟩ = some (.int .i64 fm.base)
  fl : g < w.heap.size
  k0 : w.cell? ⟨gk, fm.clo * 3, none⟩ = some (.int .i64 pi)
  kl : gk < w.heap.size
  p1 : w.cell? ⟨gp, pi * 8 + 1, none⟩ = some (.int .i64 p.ns)
  p6 : w.cell? ⟨gp, pi * 8 + 6, none⟩ = some (.int .i64 p.code)
  p7 : w.cell? ⟨gp, pi * 8 + 7, none⟩ = some (.int .i64 p.nc)
  pl : gp < w.heap.size
  cl : fm.clo < NC
  nc : NC ≤ 24
  pn : pi < NP
  np : NP ≤ 13
  j8 : j < 8
  n5 : n ≤ 1120
  bs : fm.base + p.ns ≤ n
/-- the instruction -/
structure LI (w : World) (A : VL) (m : VMD) (fm : FmD) (p : PrD) (gc CN CD op x : Nat) : Prop where
  a5 : w.cell? ⟨A.b, 5, none⟩ = some (.slice (some ⟨gc, 0, none⟩) CN CD)
  i0 : w.cell? ⟨gc, (p.code + fm.pc) * 2, none⟩ = some (.int .u8 op)
  i1 : w.cell? ⟨gc, (p.code + fm.pc) * 2 + 1, none⟩ = some (.int .u16 x)
  gl : gc < w.heap.size
  cn : p.code + fm.pc < CN
  c3 : CN ≤ 32768
  hc : m.code[p.code + fm.pc]? = some (op, x)
  o8 : op < 256
  x16 : x < 65536
section
variable {w : World} {A : VL} {m : VMD} {f e i g j gp pi b6 b7 : Nat} {t : ThD} {K : Cx} {fm : FmD} {p : PrD}
set_option maxRecDepth 100000
set_option maxHeartbeats 600000
theorem LB.lh (h : LB w A m f e K i t fm g j gp pi p b6 b7) : ∃ gk fc NC NP sa sc, LH w A i fm g j gp pi p gk fc NC NP t.stack.length sa sc := by
  have B := h.pb
  obtain ⟨l, hx, hg⟩ := B.lay
  obtain ⟨g1, a1, a2, a3, a4, a5, a6⟩ := (B.rep.one B.at'.hi hx).f.at fCells_len B.hj
  dsimp only at a1
  rw [hg] at a1
  cases a1
  obtain ⟨g2, b1, b2, b3, b4, b5, b6⟩ := B.rep.core.protos.at pCells_len B.hp
  rw [B.pa] at b1
  cases b1
  obtain ⟨q, hq, hqp⟩ := h.qc
  obtain ⟨gk, k1, k2, k3, k4, k5, k6⟩ := B.rep.core.clos.at clCells_len hq
  have c2 := B.rep.cell0 2
  have c6 := B.rep.cell0 6
  simp only [vmCells, List.getElem?_toArray, List.getElem?_cons_succ, List.getElem?_cons_zero, Sl.v, k1, B.pa] at c2 c6
  have q0 := a5 0 (by omega)
  have q1 := a5 1 (by omega)
  have q2 := a5 2 (by omega)
  have r1 := b5 1 (by omega)
  have r6 := b5 6 (by omega)
  have r7 := b5 7 (by omega)
  have s0 := k5 0 (by omega)
  simp only [fCells, pCells, clCells, List.getElem?_cons_succ, List.getElem?_cons_zero, Nat.add_zero, hqp] at q0 q1 q2 r1 r6 r7 s0
  have d2 := B.rep.thCell B.at'.hi hx (j := 2) (by omega)
  have d3 := B.rep.thCell B.at'.hi hx (j := 3) (by omega)
  simp only [thCells, List.getElem?_cons_succ, List.getElem?_cons_zero, Sl.v, hg, h.jl] at d2 d3
  obtain ⟨l', _, _, P⟩ := B.cells
  have h8 := B.at'.ok.fr.len
  rw [h.jl] at h8
  exact ⟨gk, l.f.c, m.clos.length, m.protos.length, l.s.a, l.s.c, d2, d3, B.rep.ths.here.has.lt, B.rep.bl, c2, c6, q0, q1, q2, a4, s0, k4, r1, r6, r7, b4, by rw [B.at'.vi.kc]; exact B.at'.clo, by rw [B.at'.vi.kc]; exact B.at'.vi.cn, (List.getElem?_eq_some_iff.1 B.hp).1, B.at'.vi.txt.pl, by omega, P.sn, P.bs⟩
theorem LB.li (h : LB w A m f e K i t fm g j gp pi p b6 b7) (hp : fm.pc < p.nc) : ∃ gc CN CD op x, LI w A m fm p gc CN CD op x := by
  have B := h.pb
  have hpk := B.at'.vi.txt.pr p (List.mem_of_getElem? B.hp)
  have hl : p.code + fm.pc < m.code.length := by have := hpk.c; omega
  obtain ⟨⟨op, x⟩, hc⟩ : ∃ c, m.code[p.code + fm.pc]? = some c := ⟨_, List.getElem?_eq_getElem hl⟩
  obtain ⟨gc, k1, k2, k3, k4, k5, k6⟩ := B.rep.core.code.at iCells_len hc
  have c5 := B.rep.cell0 5
  simp only [vmCells, List.getElem?_toArray, List.getElem?_cons_succ, List.getElem?_cons_zero, Sl.v, k1] at c5
  have s0 := k5 0 (by omega)
  have s1 := k5 1 (by omega)
  simp only [iCells, List.getElem?_cons_succ, List.getElem?_cons_zero, Nat.add_zero] at s0 s1
  have hh := B.at'.vi.txt.cs _ (List.mem_of_getElem? hc)
  exact ⟨gc, m.code.length, A.C.code.c, op, x, c5, s0, s1, k4, hl, B.at'.vi.txt.cl, hc, hh.1, hh.2⟩
theorem rd_end (h : LB w A m f e K i t fm g j gp pi p b6 b7) {a : Act} (ha : Fr62 A.b A.bT i b6 b7 a) {Q : Exit → Act → World → Prop} (hQ : ∀ c a t v w, Q (.panic c) (a.put (some t) v) w → Q (.panic c) a w) (hpc : p.nc ≤ fm.pc) (hP : ∀ a' w', a'.defers = [] → Fr (fun _ => False) w w' → Q (.panic (trapE 11)) a' w') : (roundOf Tryz.f214.body).wp Tryz.prog Q a w := by
  have b1 : decide (p.nc ≤ fm.pc) = true := by rw [decide_eq_true_iff]; exact hpc
  have HP : Hid (∀ a' w', a'.defers = [] → Fr (fun _ => False) w w' → Q (.panic (trapE 11)) a' w') := hP
  clear hP
  have HQH : Hid (∀ c a t v w, Q (.panic c) (a.put (some t) v) w → Q (.panic c) a w) := hQ
  clear hQ
  obtain ⟨u, rfl⟩ := ha.form
  obtain ⟨gk, fc, NC, NP, sa, sc, H⟩ := h.lh
  have HB : Hid (LB w A m f e K i t fm g j gp pi p b6 b7) := h
  obtain ⟨n, HN⟩ : ∃ n, Hid (t.stack.length = n) := ⟨_, rfl⟩
  rw [HN.out] at H
  have HH : Hid (LH w A i fm g j gp pi p gk fc NC NP n sa sc) := H
  obtain ⟨c1, c2, c3, c4, c5, c6, c7, c8, c9, c10, c11, c12, c13, c14, c15, c16, c17, c18, c19, c20, c21, c22, c23⟩ := H
  clear ha h
  have hj1 : ((j : Int) + 1 - 1) = j := by omega
  simp only [roundOf, codeL, codeR, codeIn, Tryz.f214, Option.getD_some]
  go_wp2_with fail
  refine wp_region_tail 11 (by kernel_rfl) (by kernel_rfl) (fun c a t v w h => HQH.out c a t v w h) ?_
  simp only [List.take_succ_cons, List.take_zero, List.drop_succ_cons, List.drop_zero]
  repeat go_big_quiet_step (fail)
  refine wpQuiet_nil ?_
  go_wp2_with fail
  refine wp_region_tail 16 (by kernel_rfl) (by kernel_rfl) (fun c a t v w h => HQH.out c a t v w h) ?_
  simp only [List.take_succ_cons, List.take_zero, List.drop_succ_cons, List.drop_zero]
  repeat go_big_quiet_step (fail)
  refine wpQuiet_nil ?_
  go_wp2_with fail
  refine wp_region_quiet_lit (by kernel_rfl) (by kernel_rfl) ?_
  repeat go_big_quiet_step (fail)
  refine wpQuiet_nil ?_
  rintro w' ⟨nq, rfl⟩
  have HF1 : Hid (Fr (fun _ => False) w (w.drew.drew.drewN nq)) := ((Fr.refl _ _).drew.drew).drewN nq
  obtain ⟨W1, HW1⟩ : ∃ W1, Hid (w.drew.drew.drewN nq = W1) := ⟨_, rfl⟩
  rw [HW1.out] at HF1 ⊢
  clear HW1
  go_wp2_with fail
  refine (stop_any 11).mono ?_
  rintro e' w2 ⟨rfl, rfl⟩
  exact HP.out _ _ rfl HF1.out
theorem LH.fresh {gk fc NC NP n sc : Nat} {sa : Option Addr} {w1 : World} (h : LH w A i fm g j gp pi p gk fc NC NP n sa sc) (hf : Fr (fun _ => False) w w1) : LH w1 A i fm g j gp pi p gk fc NC NP n sa sc :=
  have z := hf.size
  ⟨hf.cell h.s2, hf.cell h.s3, Nat.lt_of_lt_of_le h.sl z, Nat.lt_of_lt_of_le h.bl z, hf.cell h.a2, hf.cell h.a6, hf.cell h.f0, hf.cell h.f1, hf.cell h.f2, Nat.lt_of_lt_of_le h.fl z, hf.cell h.k0, Nat.lt_of_lt_of_le h.kl z, hf.cell h.p1, hf.cell h.p6, hf.cell h.p7, Nat.lt_of_lt_of_le h.pl z, h.cl, h.nc, h.pn, h.np, h.j8, h.n5, h.bs⟩
theorem LI.fresh {gc CN CD op x : Nat} {w1 : World} (h : LI w A m fm p gc CN CD op x) (hf : Fr (fun _ => False) w w1) : LI w1 A m fm p gc CN CD op x :=
  ⟨hf.cell h.a5, hf.cell h.i0, hf.cell h.i1, Nat.lt_of_lt_of_le h.gl hf.size, h.cn, h.c3, h.hc, h.o8, h.x16⟩
theorem LB.fresh {w1 : World} (h : LB w A m f e K i t fm g j gp pi p b6 b7) (hf : Fr (fun _ => False) w w1) : LB w1 A m f e K i t fm g j gp pi p b6 b7 :=
  ⟨h.pb.fresh hf, h.jl, h.qc, ⟨h.e6.1.fr hf (fun x => x), h.e6.2⟩, ⟨h.e7.1.fr hf (fun x => x), h.e7.2⟩, h.ne, h.fu⟩
theorem rd_unsound (h : LB w A m f e K i t fm g j gp pi p b6 b7) {a : Act} (ha : Fr62 A.b A.bT i b6 b7 a) {Q : Exit → Act → World → Prop} (hQ : ∀ c a t v w, Q (.panic c) (a.put (some t) v) w → Q (.panic c) a w) {gc CN CD op x : Nat} (hI : LI w A m fm p gc CN CD op x) (hpc : fm.pc < p.nc) (hs : soundP m i op x = false) (hP : ∀ a' w', a'.defers = [] → Fr (fun _ => False) w w' → Q (.panic (trapE 11)) a' w') : (roundOf Tryz.f214.body).wp Tryz.prog Q a w := by
  have HSO : Hid (soundP m i op x = false) := hs
  clear hs
  have HP : Hid (∀ a' w', a'.defers = [] → Fr (fun _ => False) w w' → Q (.panic (trapE 11)) a' w') := hP
  clear hP
  have HI : Hid (LI w A m fm p gc CN CD op x) := hI
  have hpc1 : decide (p.nc ≤ fm.pc) = false := by rw [decide_eq_false_iff_not]; omega
  clear hI
  have HQH : Hid (∀ c a t v w, Q (.panic c) (a.put (some t) v) w → Q (.panic c) a w) := hQ
  clear hQ
  obtain ⟨u, rfl⟩ := ha.form
  obtain ⟨gk, fc, NC, NP, sa, sc, H⟩ := h.lh
  have HB : Hid (LB w A m f e K i t fm g j gp pi p b6 b7) := h
  obtain ⟨n, HN⟩ : ∃ n, Hid (t.stack.length = n) := ⟨_, rfl⟩
  rw [HN.out] at H
  have HH : Hid (LH w A i fm g j gp pi p gk fc NC NP n sa sc) := H
  obtain ⟨c1, c2, c3, c4, c5, c6, c7, c8, c9, c10, c11, c12, c13, c14, c15, c16, c17, c18, c19, c20, c21, c22, c23⟩ := H
  clear ha h
  have hj1 : ((j : Int) + 1 - 1) = j := by omega
  simp only [roundOf, codeL, codeR, codeIn, Tryz.f214, Option.getD_some]
  go_wp2_with fail
  refine wp_region_tail 11 (by kernel_rfl) (by kernel_rfl) (fun c a t v w h => HQH.out c a t v w h) ?_
  simp only [List.take_succ_cons, List.take_zero, List.drop_succ_cons, List.drop_zero]
  repeat go_big_quiet_step (fail)
  refine wpQuiet_nil ?_
  go_wp2_with fail
  refine wp_region_tail 16 (by kernel_rfl) (by kernel_rfl) (fun c a t v w h => HQH.out c a t v w h) ?_
  simp only [List.take_succ_cons, List.take_zero, List.drop_succ_cons, List.drop_zero]
  repeat go_big_quiet_step (fail)
  refine wpQuiet_nil ?_
  go_wp2_with fail
  refine wp_region_quiet_lit (by kernel_rfl) (by kernel_rfl) ?_
  repeat go_big_quiet_step (fail)
  refine wpQuiet_nil ?_
  rintro w' ⟨nq, rfl⟩
  have HF1 : Hid (Fr (fun _ => False) w (w.drew.drew.drewN nq)) := ((Fr.refl _ _).drew.drew).drewN nq
  obtain ⟨W1, HW1⟩ : ∃ W1, Hid (w.drew.drew.drewN nq = W1) := ⟨_, rfl⟩
  rw [HW1.out] at HF1 ⊢
  clear HW1
  go_wp2_with fail
  have I1 := HI.out.fresh HF1.out
  have H1 := HH.out.fresh HF1.out
  obtain ⟨WD, HWD⟩ : ∃ WD, Hid (W1.drew = WD) := ⟨_, rfl⟩
  have HFD : Hid (Fr (fun _ => False) w WD) := by rw [← HWD.out]; exact HF1.out.drew
  have g0 := fun s : WS WD => s.f.cell ((HI.out.fresh HFD.out).a5)
  have g1 := fun s : WS WD => s.f.cell ((HH.out.fresh HFD.out).p6)
  have g2 := fun s : WS WD => s.f.cell ((HH.out.fresh HFD.out).f1)
  have g3 := fun s : WS WD => s.f.cell ((HI.out.fresh HFD.out).i0)
  have g4 := fun s : WS WD => s.f.cell ((HI.out.fresh HFD.out).i1)
  have HNE : Nonempty (WS WD) := WS.non _
  have i5 := I1.cn
  have i6 := I1.c3
  have i7 := I1.o8
  have i8 := I1.x16
  clear I1 H1
  refine wp_region_mid [0, 1, 2, 3, 4, 5, 6, 7, 8, 9, 10, 11, 12, 13, 14] 15 16 (fun y => ∃ s : WS WD, y = s.y) (by kernel_rfl) (by kernel_rfl) (fun c a t v w h => HQH.out c a t v w h) ⟨⟨W1.drew, by rw [HWD.out]; exact Fr.refl _ _⟩, rfl⟩ [_, _, _, _, _, _, _, _, _, _, _, _, _, _, _] rfl _ rfl ?_
  simp only [List.getElem_toArray, List.getElem_cons_succ, List.getElem_cons_zero, List.drop_succ_cons, List.drop_zero, List.length_cons, List.length_nil, Nat.zero_add]
  repeat go_big_quiet_step (fail)
  refine wpQuiet_nil ?_
  clear g0 g1 g2 g3 g4
  go_wp2_with fail
  refine ⟨⟨⟨_, by rw [← HWD.out]; exact ((Fr.refl _ W1.drew).alloc (.cells #[.int .u8 0, .int .u16 0] 329))⟩, rfl⟩, ?_⟩
  clear HWD HFD HNE
  obtain ⟨W2, HW2⟩ : ∃ W2, Hid ((W1.alloc (.cells #[.int .u8 op, .int .u16 x] 329)).drew = W2) := ⟨_, rfl⟩
  have HF2 : Hid (Fr (fun _ => False) w W2) := by rw [← HW2.out]; exact (HF1.out.alloc _).drew
  have HIN : Hid (Has W2 W1.heap.size #[.int .u8 op, .int .u16 x] 329) := by rw [← HW2.out]; exact (Has.new W1 _ _).fr ((Fr.refl (fun _ => False) _).drew) (fun x => x)
  have HB2 : Hid (LB W2 A m f e K i t fm g j gp pi p b6 b7) := HB.out.fresh HF2.out
  clear c1 c2 c3 c4 c5 c6 c7 c8 c9 c10 c11 c12 c13 c14 c15 c16
  go_wp2_with fail
  rw [HW2.out]
  refine (sound_any HB2.out.pb i7 i8).mono ?_
  rintro e' W3 ⟨rfl, f3⟩
  have HF3 : Hid (Fr (fun _ => False) w W3) := HF2.out.trans f3 (fun _ _ x => x)
  have HI3 : Hid (Has W3 W1.heap.size #[.int .u8 op, .int .u16 x] 329) := HIN.out.fr f3 (fun x => x)
  clear f3 HIN HW2 HB2 HF2
  rw [HSO.out]
  go_wp2_with fail
  refine (stop_any 11).mono ?_
  rintro e' w4 ⟨rfl, rfl⟩
  exact HP.out _ _ rfl HF3.out
theorem need_b (op : Nat) : 0 ≤ need op ∧ need op ≤ 3 ∧ -3 ≤ grow op ∧ grow op ≤ 1 := by
  unfold need grow
  refine ⟨?_, ?_, ?_, ?_⟩ <;> (repeat' split) <;> omega
theorem Has.cells2 {w : World} {b : Nat} {v0 v1 : Value} {T : TypeId} (h : Has w b #[v0, v1] T) : w.cell? ⟨b, 0, none⟩ = some v0 ∧ w.cell? ⟨b, 1, none⟩ = some v1 := ⟨by rw [h.cell]; rfl, by rw [h.cell]; rfl⟩
theorem rd_need (h : LB w A m f e K i t fm g j gp pi p b6 b7) {a : Act} (ha : Fr62 A.b A.bT i b6 b7 a) {Q : Exit → Act → World → Prop} (hQ : ∀ c a t v w, Q (.panic c) (a.put (some t) v) w → Q (.panic c) a w) {gc CN CD op x : Nat} (hI : LI w A m fm p gc CN CD op x) (hpc : fm.pc < p.nc) (hs : soundP m i op x = true) (h26 : op ≠ 26) (hn : (t.stack.length : Int) - fm.base - p.ns < need op ∨ (t.stack.length : Int) - fm.base - p.ns + grow op > 128) (hP : ∀ a' w', a'.defers = [] → Fr (fun _ => False) w w' → Q (.panic (trapE 11)) a' w') : (roundOf Tryz.f214.body).wp Tryz.prog Q a w := by
  have HP : Hid (∀ a' w', a'.defers = [] → Fr (fun _ => False) w w' → Q (.panic (trapE 11)) a' w') := hP
  clear hP
  have H26 : Hid (op ≠ 26) := h26
  have HNE2 : Hid ((t.stack.length : Int) - fm.base - p.ns < need op ∨ (t.stack.length : Int) - fm.base - p.ns + grow op > 128) := hn
  clear h26 hn
  have HSO : Hid (soundP m i op x = true) := hs
  clear hs
  have HI : Hid (LI w A m fm p gc CN CD op x) := hI
  have hpc1 : decide (p.nc ≤ fm.pc) = false := by rw [decide_eq_false_iff_not]; omega
  clear hI
  have HQH : Hid (∀ c a t v w, Q (.panic c) (a.put (some t) v) w → Q (.panic c) a w) := hQ
  clear hQ
  obtain ⟨u, rfl⟩ := ha.form
  obtain ⟨gk, fc, NC, NP, sa, sc, H⟩ := h.lh
  have HB : Hid (LB w A m f e K i t fm g j gp pi p b6 b7) := h
  obtain ⟨n, HN⟩ : ∃ n, Hid (t.stack.length = n) := ⟨_, rfl⟩
  rw [HN.out] at H
  have HH : Hid (LH w A i fm g j gp pi p gk fc NC NP n sa sc) := H
  obtain ⟨c1, c2, c3, c4, c5, c6, c7, c8, c9, c10, c11, c12, c13, c14, c15, c16, c17, c18, c19, c20, c21, c22, c23⟩ := H
  clear ha h
  have hj1 : ((j : Int) + 1 - 1) = j := by omega
  simp only [roundOf, codeL, codeR, codeIn, Tryz.f214, Option.getD_some]
  go_wp2_with fail
  refine wp_region_tail 11 (by kernel_rfl) (by kernel_rfl) (fun c a t v w h => HQH.out c a t v w h) ?_
  simp only [List.take_succ_cons, List.take_zero, List.drop_succ_cons, List.drop_zero]
  repeat go_big_quiet_step (fail)
  refine wpQuiet_nil ?_
  go_wp2_with fail
  refine wp_region_tail 16 (by kernel_rfl) (by kernel_rfl) (fun c a t v w h => HQH.out c a t v w h) ?_
  simp only [List.take_succ_cons, List.take_zero, List.drop_succ_cons, List.drop_zero]
  repeat go_big_quiet_step (fail)
  refine wpQuiet_nil ?_
  go_wp2_with fail
  refine wp_region_quiet_lit (by kernel_rfl) (by kernel_rfl) ?_
  repeat go_big_quiet_step (fail)
  refine wpQuiet_nil ?_
  rintro w' ⟨nq, rfl⟩
  have HF1 : Hid (Fr (fun _ => False) w (w.drew.drew.drewN nq)) := ((Fr.refl _ _).drew.drew).drewN nq
  obtain ⟨W1, HW1⟩ : ∃ W1, Hid (w.drew.drew.drewN nq = W1) := ⟨_, rfl⟩
  rw [HW1.out] at HF1 ⊢
  clear HW1
  go_wp2_with fail
  have I1 := HI.out.fresh HF1.out
  have H1 := HH.out.fresh HF1.out
  obtain ⟨WD, HWD⟩ : ∃ WD, Hid (W1.drew = WD) := ⟨_, rfl⟩
  have HFD : Hid (Fr (fun _ => False) w WD) := by rw [← HWD.out]; exact HF1.out.drew
  have g0 := fun s : WS WD => s.f.cell ((HI.out.fresh HFD.out).a5)
  have g1 := fun s : WS WD => s.f.cell ((HH.out.fresh HFD.out).p6)
  have g2 := fun s : WS WD => s.f.cell ((HH.out.fresh HFD.out).f1)
  have g3 := fun s : WS WD => s.f.cell ((HI.out.fresh HFD.out).i0)
  have g4 := fun s : WS WD => s.f.cell ((HI.out.fresh HFD.out).i1)
  have HNE : Nonempty (WS WD) := WS.non _
  have i5 := I1.cn
  have i6 := I1.c3
  have i7 := I1.o8
  have i8 := I1.x16
  clear I1 H1
  refine wp_region_mid [0, 1, 2, 3, 4, 5, 6, 7, 8, 9, 10, 11, 12, 13, 14] 15 16 (fun y => ∃ s : WS WD, y = s.y) (by kernel_rfl) (by kernel_rfl) (fun c a t v w h => HQH.out c a t v w h) ⟨⟨W1.drew, by rw [HWD.out]; exact Fr.refl _ _⟩, rfl⟩ [_, _, _, _, _, _, _, _, _, _, _, _, _, _, _] rfl _ rfl ?_
  simp only [List.getElem_toArray, List.getElem_cons_succ, List.getElem_cons_zero, List.drop_succ_cons, List.drop_zero, List.length_cons, List.length_nil, Nat.zero_add]
  repeat go_big_quiet_step (fail)
  refine wpQuiet_nil ?_
  clear g0 g1 g2 g3 g4
  go_wp2_with fail
  refine ⟨⟨⟨_, by rw [← HWD.out]; exact ((Fr.refl _ W1.drew).alloc (.cells #[.int .u8 0, .int .u16 0] 329))⟩, rfl⟩, ?_⟩
  clear HWD HFD HNE
  obtain ⟨W2, HW2⟩ : ∃ W2, Hid ((W1.alloc (.cells #[.int .u8 op, .int .u16 x] 329)).drew = W2) := ⟨_, rfl⟩
  have HF2 : Hid (Fr (fun _ => False) w W2) := by rw [← HW2.out]; exact (HF1.out.alloc _).drew
  have HIN : Hid (Has W2 W1.heap.size #[.int .u8 op, .int .u16 x] 329) := by rw [← HW2.out]; exact (Has.new W1 _ _).fr ((Fr.refl (fun _ => False) _).drew) (fun x => x)
  have HB2 : Hid (LB W2 A m f e K i t fm g j gp pi p b6 b7) := HB.out.fresh HF2.out
  clear c1 c2 c3 c4 c5 c6 c7 c8 c9 c10 c11 c12 c13 c14 c15 c16
  go_wp2_with fail
  rw [HW2.out]
  refine (sound_any HB2.out.pb i7 i8).mono ?_
  rintro e' W3 ⟨rfl, f3⟩
  have HF3 : Hid (Fr (fun _ => False) w W3) := HF2.out.trans f3 (fun _ _ x => x)
  have HI3 : Hid (Has W3 W1.heap.size #[.int .u8 op, .int .u16 x] 329) := HIN.out.fr f3 (fun x => x)
  clear f3 HIN HW2 HB2 HF2
  rw [HSO.out]
  obtain ⟨y0, y1⟩ := HI3.out.cells2
  have yl := HI3.out.lt
  go_wp2_with fail
  refine (effect_any op).mono ?_
  rintro e' w4 ⟨rfl, hw4⟩
  rw [hw4]
  clear hw4 w4
  obtain ⟨nd1, nd2, gr1, gr2⟩ := need_b op
  obtain ⟨nd, HND⟩ : ∃ nd, Hid (need op = nd) := ⟨_, rfl⟩
  obtain ⟨gr, HGR⟩ : ∃ gr, Hid (grow op = gr) := ⟨_, rfl⟩
  rw [HND.out] at nd1 nd2 ⊢
  rw [HGR.out] at gr1 gr2 ⊢
  have h26 : ((op : Int) == 26) = false := by rw [beq_eq_false_iff_ne]; have := H26.out; omega
  have H3 := HH.out.fresh HF3.out
  have s2 := H3.s2
  have sl := H3.sl
  have f2 := H3.f2
  have fl := H3.fl
  have p1 := H3.p1
  have pl := H3.pl
  clear H3
  obtain ⟨dp, hdp0⟩ : ∃ dp : Nat, n = fm.base + p.ns + dp := ⟨n - (fm.base + p.ns), by omega⟩
  have HDP : Hid (n = fm.base + p.ns + dp) := hdp0
  have hdp : ((n : Int) - (fm.base : Int) - (p.ns : Int)) = (dp : Int) := by omega
  have hdl : dp ≤ 1120 := by omega
  clear hdp0
  go_wp2_with fail
  refine wp_region_tail 15 (by kernel_rfl) (by kernel_rfl) (fun c a t v w h => HQH.out c a t v w h) ?_
  simp only [List.take_succ_cons, List.take_zero, List.drop_succ_cons, List.drop_zero]
  repeat go_big_quiet_step (fail)
  refine wpQuiet_nil ?_
  obtain ⟨W4, HW4⟩ : ∃ W4, Hid (W3.drew = W4) := ⟨_, rfl⟩
  have HF4 : Hid (Fr (fun _ => False) w W4) := by rw [← HW4.out]; exact HF3.out.drew
  have HI4 : Hid (Has W4 W1.heap.size #[.int .u8 op, .int .u16 x] 329) := by rw [← HW4.out]; exact HI3.out.fr ((Fr.refl (fun _ => False) _).drew) (fun x => x)
  rw [HW4.out]
  clear HW4 s2 sl f2 fl p1 pl y0 y1 yl HI3 HF3
  have hne := HNE2.out
  rw [HND.out, HGR.out, HN.out, hdp] at hne
  by_cases hlt : (dp : Int) < nd
  · have d1 : decide ((dp : Int) < nd) = true := by rw [decide_eq_true_iff]; exact hlt
    clear hne
    go_wp2_with fail
    refine (stop_any 11).mono ?_
    rintro e' w4 ⟨rfl, hw4⟩
    rw [hw4]
    exact HP.out _ _ rfl HF4.out
  · have hgt : (dp : Int) + gr > 128 := by omega
    have d1 : decide ((dp : Int) < nd) = false := by rw [decide_eq_false_iff_not]; exact hlt
    have d2 : decide (128 < (dp : Int) + gr) = true := by rw [decide_eq_true_iff]; omega
    clear hne
    go_wp2_with fail
    refine (stop_any 11).mono ?_
    rintro e' w4 ⟨rfl, hw4⟩
    rw [hw4]
    exact HP.out _ _ rfl HF4.out
end
end Go.Proofs.Qxb6500574aGreatDoor
