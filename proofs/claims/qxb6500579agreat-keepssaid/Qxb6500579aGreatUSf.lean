/-
  THE WALK of vm: showFrame.
-/
import Derived.Test.Qxb6500579aGreatUVals
import Derived.Test.Qxb6500579aGreatUJoin
import Derived.Test.Qxb6500579aGreatVPl0
namespace Go.Proofs.Qxb6500579aGreat
open Go Go.RowKit
set_option linter.unusedVariables false
set_option linter.unusedSimpArgs false
def frEnd (t : ThD) (j : Nat) : Nat := if j + 1 < t.frames.length then (t.frames.getD (j + 1) fm0).ret else t.stack.length
def showF (m : VMD) (t : ThD) (j : Nat) : Bs :=
  let f := t.frames.getD j fm0
  let mid := f.base + (m.proto f.clo).ns
  flat3 [[40], itoaN f.clo, [44], itoaN f.pc, if f.prot then [112] else [45], [59], valsN ((t.stack.take mid).drop f.base), [59], valsN ((t.stack.take (frEnd t j)).drop mid), [41]]
theorem VOk.shw {K : Cx} {v : Vl} (h : VOk K v) : Shw v := by
  have hw := h.well
  refine ⟨hw.1, by omega, h.b, hw.2.2, ?_⟩
  have hh := h.w
  unfold wellV at hh
  split at hh
  · rename_i h3
    simp at hh
    exact .inr ⟨h3, hh.1⟩
  · split at hh
    · cases hh
    · rename_i h3
      exact .inl (Decidable.byContradiction fun e => h3 (.inl e))
theorem win_any {w : World} {o : Nat → Nat} {lab T : Nat} {s : Sl} {xs : List Vl} (R : Row w o lab T 3 s xs.length (xs.flatMap vCells)) (hc : xs.length ≤ s.c) {l h : Nat} (h1 : l ≤ h) (h2 : h ≤ xs.length) :
    ∃ aw cw, (∀ W, (Instr.sliceAt 53 (.slice s.a xs.length s.c) (some (.int .i64 l)) (some (.int .i64 h)) none).run Tryz.prog W = .ok (.slice aw ((xs.take h).drop l).length cw) W) ∧ VAt w aw ((xs.take h).drop l) := by
  have hu : Tryz.prog.underlying 53 = some (.slice (Tryz.prog.elem 53)) := by kernel_rfl
  have hz : ∀ W, (sizeOf (Tryz.prog.elem 53)).run Tryz.prog W = .ok 3 W := fun W => by kernel_rfl
  have hlen : ((xs.take h).drop l).length = h - l := by simp; omega
  refine ⟨if s.c = l then s.a else s.a.map (·.add (l * 3)), s.c - l, fun W => ?_, ⟨fun hne => ?_⟩⟩
  · rw [run_sliceAt_slice _ _ _ _ _ _ hu]
    have := run_slice_lh (P := Tryz.prog) W 53 s.a xs.length s.c hu .i64 .i64 (l : Int) (h : Int) (by omega) (by omega) (by omega)
    rw [this, hz]
    simp only [Result.andThen_ok, sliced, Int.toNat_natCast, hlen]
  · have hlt : l < h := by
      have : 0 < ((xs.take h).drop l).length := List.length_pos_iff.2 hne
      omega
    rw [if_neg (by omega)]
    obtain ⟨g, a1, a2, a3, a4, a5, a6⟩ := R.at vCells_len (List.getElem?_eq_getElem (show l < xs.length by omega))
    refine ⟨g, l * 3, by rw [a1, Option.map_some, addr_lit, Nat.zero_add], a4, fun j v hj => ?_⟩
    have hj2 : xs[l + j]? = some v := by
      rw [List.getElem?_drop] at hj
      have hjl : l + j < h := by
        have := (List.getElem?_eq_some_iff.1 hj).1
        simp at this; omega
      rw [List.getElem?_take_of_lt hjl] at hj
      exact hj
    obtain ⟨g', b1, b2, b3, b4, b5, b6⟩ := R.at vCells_len hj2
    rw [a1] at b1
    cases b1
    have q0 := b5 0 (by omega)
    have q1 := b5 1 (by omega)
    have q2 := b5 2 (by omega)
    simp only [vCells, List.getElem?_cons_succ, List.getElem?_cons_zero, Nat.add_zero] at q0 q1 q2
    rw [show l * 3 + j * 3 = (l + j) * 3 by omega]
    exact ⟨q0, q1, q2⟩
/-- what showFrame reads -/
structure SfC (w : World) (A : VL) (i : Nat) (t : ThD) (l : ThL) (j : Nat) (fm : FmD) (g gp gk pi : Nat) (p : PrD) (NC NP : Nat) (m : VMD) : Prop where
  s2 : w.cell? ⟨A.bT, i * 5 + 2, none⟩ = some (.slice l.s.a t.stack.length l.s.c)
  s3 : w.cell? ⟨A.bT, i * 5 + 3, none⟩ = some (.slice (some ⟨g, 0, none⟩) t.frames.length l.f.c)
  sl : A.bT < w.heap.size
  bl : A.b < w.heap.size
  a2 : w.cell? ⟨A.b, 2, none⟩ = some (.slice (some ⟨gp, 0, none⟩) NP A.C.protos.c)
  a6 : w.cell? ⟨A.b, 6, none⟩ = some (.slice (some ⟨gk, 0, none⟩) NC A.C.clos.c)
  f0 : w.cell? ⟨g, j * 5, none⟩ = some (.int .i64 fm.clo)
  f1 : w.cell? ⟨g, j * 5 + 1, none⟩ = some (.int .i64 fm.pc)
  f2 : w.cell? ⟨g, j * 5 + 2, none⟩ = some (.int .i64 fm.base)
  f4 : w.cell? ⟨g, j * 5 + 4, none⟩ = some (.bool fm.prot)
  f3 : ∀ fn, t.frames[j + 1]? = some fn → w.cell? ⟨g, (j + 1) * 5 + 3, none⟩ = some (.int .i64 fn.ret)
  gl : g < w.heap.size
  k0 : w.cell? ⟨gk, fm.clo * 3, none⟩ = some (.int .i64 pi)
  kl : gk < w.heap.size
  p1 : w.cell? ⟨gp, pi * 8 + 1, none⟩ = some (.int .i64 p.ns)
  pl : gp < w.heap.size
  jl : j < t.frames.length
  f8 : t.frames.length ≤ 8
  cl : fm.clo < NC
  pp : pi < NP
  nc : NC ≤ 24
  np : NP ≤ 13
  ns : p.ns ≤ 12
  pc : fm.pc ≤ 40000
  sn : t.stack.length ≤ 2000
  b1 : fm.base + p.ns ≤ frEnd t j
  b2 : frEnd t j ≤ t.stack.length
  b3 : frEnd t j ≤ fm.base + p.ns + 128
  sc : t.stack.length ≤ l.s.c
  st : Row w A.o (20 + 3 * i) 33 3 l.s t.stack.length (t.stack.flatMap vCells)
  sv : ∀ v ∈ t.stack, Shw v
  pe : m.proto fm.clo = p
section
variable {w : World} {A : VL} {m : VMD} {f e i : Nat} {t : ThD} {l : ThL} {j g gp gk pi NC NP : Nat} {fm : FmD} {p : PrD} {K : Cx}
theorem SfC.of (R : VRep w A m f e) (V : VI K m) (hi : m.ths[i]? = some t) (hx : A.X[i]? = some l) (hj : t.frames[j]? = some fm) (rm : Room K 0 t) : ∃ g gp gk pi p NC NP, SfC w A i t l j fm g gp gk pi p NC NP m := by
  have T := V.th i t hi
  have c2 := R.thCell hi hx (j := 2) (by omega)
  have c3 := R.thCell hi hx (j := 3) (by omega)
  simp only [thCells, List.getElem?_cons_succ, List.getElem?_cons_zero, Sl.v] at c2 c3
  have one := R.one hi hx
  obtain ⟨g, a1, a2, a3, a4, a5, a6⟩ := one.f.at fCells_len hj
  dsimp only at a1
  have hc := (T.fr.each j fm hj).1
  obtain ⟨q, p, h1, h2, h3, h4, h5, h6⟩ := V.proto hc
  obtain ⟨gk, b1, b2, b3, b4, b5, b6⟩ := R.core.clos.at clCells_len h1
  obtain ⟨gp, d1, d2, d3, d4, d5, d6⟩ := R.core.protos.at pCells_len h2
  have v2 := R.cell0 2
  have v6 := R.cell0 6
  simp only [vmCells, List.getElem?_toArray, List.getElem?_cons_succ, List.getElem?_cons_zero, Sl.v] at v2 v6
  rw [d1] at v2
  rw [b1] at v6
  rw [a1] at c3
  have q0 := a5 0 (by omega)
  have q1 := a5 1 (by omega)
  have q2 := a5 2 (by omega)
  have q4 := a5 4 (by omega)
  have k0 := b5 0 (by omega)
  have p1 := d5 1 (by omega)
  simp only [fCells, clCells, pCells, List.getElem?_cons_succ, List.getElem?_cons_zero, Nat.add_zero] at q0 q1 q2 q4 k0 p1
  have P := V.txt.pr p h4
  have hns : p.ns = K.ns fm.clo := by rw [← h3]; exact V.kn _ hc
  have jl := (List.getElem?_eq_some_iff.1 hj).1
  have hpc := T.fr.pcs j fm hj
  have hcd : K.cd fm.clo ≤ 32768 := by rw [← V.kd _ hc, h3]; have := P.c; have := V.txt.cl; omega
  have hbel := T.fr.below (List.mem_of_getElem? hj)
  have f8 := T.fr.len
  have hne : t.frames ≠ [] := fun x => by rw [x] at jl; simp at jl
  obtain ⟨ft, hft⟩ : ∃ ft, t.frames[t.frames.length - 1]? = some ft := ⟨_, List.getElem?_eq_getElem (by omega)⟩
  have sn : t.stack.length ≤ 1120 := T.fr.stackLe hft (by have := rm ft hft; omega) V.ns12
  have en : fm.base + p.ns ≤ frEnd t j ∧ frEnd t j ≤ t.stack.length ∧ frEnd t j ≤ fm.base + p.ns + 128 := by
    unfold frEnd
    split
    · rename_i hlt
      have hg := List.getElem?_eq_getElem hlt
      have e1 : t.frames.getD (j + 1) fm0 = t.frames[j + 1] := by simp [hlt]
      rw [e1, hns]
      have m1 := T.fr.mid j fm _ hj hg
      have m2 := T.fr.below (List.mem_of_getElem? hg)
      have m3 := (T.fr.each _ _ hg).2.1
      omega
    · rename_i hlt
      have : j = t.frames.length - 1 := by omega
      subst this
      have := rm fm hj
      rw [hns]
      omega
  refine ⟨g, gp, gk, q.p, p, m.clos.length, m.protos.length, c2, c3, R.ths.here.has.lt, R.core.here.has.lt, v2, v6, q0, q1, q2, q4, fun fn hfn => ?_, a4, k0, b4, p1, d4, jl, f8, (List.getElem?_eq_some_iff.1 h1).1, (List.getElem?_eq_some_iff.1 h2).1, by have := V.kc; have := V.cn; omega, V.txt.pl, P.ns, by omega, by omega, en.1, en.2.1, en.2.2, ?_, one.s, fun v hv => (T.sv v hv).shw, h3⟩
  · obtain ⟨g', z1, z2, z3, z4, z5, z6⟩ := one.f.at fCells_len hfn
    dsimp only at z1
    rw [a1] at z1
    cases z1
    exact z5 3 (by omega)
  · rcases one.s.form with ⟨x1, x2, x3⟩ | ⟨_, _, x2⟩
    · dsimp only at x2 x3; omega
    · exact x2
set_option maxRecDepth 100000
set_option maxHeartbeats 1000000
theorem showFrame_lp (C : SfC w A i t l j fm g gp gk pi p NC NP m) (hj : t.frames[j]? = some fm) (hlt : ¬ j + 1 < t.frames.length) (hp : fm.prot = true) :
    Calls Tryz.prog 15 #[.pointer (some ⟨A.b, 0, none⟩), .pointer (some ⟨A.bT, i * 5, none⟩), .int .i64 j] w fun e' w' => e' = .returned (sv (showF m t j)) ∧ Fr (fun _ => False) w w' := by
  obtain ⟨aw, cw, hw1, HVA⟩ := win_any C.st C.sc (l := fm.base) (h := fm.base + p.ns) (by omega) (by have := C.b1; have := C.b2; omega)
  obtain ⟨au, cu, hw2, HVB⟩ := win_any C.st C.sc (l := fm.base + p.ns) (h := frEnd t j) C.b1 C.b2
  obtain ⟨xa, HXA⟩ : ∃ xa, Hid ((t.stack.take (fm.base + p.ns)).drop fm.base = xa) := ⟨_, rfl⟩
  obtain ⟨xb, HXB⟩ : ∃ xb, Hid ((t.stack.take (frEnd t j)).drop (fm.base + p.ns) = xb) := ⟨_, rfl⟩
  have lxa : xa.length ≤ 12 := by rw [← HXA.out]; have := C.ns; simp; omega
  have lxb : xb.length ≤ 128 := by rw [← HXB.out]; have := C.b3; simp; omega
  have HSA : Hid (∀ v ∈ xa, Shw v) := by rw [← HXA.out]; exact fun v hv => C.sv v (List.mem_of_mem_take (List.mem_of_mem_drop hv))
  have HSB : Hid (∀ v ∈ xb, Shw v) := by rw [← HXB.out]; exact fun v hv => C.sv v (List.mem_of_mem_take (List.mem_of_mem_drop hv))
  have HR : Hid (showF m t j = flat3 [[40], itoaN fm.clo, [44], itoaN fm.pc, [112], [59], valsN xa, [59], valsN xb, [41]]) := by
    unfold showF
    have e1 : t.frames.getD j fm0 = fm := by simp [hj]
    dsimp only
    rw [e1, C.pe, HXA.out, HXB.out, hp]
    rfl
  rw [HXA.out] at hw1 HVA
  rw [HXB.out] at hw2 HVB
  have HVA : Hid (VAt w aw xa) := HVA
  have HVB : Hid (VAt w au xb) := HVB
  rw [HR.out]
  obtain ⟨Q, HQ⟩ : ∃ Q : Ending → World → Prop, Hid ((fun e' w' => e' = .returned (sv (flat3 [[40], itoaN fm.clo, [44], itoaN fm.pc, [112], [59], valsN xa, [59], valsN xb, [41]])) ∧ Fr (fun _ => False) w w') = Q) := ⟨_, rfl⟩
  rw [HQ.out]
  obtain ⟨fc, fp, fb, fr', fo⟩ := fm
  obtain ⟨pnp, pns, pup, pnup, ppk, pnk, pco, pnc⟩ := p
  obtain ⟨s2, s3, sl, bl, a2, a6, f0, f1, f2, f4, f3, gl, k0, kl, p1, pl, jl, f8, cl, pp, nc, np, ns, pc, sn, b1, b2, b3, sc, st, sv', pe⟩ := C
  dsimp only at *
  subst hp
  have hen : frEnd t j = t.stack.length := by unfold frEnd; rw [if_neg hlt]
  rw [hen] at hw2 b1 b2 b3
  clear f3
  obtain ⟨NF, HNF⟩ : ∃ n, Hid (t.frames.length = n) := ⟨_, rfl⟩
  obtain ⟨NS, HNS⟩ : ∃ n, Hid (t.stack.length = n) := ⟨_, rfl⟩
  rw [HNF.out] at s3 jl f8 hlt
  rw [HNS.out] at s2 sn hw1 hw2 sc b1 b2 b3
  rw [show ((fb + pns : Nat) : Int) = (fb : Int) + pns from rfl] at hw1 hw2
  clear st sv' pe hj HXA HXB hen
  have HF0 : Hid (Fr (fun _ => False) w w.drew) := (Fr.refl _ _).drew
  go_enter Tryz.func15, Tryz.ntmps15
  go_wp2_with fail
  refine wp_region_tail 23 (by kernel_rfl) (by kernel_rfl) (fun _ _ _ _ _ h => h) ?_
  simp only [List.take_succ_cons, List.take_zero, List.drop_succ_cons, List.drop_zero]
  repeat go_big_quiet_step (fail)
  refine wpQuiet_nil ?_
  have s2 := HF0.out.cell s2
  have s3 := HF0.out.cell s3
  have f0 := HF0.out.cell f0
  have f1 := HF0.out.cell f1
  have f2 := HF0.out.cell f2
  have f4 := HF0.out.cell f4
  have sl := Nat.lt_of_lt_of_le sl HF0.out.size
  have gl := Nat.lt_of_lt_of_le gl HF0.out.size
  generalize w.drew = w1 at HF0 s2 s3 f0 f1 f2 f4 sl gl ⊢
  go_wp2_with fail
  refine (itoa_any fc (by omega)).mono ?_
  rintro e' w2 ⟨rfl, F2⟩
  have HF2 : Hid (Fr (fun _ => False) w w2) := HF0.out.trans F2 (fun _ _ x => x)
  have s2 := F2.cell s2
  have f1 := F2.cell f1
  have f2 := F2.cell f2
  have f4 := F2.cell f4
  have sl := Nat.lt_of_lt_of_le sl F2.size
  have gl := Nat.lt_of_lt_of_le gl F2.size
  clear F2
  go_wp2_with fail
  refine (itoa_any fp (by omega)).mono ?_
  rintro e' w3 ⟨rfl, F3⟩
  have HF3 : Hid (Fr (fun _ => False) w w3) := HF2.out.trans F3 (fun _ _ x => x)
  have s2 := F3.cell s2
  have f2 := F3.cell f2
  have f4 := F3.cell f4
  have sl := Nat.lt_of_lt_of_le sl F3.size
  have gl := Nat.lt_of_lt_of_le gl F3.size
  clear F3
  go_wp2_with fail
  refine wp_region_tail 10 (by kernel_rfl) (by kernel_rfl) (fun _ _ _ _ _ h => h) ?_
  simp only [List.take_succ_cons, List.take_zero, List.drop_succ_cons, List.drop_zero]
  repeat go_big_quiet_step (fail)
  refine wpQuiet_nil ?_
  go_wp2_with fail
  refine (vals_any xa HSA.out (by omega) ⟨fun hne => ?_⟩).mono ?_
  · obtain ⟨g', off, y1, y2, y3⟩ := HVA.out.ne hne
    exact ⟨g', off, y1, Nat.lt_of_lt_of_le y2 HF3.out.drew.size, fun jj v hv => ⟨HF3.out.drew.cell (y3 jj v hv).1, HF3.out.drew.cell (y3 jj v hv).2.1, HF3.out.drew.cell (y3 jj v hv).2.2⟩⟩
  rintro e' w4 ⟨rfl, F4⟩
  have HF4 : Hid (Fr (fun _ => False) w w4) := HF3.out.drew.trans F4 (fun _ _ x => x)
  have s2 := ((Fr.refl _ _).drew.trans F4 (fun _ _ x => x)).cell s2
  have sl := Nat.lt_of_lt_of_le sl ((Fr.refl _ _).drew.trans F4 (fun _ _ x => x)).size
  clear F4
  go_wp2_with fail
  refine (vals_any xb HSB.out (by omega) ⟨fun hne => ?_⟩).mono ?_
  · obtain ⟨g', off, y1, y2, y3⟩ := HVB.out.ne hne
    exact ⟨g', off, y1, Nat.lt_of_lt_of_le y2 HF4.out.size, fun jj v hv => ⟨HF4.out.cell (y3 jj v hv).1, HF4.out.cell (y3 jj v hv).2.1, HF4.out.cell (y3 jj v hv).2.2⟩⟩
  rintro e' w5 ⟨rfl, F5⟩
  have HF5 : Hid (Fr (fun _ => False) w w5) := HF4.out.trans F5 (fun _ _ x => x)
  clear F5
  go_wp2_with fail
  have n1 := itoaN_len fc
  have n2 := itoaN_len fp
  have n3 : (valsN xa).length ≤ 65 * 12 := by have := vals_len HSA.out xa.length; rw [List.take_length] at this; omega
  have n4 : (valsN xb).length ≤ 65 * 128 := by have := vals_len HSB.out xb.length; rw [List.take_length] at this; omega
  refine (joinN_any (B := w5.heap.size) (c := 10) (NP := 10) [[40], itoaN fc, [44], itoaN fp, [112], [59], valsN xa, [59], valsN xb, [41]] rfl (by omega) (by simp [flat3]; omega) (Has.newC _ _ _ rfl) (by simp [flat3])).mono ?_
  rintro e' w6 ⟨rfl, F6⟩
  have FIN : Hid (Q (.returned (sv (flat3 [[40], itoaN fc, [44], itoaN fp, [112], [59], valsN xa, [59], valsN xb, [41]]))) w6) := by
    rw [← HQ.out]
    exact ⟨rfl, (HF5.out.alloc _).trans F6 (fun _ _ x => x)⟩
  clear F6
  obtain ⟨FL, HFL⟩ : ∃ FL : Bs, Hid (flat3 [[40], itoaN fc, [44], itoaN fp, [112], [59], valsN xa, [59], valsN xb, [41]] = FL) := ⟨_, rfl⟩
  rw [HFL.out] at FIN ⊢
  go_wp2_with fail
  exact FIN.out
theorem showFrame_lu (C : SfC w A i t l j fm g gp gk pi p NC NP m) (hj : t.frames[j]? = some fm) (hlt : ¬ j + 1 < t.frames.length) (hp : fm.prot = false) :
    Calls Tryz.prog 15 #[.pointer (some ⟨A.b, 0, none⟩), .pointer (some ⟨A.bT, i * 5, none⟩), .int .i64 j] w fun e' w' => e' = .returned (sv (showF m t j)) ∧ Fr (fun _ => False) w w' := by
  obtain ⟨aw, cw, hw1, HVA⟩ := win_any C.st C.sc (l := fm.base) (h := fm.base + p.ns) (by omega) (by have := C.b1; have := C.b2; omega)
  obtain ⟨au, cu, hw2, HVB⟩ := win_any C.st C.sc (l := fm.base + p.ns) (h := frEnd t j) C.b1 C.b2
  obtain ⟨xa, HXA⟩ : ∃ xa, Hid ((t.stack.take (fm.base + p.ns)).drop fm.base = xa) := ⟨_, rfl⟩
  obtain ⟨xb, HXB⟩ : ∃ xb, Hid ((t.stack.take (frEnd t j)).drop (fm.base + p.ns) = xb) := ⟨_, rfl⟩
  have lxa : xa.length ≤ 12 := by rw [← HXA.out]; have := C.ns; simp; omega
  have lxb : xb.length ≤ 128 := by rw [← HXB.out]; have := C.b3; simp; omega
  have HSA : Hid (∀ v ∈ xa, Shw v) := by rw [← HXA.out]; exact fun v hv => C.sv v (List.mem_of_mem_take (List.mem_of_mem_drop hv))
  have HSB : Hid (∀ v ∈ xb, Shw v) := by rw [← HXB.out]; exact fun v hv => C.sv v (List.mem_of_mem_take (List.mem_of_mem_drop hv))
  have HR : Hid (showF m t j = flat3 [[40], itoaN fm.clo, [44], itoaN fm.pc, [45], [59], valsN xa, [59], valsN xb, [41]]) := by
    unfold showF
    have e1 : t.frames.getD j fm0 = fm := by simp [hj]
    dsimp only
    rw [e1, C.pe, HXA.out, HXB.out, hp]
    rfl
  rw [HXA.out] at hw1 HVA
  rw [HXB.out] at hw2 HVB
  have HVA : Hid (VAt w aw xa) := HVA
  have HVB : Hid (VAt w au xb) := HVB
  rw [HR.out]
  obtain ⟨Q, HQ⟩ : ∃ Q : Ending → World → Prop, Hid ((fun e' w' => e' = .returned (sv (flat3 [[40], itoaN fm.clo, [44], itoaN fm.pc, [45], [59], valsN xa, [59], valsN xb, [41]])) ∧ Fr (fun _ => False) w w') = Q) := ⟨_, rfl⟩
  rw [HQ.out]
  obtain ⟨fc, fp, fb, fr', fo⟩ := fm
  obtain ⟨pnp, pns, pup, pnup, ppk, pnk, pco, pnc⟩ := p
  obtain ⟨s2, s3, sl, bl, a2, a6, f0, f1, f2, f4, f3, gl, k0, kl, p1, pl, jl, f8, cl, pp, nc, np, ns, pc, sn, b1, b2, b3, sc, st, sv', pe⟩ := C
  dsimp only at *
  subst hp
  have hen : frEnd t j = t.stack.length := by unfold frEnd; rw [if_neg hlt]
  rw [hen] at hw2 b1 b2 b3
  clear f3
  obtain ⟨NF, HNF⟩ : ∃ n, Hid (t.frames.length = n) := ⟨_, rfl⟩
  obtain ⟨NS, HNS⟩ : ∃ n, Hid (t.stack.length = n) := ⟨_, rfl⟩
  rw [HNF.out] at s3 jl f8 hlt
  rw [HNS.out] at s2 sn hw1 hw2 sc b1 b2 b3
  rw [show ((fb + pns : Nat) : Int) = (fb : Int) + pns from rfl] at hw1 hw2
  clear st sv' pe hj HXA HXB hen
  have HF0 : Hid (Fr (fun _ => False) w w.drew) := (Fr.refl _ _).drew
  go_enter Tryz.func15, Tryz.ntmps15
  go_wp2_with fail
  refine wp_region_tail 23 (by kernel_rfl) (by kernel_rfl) (fun _ _ _ _ _ h => h) ?_
  simp only [List.take_succ_cons, List.take_zero, List.drop_succ_cons, List.drop_zero]
  repeat go_big_quiet_step (fail)
  refine wpQuiet_nil ?_
  have s2 := HF0.out.cell s2
  have s3 := HF0.out.cell s3
  have f0 := HF0.out.cell f0
  have f1 := HF0.out.cell f1
  have f2 := HF0.out.cell f2
  have f4 := HF0.out.cell f4
  have sl := Nat.lt_of_lt_of_le sl HF0.out.size
  have gl := Nat.lt_of_lt_of_le gl HF0.out.size
  generalize w.drew = w1 at HF0 s2 s3 f0 f1 f2 f4 sl gl ⊢
  go_wp2_with fail
  refine (itoa_any fc (by omega)).mono ?_
  rintro e' w2 ⟨rfl, F2⟩
  have HF2 : Hid (Fr (fun _ => False) w w2) := HF0.out.trans F2 (fun _ _ x => x)
  have s2 := F2.cell s2
  have f1 := F2.cell f1
  have f2 := F2.cell f2
  have f4 := F2.cell f4
  have sl := Nat.lt_of_lt_of_le sl F2.size
  have gl := Nat.lt_of_lt_of_le gl F2.size
  clear F2
  go_wp2_with fail
  refine (itoa_any fp (by omega)).mono ?_
  rintro e' w3 ⟨rfl, F3⟩
  have HF3 : Hid (Fr (fun _ => False) w w3) := HF2.out.trans F3 (fun _ _ x => x)
  have s2 := F3.cell s2
  have f2 := F3.cell f2
  have f4 := F3.cell f4
  have sl := Nat.lt_of_lt_of_le sl F3.size
  have gl := Nat.lt_of_lt_of_le gl F3.size
  clear F3
  go_wp2_with fail
  refine wp_region_tail 10 (by kernel_rfl) (by kernel_rfl) (fun _ _ _ _ _ h => h) ?_
  simp only [List.take_succ_cons, List.take_zero, List.drop_succ_cons, List.drop_zero]
  repeat go_big_quiet_step (fail)
  refine wpQuiet_nil ?_
  go_wp2_with fail
  refine (vals_any xa HSA.out (by omega) ⟨fun hne => ?_⟩).mono ?_
  · obtain ⟨g', off, y1, y2, y3⟩ := HVA.out.ne hne
    exact ⟨g', off, y1, Nat.lt_of_lt_of_le y2 HF3.out.drew.size, fun jj v hv => ⟨HF3.out.drew.cell (y3 jj v hv).1, HF3.out.drew.cell (y3 jj v hv).2.1, HF3.out.drew.cell (y3 jj v hv).2.2⟩⟩
  rintro e' w4 ⟨rfl, F4⟩
  have HF4 : Hid (Fr (fun _ => False) w w4) := HF3.out.drew.trans F4 (fun _ _ x => x)
  have s2 := ((Fr.refl _ _).drew.trans F4 (fun _ _ x => x)).cell s2
  have sl := Nat.lt_of_lt_of_le sl ((Fr.refl _ _).drew.trans F4 (fun _ _ x => x)).size
  clear F4
  go_wp2_with fail
  refine (vals_any xb HSB.out (by omega) ⟨fun hne => ?_⟩).mono ?_
  · obtain ⟨g', off, y1, y2, y3⟩ := HVB.out.ne hne
    exact ⟨g', off, y1, Nat.lt_of_lt_of_le y2 HF4.out.size, fun jj v hv => ⟨HF4.out.cell (y3 jj v hv).1, HF4.out.cell (y3 jj v hv).2.1, HF4.out.cell (y3 jj v hv).2.2⟩⟩
  rintro e' w5 ⟨rfl, F5⟩
  have HF5 : Hid (Fr (fun _ => False) w w5) := HF4.out.trans F5 (fun _ _ x => x)
  clear F5
  go_wp2_with fail
  have n1 := itoaN_len fc
  have n2 := itoaN_len fp
  have n3 : (valsN xa).length ≤ 65 * 12 := by have := vals_len HSA.out xa.length; rw [List.take_length] at this; omega
  have n4 : (valsN xb).length ≤ 65 * 128 := by have := vals_len HSB.out xb.length; rw [List.take_length] at this; omega
  refine (joinN_any (B := w5.heap.size) (c := 10) (NP := 10) [[40], itoaN fc, [44], itoaN fp, [45], [59], valsN xa, [59], valsN xb, [41]] rfl (by omega) (by simp [flat3]; omega) (Has.newC _ _ _ rfl) (by simp [flat3])).mono ?_
  rintro e' w6 ⟨rfl, F6⟩
  have FIN : Hid (Q (.returned (sv (flat3 [[40], itoaN fc, [44], itoaN fp, [45], [59], valsN xa, [59], valsN xb, [41]]))) w6) := by
    rw [← HQ.out]
    exact ⟨rfl, (HF5.out.alloc _).trans F6 (fun _ _ x => x)⟩
  clear F6
  obtain ⟨FL, HFL⟩ : ∃ FL : Bs, Hid (flat3 [[40], itoaN fc, [44], itoaN fp, [45], [59], valsN xa, [59], valsN xb, [41]] = FL) := ⟨_, rfl⟩
  rw [HFL.out] at FIN ⊢
  go_wp2_with fail
  exact FIN.out
theorem showFrame_np (C : SfC w A i t l j fm g gp gk pi p NC NP m) (hj : t.frames[j]? = some fm) (hlt : j + 1 < t.frames.length) (hp : fm.prot = true) :
    Calls Tryz.prog 15 #[.pointer (some ⟨A.b, 0, none⟩), .pointer (some ⟨A.bT, i * 5, none⟩), .int .i64 j] w fun e' w' => e' = .returned (sv (showF m t j)) ∧ Fr (fun _ => False) w w' := by
  obtain ⟨aw, cw, hw1, HVA⟩ := win_any C.st C.sc (l := fm.base) (h := fm.base + p.ns) (by omega) (by have := C.b1; have := C.b2; omega)
  obtain ⟨au, cu, hw2, HVB⟩ := win_any C.st C.sc (l := fm.base + p.ns) (h := frEnd t j) C.b1 C.b2
  obtain ⟨xa, HXA⟩ : ∃ xa, Hid ((t.stack.take (fm.base + p.ns)).drop fm.base = xa) := ⟨_, rfl⟩
  obtain ⟨xb, HXB⟩ : ∃ xb, Hid ((t.stack.take (frEnd t j)).drop (fm.base + p.ns) = xb) := ⟨_, rfl⟩
  have lxa : xa.length ≤ 12 := by rw [← HXA.out]; have := C.ns; simp; omega
  have lxb : xb.length ≤ 128 := by rw [← HXB.out]; have := C.b3; simp; omega
  have HSA : Hid (∀ v ∈ xa, Shw v) := by rw [← HXA.out]; exact fun v hv => C.sv v (List.mem_of_mem_take (List.mem_of_mem_drop hv))
  have HSB : Hid (∀ v ∈ xb, Shw v) := by rw [← HXB.out]; exact fun v hv => C.sv v (List.mem_of_mem_take (List.mem_of_mem_drop hv))
  have HR : Hid (showF m t j = flat3 [[40], itoaN fm.clo, [44], itoaN fm.pc, [112], [59], valsN xa, [59], valsN xb, [41]]) := by
    unfold showF
    have e1 : t.frames.getD j fm0 = fm := by simp [hj]
    dsimp only
    rw [e1, C.pe, HXA.out, HXB.out, hp]
    rfl
  rw [HXA.out] at hw1 HVA
  rw [HXB.out] at hw2 HVB
  have HVA : Hid (VAt w aw xa) := HVA
  have HVB : Hid (VAt w au xb) := HVB
  rw [HR.out]
  obtain ⟨Q, HQ⟩ : ∃ Q : Ending → World → Prop, Hid ((fun e' w' => e' = .returned (sv (flat3 [[40], itoaN fm.clo, [44], itoaN fm.pc, [112], [59], valsN xa, [59], valsN xb, [41]])) ∧ Fr (fun _ => False) w w') = Q) := ⟨_, rfl⟩
  rw [HQ.out]
  obtain ⟨fc, fp, fb, fr', fo⟩ := fm
  obtain ⟨pnp, pns, pup, pnup, ppk, pnk, pco, pnc⟩ := p
  obtain ⟨s2, s3, sl, bl, a2, a6, f0, f1, f2, f4, f3, gl, k0, kl, p1, pl, jl, f8, cl, pp, nc, np, ns, pc, sn, b1, b2, b3, sc, st, sv', pe⟩ := C
  dsimp only at *
  subst hp
  have f3 := f3 _ (List.getElem?_eq_getElem hlt)
  have hen : frEnd t j = t.frames[j + 1].ret := by unfold frEnd; rw [if_pos hlt]; simp [hlt]
  rw [hen] at hw2 b1 b2 b3
  obtain ⟨fre, hfre⟩ : ∃ x, t.frames[j + 1].ret = x := ⟨_, rfl⟩
  rw [hfre] at hw2 b1 b2 b3 f3
  clear hfre
  obtain ⟨NF, HNF⟩ : ∃ n, Hid (t.frames.length = n) := ⟨_, rfl⟩
  obtain ⟨NS, HNS⟩ : ∃ n, Hid (t.stack.length = n) := ⟨_, rfl⟩
  rw [HNF.out] at s3 jl f8 hlt
  rw [HNS.out] at s2 sn hw1 hw2 sc b2
  rw [show ((fb + pns : Nat) : Int) = (fb : Int) + pns from rfl] at hw1 hw2
  clear st sv' pe hj HXA HXB hen
  have HF0 : Hid (Fr (fun _ => False) w w.drew) := (Fr.refl _ _).drew
  go_enter Tryz.func15, Tryz.ntmps15
  go_wp2_with fail
  refine wp_region_tail 23 (by kernel_rfl) (by kernel_rfl) (fun _ _ _ _ _ h => h) ?_
  simp only [List.take_succ_cons, List.take_zero, List.drop_succ_cons, List.drop_zero]
  repeat go_big_quiet_step (fail)
  refine wpQuiet_nil ?_
  have s2 := HF0.out.cell s2
  have s3 := HF0.out.cell s3
  have f0 := HF0.out.cell f0
  have f1 := HF0.out.cell f1
  have f2 := HF0.out.cell f2
  have f4 := HF0.out.cell f4
  have f3 := HF0.out.cell f3
  have sl := Nat.lt_of_lt_of_le sl HF0.out.size
  have gl := Nat.lt_of_lt_of_le gl HF0.out.size
  generalize w.drew = w1 at HF0 s2 s3 f0 f1 f2 f3 f4 sl gl ⊢
  go_wp2_with fail
  refine (itoa_any fc (by omega)).mono ?_
  rintro e' w2 ⟨rfl, F2⟩
  have HF2 : Hid (Fr (fun _ => False) w w2) := HF0.out.trans F2 (fun _ _ x => x)
  have s2 := F2.cell s2
  have f1 := F2.cell f1
  have f2 := F2.cell f2
  have f4 := F2.cell f4
  have sl := Nat.lt_of_lt_of_le sl F2.size
  have gl := Nat.lt_of_lt_of_le gl F2.size
  clear F2
  go_wp2_with fail
  refine (itoa_any fp (by omega)).mono ?_
  rintro e' w3 ⟨rfl, F3⟩
  have HF3 : Hid (Fr (fun _ => False) w w3) := HF2.out.trans F3 (fun _ _ x => x)
  have s2 := F3.cell s2
  have f2 := F3.cell f2
  have f4 := F3.cell f4
  have sl := Nat.lt_of_lt_of_le sl F3.size
  have gl := Nat.lt_of_lt_of_le gl F3.size
  clear F3
  go_wp2_with fail
  refine wp_region_tail 10 (by kernel_rfl) (by kernel_rfl) (fun _ _ _ _ _ h => h) ?_
  simp only [List.take_succ_cons, List.take_zero, List.drop_succ_cons, List.drop_zero]
  repeat go_big_quiet_step (fail)
  refine wpQuiet_nil ?_
  go_wp2_with fail
  refine (vals_any xa HSA.out (by omega) ⟨fun hne => ?_⟩).mono ?_
  · obtain ⟨g', off, y1, y2, y3⟩ := HVA.out.ne hne
    exact ⟨g', off, y1, Nat.lt_of_lt_of_le y2 HF3.out.drew.size, fun jj v hv => ⟨HF3.out.drew.cell (y3 jj v hv).1, HF3.out.drew.cell (y3 jj v hv).2.1, HF3.out.drew.cell (y3 jj v hv).2.2⟩⟩
  rintro e' w4 ⟨rfl, F4⟩
  have HF4 : Hid (Fr (fun _ => False) w w4) := HF3.out.drew.trans F4 (fun _ _ x => x)
  have s2 := ((Fr.refl _ _).drew.trans F4 (fun _ _ x => x)).cell s2
  have sl := Nat.lt_of_lt_of_le sl ((Fr.refl _ _).drew.trans F4 (fun _ _ x => x)).size
  clear F4
  go_wp2_with fail
  refine (vals_any xb HSB.out (by omega) ⟨fun hne => ?_⟩).mono ?_
  · obtain ⟨g', off, y1, y2, y3⟩ := HVB.out.ne hne
    exact ⟨g', off, y1, Nat.lt_of_lt_of_le y2 HF4.out.size, fun jj v hv => ⟨HF4.out.cell (y3 jj v hv).1, HF4.out.cell (y3 jj v hv).2.1, HF4.out.cell (y3 jj v hv).2.2⟩⟩
  rintro e' w5 ⟨rfl, F5⟩
  have HF5 : Hid (Fr (fun _ => False) w w5) := HF4.out.trans F5 (fun _ _ x => x)
  clear F5
  go_wp2_with fail
  have n1 := itoaN_len fc
  have n2 := itoaN_len fp
  have n3 : (valsN xa).length ≤ 65 * 12 := by have := vals_len HSA.out xa.length; rw [List.take_length] at this; omega
  have n4 : (valsN xb).length ≤ 65 * 128 := by have := vals_len HSB.out xb.length; rw [List.take_length] at this; omega
  refine (joinN_any (B := w5.heap.size) (c := 10) (NP := 10) [[40], itoaN fc, [44], itoaN fp, [112], [59], valsN xa, [59], valsN xb, [41]] rfl (by omega) (by simp [flat3]; omega) (Has.newC _ _ _ rfl) (by simp [flat3])).mono ?_
  rintro e' w6 ⟨rfl, F6⟩
  have FIN : Hid (Q (.returned (sv (flat3 [[40], itoaN fc, [44], itoaN fp, [112], [59], valsN xa, [59], valsN xb, [41]]))) w6) := by
    rw [← HQ.out]
    exact ⟨rfl, (HF5.out.alloc _).trans F6 (fun _ _ x => x)⟩
  clear F6
  obtain ⟨FL, HFL⟩ : ∃ FL : Bs, Hid (flat3 [[40], itoaN fc, [44], itoaN fp, [112], [59], valsN xa, [59], valsN xb, [41]] = FL) := ⟨_, rfl⟩
  rw [HFL.out] at FIN ⊢
  go_wp2_with fail
  exact FIN.out
theorem showFrame_nu (C : SfC w A i t l j fm g gp gk pi p NC NP m) (hj : t.frames[j]? = some fm) (hlt : j + 1 < t.frames.length) (hp : fm.prot = false) :
    Calls Tryz.prog 15 #[.pointer (some ⟨A.b, 0, none⟩), .pointer (some ⟨A.bT, i * 5, none⟩), .int .i64 j] w fun e' w' => e' = .returned (sv (showF m t j)) ∧ Fr (fun _ => False) w w' := by
  obtain ⟨aw, cw, hw1, HVA⟩ := win_any C.st C.sc (l := fm.base) (h := fm.base + p.ns) (by omega) (by have := C.b1; have := C.b2; omega)
  obtain ⟨au, cu, hw2, HVB⟩ := win_any C.st C.sc (l := fm.base + p.ns) (h := frEnd t j) C.b1 C.b2
  obtain ⟨xa, HXA⟩ : ∃ xa, Hid ((t.stack.take (fm.base + p.ns)).drop fm.base = xa) := ⟨_, rfl⟩
  obtain ⟨xb, HXB⟩ : ∃ xb, Hid ((t.stack.take (frEnd t j)).drop (fm.base + p.ns) = xb) := ⟨_, rfl⟩
  have lxa : xa.length ≤ 12 := by rw [← HXA.out]; have := C.ns; simp; omega
  have lxb : xb.length ≤ 128 := by rw [← HXB.out]; have := C.b3; simp; omega
  have HSA : Hid (∀ v ∈ xa, Shw v) := by rw [← HXA.out]; exact fun v hv => C.sv v (List.mem_of_mem_take (List.mem_of_mem_drop hv))
  have HSB : Hid (∀ v ∈ xb, Shw v) := by rw [← HXB.out]; exact fun v hv => C.sv v (List.mem_of_mem_take (List.mem_of_mem_drop hv))
  have HR : Hid (showF m t j = flat3 [[40], itoaN fm.clo, [44], itoaN fm.pc, [45], [59], valsN xa, [59], valsN xb, [41]]) := by
    unfold showF
    have e1 : t.frames.getD j fm0 = fm := by simp [hj]
    dsimp only
    rw [e1, C.pe, HXA.out, HXB.out, hp]
    rfl
  rw [HXA.out] at hw1 HVA
  rw [HXB.out] at hw2 HVB
  have HVA : Hid (VAt w aw xa) := HVA
  have HVB : Hid (VAt w au xb) := HVB
  rw [HR.out]
  obtain ⟨Q, HQ⟩ : ∃ Q : Ending → World → Prop, Hid ((fun e' w' => e' = .returned (sv (flat3 [[40], itoaN fm.clo, [44], itoaN fm.pc, [45], [59], valsN xa, [59], valsN xb, [41]])) ∧ Fr (fun _ => False) w w') = Q) := ⟨_, rfl⟩
  rw [HQ.out]
  obtain ⟨fc, fp, fb, fr', fo⟩ := fm
  obtain ⟨pnp, pns, pup, pnup, ppk, pnk, pco, pnc⟩ := p
  obtain ⟨s2, s3, sl, bl, a2, a6, f0, f1, f2, f4, f3, gl, k0, kl, p1, pl, jl, f8, cl, pp, nc, np, ns, pc, sn, b1, b2, b3, sc, st, sv', pe⟩ := C
  dsimp only at *
  subst hp
  have f3 := f3 _ (List.getElem?_eq_getElem hlt)
  have hen : frEnd t j = t.frames[j + 1].ret := by unfold frEnd; rw [if_pos hlt]; simp [hlt]
  rw [hen] at hw2 b1 b2 b3
  obtain ⟨fre, hfre⟩ : ∃ x, t.frames[j + 1].ret = x := ⟨_, rfl⟩
  rw [hfre] at hw2 b1 b2 b3 f3
  clear hfre
  obtain ⟨NF, HNF⟩ : ∃ n, Hid (t.frames.length = n) := ⟨_, rfl⟩
  obtain ⟨NS, HNS⟩ : ∃ n, Hid (t.stack.length = n) := ⟨_, rfl⟩
  rw [HNF.out] at s3 jl f8 hlt
  rw [HNS.out] at s2 sn hw1 hw2 sc b2
  rw [show ((fb + pns : Nat) : Int) = (fb : Int) + pns from rfl] at hw1 hw2
  clear st sv' pe hj HXA HXB hen
  have HF0 : Hid (Fr (fun _ => False) w w.drew) := (Fr.refl _ _).drew
  go_enter Tryz.func15, Tryz.ntmps15
  go_wp2_with fail
  refine wp_region_tail 23 (by kernel_rfl) (by kernel_rfl) (fun _ _ _ _ _ h => h) ?_
  simp only [List.take_succ_cons, List.take_zero, List.drop_succ_cons, List.drop_zero]
  repeat go_big_quiet_step (fail)
  refine wpQuiet_nil ?_
  have s2 := HF0.out.cell s2
  have s3 := HF0.out.cell s3
  have f0 := HF0.out.cell f0
  have f1 := HF0.out.cell f1
  have f2 := HF0.out.cell f2
  have f4 := HF0.out.cell f4
  have f3 := HF0.out.cell f3
  have sl := Nat.lt_of_lt_of_le sl HF0.out.size
  have gl := Nat.lt_of_lt_of_le gl HF0.out.size
  generalize w.drew = w1 at HF0 s2 s3 f0 f1 f2 f3 f4 sl gl ⊢
  go_wp2_with fail
  refine (itoa_any fc (by omega)).mono ?_
  rintro e' w2 ⟨rfl, F2⟩
  have HF2 : Hid (Fr (fun _ => False) w w2) := HF0.out.trans F2 (fun _ _ x => x)
  have s2 := F2.cell s2
  have f1 := F2.cell f1
  have f2 := F2.cell f2
  have f4 := F2.cell f4
  have sl := Nat.lt_of_lt_of_le sl F2.size
  have gl := Nat.lt_of_lt_of_le gl F2.size
  clear F2
  go_wp2_with fail
  refine (itoa_any fp (by omega)).mono ?_
  rintro e' w3 ⟨rfl, F3⟩
  have HF3 : Hid (Fr (fun _ => False) w w3) := HF2.out.trans F3 (fun _ _ x => x)
  have s2 := F3.cell s2
  have f2 := F3.cell f2
  have f4 := F3.cell f4
  have sl := Nat.lt_of_lt_of_le sl F3.size
  have gl := Nat.lt_of_lt_of_le gl F3.size
  clear F3
  go_wp2_with fail
  refine wp_region_tail 10 (by kernel_rfl) (by kernel_rfl) (fun _ _ _ _ _ h => h) ?_
  simp only [List.take_succ_cons, List.take_zero, List.drop_succ_cons, List.drop_zero]
  repeat go_big_quiet_step (fail)
  refine wpQuiet_nil ?_
  go_wp2_with fail
  refine (vals_any xa HSA.out (by omega) ⟨fun hne => ?_⟩).mono ?_
  · obtain ⟨g', off, y1, y2, y3⟩ := HVA.out.ne hne
    exact ⟨g', off, y1, Nat.lt_of_lt_of_le y2 HF3.out.drew.size, fun jj v hv => ⟨HF3.out.drew.cell (y3 jj v hv).1, HF3.out.drew.cell (y3 jj v hv).2.1, HF3.out.drew.cell (y3 jj v hv).2.2⟩⟩
  rintro e' w4 ⟨rfl, F4⟩
  have HF4 : Hid (Fr (fun _ => False) w w4) := HF3.out.drew.trans F4 (fun _ _ x => x)
  have s2 := ((Fr.refl _ _).drew.trans F4 (fun _ _ x => x)).cell s2
  have sl := Nat.lt_of_lt_of_le sl ((Fr.refl _ _).drew.trans F4 (fun _ _ x => x)).size
  clear F4
  go_wp2_with fail
  refine (vals_any xb HSB.out (by omega) ⟨fun hne => ?_⟩).mono ?_
  · obtain ⟨g', off, y1, y2, y3⟩ := HVB.out.ne hne
    exact ⟨g', off, y1, Nat.lt_of_lt_of_le y2 HF4.out.size, fun jj v hv => ⟨HF4.out.cell (y3 jj v hv).1, HF4.out.cell (y3 jj v hv).2.1, HF4.out.cell (y3 jj v hv).2.2⟩⟩
  rintro e' w5 ⟨rfl, F5⟩
  have HF5 : Hid (Fr (fun _ => False) w w5) := HF4.out.trans F5 (fun _ _ x => x)
  clear F5
  go_wp2_with fail
  have n1 := itoaN_len fc
  have n2 := itoaN_len fp
  have n3 : (valsN xa).length ≤ 65 * 12 := by have := vals_len HSA.out xa.length; rw [List.take_length] at this; omega
  have n4 : (valsN xb).length ≤ 65 * 128 := by have := vals_len HSB.out xb.length; rw [List.take_length] at this; omega
  refine (joinN_any (B := w5.heap.size) (c := 10) (NP := 10) [[40], itoaN fc, [44], itoaN fp, [45], [59], valsN xa, [59], valsN xb, [41]] rfl (by omega) (by simp [flat3]; omega) (Has.newC _ _ _ rfl) (by simp [flat3])).mono ?_
  rintro e' w6 ⟨rfl, F6⟩
  have FIN : Hid (Q (.returned (sv (flat3 [[40], itoaN fc, [44], itoaN fp, [45], [59], valsN xa, [59], valsN xb, [41]]))) w6) := by
    rw [← HQ.out]
    exact ⟨rfl, (HF5.out.alloc _).trans F6 (fun _ _ x => x)⟩
  clear F6
  obtain ⟨FL, HFL⟩ : ∃ FL : Bs, Hid (flat3 [[40], itoaN fc, [44], itoaN fp, [45], [59], valsN xa, [59], valsN xb, [41]] = FL) := ⟨_, rfl⟩
  rw [HFL.out] at FIN ⊢
  go_wp2_with fail
  exact FIN.out
theorem showFrame_any (R : VRep w A m f e) (V : VI K m) (hi : m.ths[i]? = some t) (hx : A.X[i]? = some l) (hj : t.frames[j]? = some fm) (rm : Room K 0 t) :
    Calls Tryz.prog 15 #[.pointer (some ⟨A.b, 0, none⟩), .pointer (some ⟨A.bT, i * 5, none⟩), .int .i64 j] w fun e' w' => e' = .returned (sv (showF m t j)) ∧ Fr (fun _ => False) w w' := by
  obtain ⟨g, gp, gk, pi, p, NC, NP, C⟩ := SfC.of R V hi hx hj rm
  by_cases hlt : j + 1 < t.frames.length
  · cases hp : fm.prot
    · exact showFrame_nu C hj hlt hp
    · exact showFrame_np C hj hlt hp
  · cases hp : fm.prot
    · exact showFrame_lu C hj hlt hp
    · exact showFrame_lp C hj hlt hp
theorem showF_len (V : VI K m) (hi : m.ths[i]? = some t) (hj : t.frames[j]? = some fm) (rm : Room K 0 t) : (showF m t j).length ≤ 9300 := by
  have T := V.th i t hi
  have hc := (T.fr.each j fm hj).1
  obtain ⟨q, p, h1, h2, h3, h4, h5, h6⟩ := V.proto hc
  have P := V.txt.pr p h4
  have hns : p.ns = K.ns fm.clo := by rw [← h3]; exact V.kn _ hc
  have jl := (List.getElem?_eq_some_iff.1 hj).1
  have hb : frEnd t j ≤ fm.base + p.ns + 128 := by
    unfold frEnd
    split
    · rename_i hlt
      have hg := List.getElem?_eq_getElem hlt
      have e1 : t.frames.getD (j + 1) fm0 = t.frames[j + 1] := by simp [hlt]
      rw [e1, hns]
      have m1 := T.fr.mid j fm _ hj hg
      omega
    · rename_i hlt
      have : j = t.frames.length - 1 := by omega
      subst this
      have := rm fm hj
      rw [hns]
      omega
  have e1 : t.frames.getD j fm0 = fm := by simp [hj]
  have hp := P.ns
  have sh : ∀ (a b : Nat), ∀ v ∈ (t.stack.take a).drop b, Shw v := fun a b v hv => (T.sv v (List.mem_of_mem_take (List.mem_of_mem_drop hv))).shw
  unfold showF
  dsimp only
  rw [e1, h3]
  have n1 := itoaN_len fm.clo
  have n2 := itoaN_len fm.pc
  have n3 := vals_len (sh (fm.base + p.ns) fm.base) ((t.stack.take (fm.base + p.ns)).drop fm.base).length
  have n4 := vals_len (sh (frEnd t j) (fm.base + p.ns)) ((t.stack.take (frEnd t j)).drop (fm.base + p.ns)).length
  rw [List.take_length] at n3 n4
  have l3 : ((t.stack.take (fm.base + p.ns)).drop fm.base).length ≤ 12 := by simp; omega
  have l4 : ((t.stack.take (frEnd t j)).drop (fm.base + p.ns)).length ≤ 128 := by simp; omega
  have l5 : (if fm.prot = true then ([112] : Bs) else [45]).length = 1 := by split <;> rfl
  simp only [flat3, List.flatMap_cons, List.flatMap_nil, id, List.length_append, List.length_cons, List.length_nil]
  omega
end
end Go.Proofs.Qxb6500579aGreat
