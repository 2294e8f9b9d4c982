/-
  THE WALK of vm: closure.
-/
import Derived.Test.Qxb6500574aGreatDoorVBri
import Derived.Test.Qxb6500574aGreatDoorVFly
import Derived.Test.Qxb6500574aGreatDoorVEnter
namespace Go.Proofs.Qxb6500574aGreatDoor
open Go Go.RowKit
set_option linter.unusedVariables false
set_option linter.unusedSimpArgs false

def ClPost (m : VMD) (i : Nat) (fm : FmD) (x : Nat) (w : World) (A : VL) (f e : Nat) (e' : Ending) (w' : World) : Prop :=
  (24 ≤ m.clos.length ∧ e' = .panicked (trapE 8) ∧ w' = w) ∨ (m.clos.length < 24 ∧ e' = .returned (.int .i64 m.clos.length) ∧ ∃ A', VRep w' A' (closure m i fm.base fm.clo x).2 f e ∧ VSt isVM w A w' A' ∧ FK A A' i)
def isCl (i k : Nat) : Prop := k = 1 ∨ k = 11 ∨ k = 12 ∨ isT i k
def ClR (K : Cx) (m mz : VMD) (i : Nat) (t : ThD) (fm : FmD) (ds : List (Nat × Nat)) (w : World) (A : VL) (f e k : Nat) (wr : World) : Prop :=
  ∃ Ak mk, VRep wr Ak mk f e ∧ VSt (isCl i) w A wr Ak ∧ FK A Ak i ∧ OpnPost K m mk i t ∧ mk.upix.length = m.upix.length + k ∧ closL i fm.base fm.clo (ds.drop k) mk = mz
theorem closL_app (i b c : Nat) : ∀ (xs ys : List (Nat × Nat)) (m : VMD), closL i b c (xs ++ ys) m = closL i b c ys (closL i b c xs m) := by
  intro xs
  induction xs with
  | nil => intro ys m; rfl
  | cons d r ih =>
    intro ys m
    simp only [List.cons_append, closL]
    split <;> exact ih _ _
theorem capture_upix (m : VMD) (i a : Nat) : (capture m i a).2.upix = m.upix := by
  unfold capture
  dsimp only
  split <;> rfl
structure DOk (K : Cx) (m : VMD) (fm : FmD) (d : Nat × Nat) : Prop where
  out : ¬ ((d.1 = 1 ∧ d.2 ≥ K.ns fm.clo) ∨ (d.1 = 0 ∧ d.2 ≥ (m.clos.getD fm.clo cl0).nup))
section
variable {w w1 w2 : World} {A : VL} {m : VMD} {f e i : Nat} {t : ThD} {l : ThL} {K : Cx} {fm : FmD}
set_option maxRecDepth 100000
set_option maxHeartbeats 1000000
theorem closure_any (h : VRep w A m f e) (at' : At K m i t fm) (room : Room K 0 t) (hx : A.X[i]? = some l) {g j : Nat} (hg : l.f.a = some ⟨g, 0, none⟩) (hj : t.frames[j]? = some fm) {x : Nat} {p : PrD} (hp : m.protos[x]? = some p)
    (hd : ∀ d ∈ (m.descs.drop p.up).take p.nup, ¬ ((d.1 = 1 ∧ d.2 ≥ K.ns fm.clo) ∨ (d.1 = 0 ∧ d.2 ≥ (m.clos.getD fm.clo cl0).nup))) :
    Calls Tryz.prog 299 #[.pointer (some ⟨A.b, 0, none⟩), .int .i64 i, .pointer (some ⟨A.bT, i * 5, none⟩), .pointer (some ⟨g, j * 5, none⟩), .int .i64 x] w (ClPost m i fm x w A f e) := by
  have d6 := h.cell0 6
  have d2 := h.cell0 2
  have d3 := h.cell0 3
  have d7 := h.cell0 7
  simp only [vmCells, List.getElem?_toArray, List.getElem?_cons_succ, List.getElem?_cons_zero, Sl.v] at d6 d2 d3 d7
  have hb := h.bl
  obtain ⟨gp, p1, p2, p3, p4, p5, p6⟩ := h.core.protos.at pCells_len hp
  have p52 := p5 2 (by omega)
  have p53 := p5 3 (by omega)
  simp only [pCells, List.getElem?_cons_succ, List.getElem?_cons_zero] at p52 p53
  rw [p1] at d2
  have HGP : Hid (A.C.protos.a = some ⟨gp, 0, none⟩) := p1
  have hxl := (List.getElem?_eq_some_iff.1 hp).1
  have hpl := at'.vi.txt.pl
  have PR := at'.vi.txt.pr p (List.mem_of_getElem? hp)
  have pup := PR.up
  have pnu := PR.nu
  have hdl := at'.vi.txt.dl
  have hup := UpL.le at'.vi at'.up
  have hdc : m.descs.length ≤ A.C.descs.c := by
    rcases h.core.descs.own.2 with ⟨h1, h2⟩ | ⟨g', cap, c0, hv, _, _, hnc, _⟩
    · unfold Sl.v at h1
      injection h1 with a1 a2 a3
      omega
    · unfold Sl.v at hv
      injection hv with a1 a2 a3
      omega
  have H : Hid (VRep w A m f e) := h
  have AT : Hid (At K m i t fm) := at'
  have RM : Hid (Room K 0 t) := room
  have HX : Hid (A.X[i]? = some l) := hx
  have HG : Hid (l.f.a = some ⟨g, 0, none⟩) := hg
  have HJ : Hid (t.frames[j]? = some fm) := hj
  have HP : Hid (m.protos[x]? = some p) := hp
  have HD : Hid (∀ d ∈ (m.descs.drop p.up).take p.nup, ¬ ((d.1 = 1 ∧ d.2 ≥ K.ns fm.clo) ∨ (d.1 = 0 ∧ d.2 ≥ (m.clos.getD fm.clo cl0).nup))) := hd
  clear h at' room hx hg hj hp hd p5 p6 p1 p3 PR
  obtain ⟨NC, HNC⟩ : ∃ N : Nat, Hid (m.clos.length = N) := ⟨_, rfl⟩
  obtain ⟨ND, HND⟩ : ∃ N : Nat, Hid (m.descs.length = N) := ⟨_, rfl⟩
  obtain ⟨NP, HNP⟩ : ∃ N : Nat, Hid (m.protos.length = N) := ⟨_, rfl⟩
  obtain ⟨NU, HNU⟩ : ∃ N : Nat, Hid (m.upix.length = N) := ⟨_, rfl⟩
  obtain ⟨pu, HPU⟩ : ∃ N : Nat, Hid (p.up = N) := ⟨_, rfl⟩
  obtain ⟨pn, HPN⟩ : ∃ N : Nat, Hid (p.nup = N) := ⟨_, rfl⟩
  rw [HNC.out] at d6
  rw [HND.out] at d3 pup hdl hdc
  rw [HNP.out] at d2 hxl hpl p2
  rw [HNU.out] at d7 hup
  rw [HPU.out] at p52 pup
  rw [HPN.out] at p53 pup pnu
  obtain ⟨QQ, HQ⟩ : ∃ Q : Ending → World → Prop, Hid (ClPost m i fm x w A f e = Q) := ⟨_, rfl⟩
  rw [HQ.out]
  by_cases h24 : 24 ≤ NC
  · have FIN : Hid (QQ (.panicked (trapE 8)) w) := by rw [← HQ.out]; exact .inl ⟨by rw [HNC.out]; exact h24, rfl, rfl⟩
    have h24' : (24 : Int) ≤ (NC : Int) := by omega
    go_enter Tryz.func299, Tryz.ntmps299
    go_wp2_with fail
    refine (stop_any 8).mono ?_
    rintro e' w' ⟨rfl, rfl⟩
    go_wp2_with fail
    exact ⟨rfl, FIN.out⟩
  · have h24' : ¬ (24 : Int) ≤ (NC : Int) := by omega
    go_enter Tryz.func299, Tryz.ntmps299
    go_wp2_with fail
    refine wp_region_quiet_lit (by kernel_rfl) (by kernel_rfl) ?_
    repeat go_big_quiet_step (fail)
    refine wpQuiet_nil ?_
    rintro w' ⟨nq, rfl⟩
    rw [Nat.add_sub_cancel_left]
    obtain ⟨PD, HPD⟩ : ∃ P : Option Addr, Hid ((if A.C.descs.c = pu then A.C.descs.a else Option.map (fun x => x.add (pu * 2)) A.C.descs.a) = P) := ⟨_, rfl⟩
    rw [HPD.out]
    obtain ⟨mz, HMZ⟩ : ∃ mz, Hid (closL i fm.base fm.clo ((m.descs.drop p.up).take p.nup) m = mz) := ⟨_, rfl⟩
    have hdlen : ((m.descs.drop p.up).take p.nup).length = pn := by rw [List.length_take, List.length_drop, HPU.out, HPN.out, HND.out]; omega
    have HDL : Hid (((m.descs.drop p.up).take p.nup).length = pn) := hdlen
    have hdat : ∀ k, k < pn → ((m.descs.drop p.up).take p.nup)[k]? = m.descs[pu + k]? := by
      intro k hk
      rw [List.getElem?_take_of_lt (by rw [HPN.out]; exact hk), List.getElem?_drop, HPU.out]
    have HDA : Hid (∀ k, k < pn → ((m.descs.drop p.up).take p.nup)[k]? = m.descs[pu + k]?) := hdat
    clear hdlen hdat
    obtain ⟨ds, HDS⟩ : ∃ ds, Hid ((m.descs.drop p.up).take p.nup = ds) := ⟨_, rfl⟩
    rw [HDS.out] at HD HMZ HDL HDA
    go_wp2_with fail
    go_loopw [53] (fun u wr => ∃ (k : Nat), k ≤ pn ∧ u = .int .i64 k ∧ Hid (ClR K m mz i t fm ds w A f e k wr)) (fun u _ => pn - (intOf u).toNat)
    case atStart =>
      exact ⟨0, Nat.zero_le _, rfl, A, m, H.out.fresh ((Fr.refl _ _).drewN _), VSt.fresh ((Fr.refl _ _).drewN _), FK.refl _ _, ⟨AT.out.vi, ⟨t.opn, AT.out.hi⟩, fun _ _ => rfl, rfl, rfl, rfl, rfl, rfl⟩, rfl, HMZ.out⟩
    case round =>
      obtain ⟨k, hk, rfl, HCL⟩ := hrel
      obtain ⟨Ak, mk, r1, r2, r3, r4, r5, r6⟩ := HCL.out
      have HR : Hid (VRep wr Ak mk f e) := r1
      have HS : Hid (VSt (isCl i) w A wr Ak) := r2
      have HF : Hid (FK A Ak i) := r3
      have HO : Hid (OpnPost K m mk i t) := r4
      have HL : Hid (mk.upix.length = m.upix.length + k) := r5
      have HZ : Hid (closL i fm.base fm.clo (ds.drop k) mk = mz) := r6
      have eb : Ak.b = A.b := r2.b
      have ebT : Ak.bT = A.bT := r2.bT
      have hb := r1.bl
      rw [eb] at hb
      by_cases hkn : k = pn
      · have RP := (H.out.core.protos.st HS.out.st (by unfold isCl isT; omega)).at pCells_len HP.out
        obtain ⟨gp', u1, _, _, u4, u5, _⟩ := RP
        have hgp : gp' = gp := by have := HGP.out; rw [this] at u1; simpa using u1.symm
        subst hgp
        have u53 := u5 3 (by omega)
        simp only [pCells, List.getElem?_cons_succ, List.getElem?_cons_zero, HPN.out] at u53
        have hds : ds.drop k = [] := List.drop_eq_nil_of_le (by rw [HDL.out]; omega)
        have hmk : mk = mz := by have := HZ.out; rw [hds] at this; exact this
        have hmc : mk.clos.length = NC := by rw [HO.out.cl]; exact HNC.out
        have HMC : Hid (mk.clos.length = NC) := hmc
        have hgd : m.protos.getD x pr0 = p := by rw [List.getD_eq_getElem?_getD, HP.out]; rfl
        have hfin : closure m i fm.base fm.clo x = (.inr m.clos.length, { mk with clos := mk.clos ++ [⟨x, NU, pn⟩] }) := by
          unfold closure
          rw [if_neg (by rw [HNC.out]; omega)]
          dsimp only
          rw [hgd, HDS.out, HMZ.out, hmk, HNU.out, HPN.out]
        have HFIN : Hid (closure m i fm.base fm.clo x = (.inr m.clos.length, { mk with clos := mk.clos ++ [⟨x, NU, pn⟩] })) := hfin
        have d6k := HR.out.cell0 6
        simp only [vmCells, List.getElem?_toArray, List.getElem?_cons_succ, List.getElem?_cons_zero, Sl.v, eb, hmc] at d6k
        have z6 := HR.out.core.here.has.frozen 6
        rw [eb] at z6
        have HRP : Hid (Row wr Ak.o 6 254 8 A.C.protos m.protos.length (m.protos.flatMap pCells)) := H.out.core.protos.st HS.out.st (by unfold isCl isT; omega)
        have hkn3 : ¬ (k : Int) < (pn : Int) := by omega
        clear hds hmk hmc hgd hfin u1 u5 hkn r1 r2 r3 r4 r5 r6 HCL
        go_wp2_with fail
        refine wp_region_app row_clos 12 (by kernel_rfl) (by kernel_rfl) (fun _ _ _ _ _ h => h) _ _ _ rfl (.tmp 115) (.tmp 108) 116 117 rfl rfl rfl rfl rfl rfl (Ak.C.clos.v mk.clos.length) mk.clos.length (mk.clos.flatMap clCells) HR.out.core.clos.own (.agg #[.int .i64 x, .int .i64 NU, .int .i64 pn]) rfl (by decide) (by simp [Value.cells, Value.oneCell']) (by rw [HMC.out]; omega) ?_
        intro g3 cap3 w3 q1 q2 q3 q4
        have hq3 : (Ak.C.clos.v mk.clos.length).ownBlock = some g3 ∨ wr.heap.size ≤ g3 := by
          rcases q3 with q3 | q3
          · exact .inl q3
          · right; rw [q3]; omega
        have hcell : (Value.agg #[.int .i64 x, .int .i64 NU, .int .i64 pn]).cells.toList = clCells ⟨x, NU, pn⟩ := by simp [Value.cells, clCells]
        rw [hcell] at q1
        obtain ⟨b1, b2⟩ := HR.out.core.clos.app ((Fr.refl _ wr).alloc _) q1 q2 hq3 q4
        obtain ⟨gp2, v1, _, _, v4, v5, _⟩ := (HRP.out.st b2 (by omega)).at pCells_len HP.out
        have hgp2 : gp2 = gp' := by have := HGP.out; rw [this] at v1; simpa using v1.symm
        subst hgp2
        have v53 := v5 3 (by omega)
        simp only [pCells, List.getElem?_cons_succ, List.getElem?_cons_zero, HPN.out] at v53
        obtain ⟨hh, s1, s2⟩ := HR.out.app_clos ⟨x, NU, pn⟩ ((Fr.refl _ wr).alloc _) q1 q2 hq3 q4
        rw [HMC.out, eb] at s1 s2
        rw [eb] at hh
        rw [HMC.out]
        have y7 := hh.frozen 6
        have y9 := hh.cell 6
        simp only [vmCells, List.getElem?_toArray, List.getElem?_cons_succ, List.getElem?_cons_zero, Sl.v, HMC.out] at y9
        have hh3 := hh.lt
        have FIN2 : Hid (QQ (.returned (.int .i64 NC)) (w3.setCell ⟨A.b, 6, none⟩ (.slice (some ⟨g3, 0, none⟩) (NC + 1) cap3))) := by
          rw [← HQ.out]
          refine .inr ⟨by rw [HNC.out]; omega, by rw [HNC.out], _, ?_, (HS.out.weaken (fun k hk => ?_)).trans (s2.weaken (fun k hk => by unfold isVM; omega)), HF.out.trans (fun x hx => ⟨x, hx, rfl⟩)⟩
          · rw [HFIN.out]; exact s1
          · unfold isVM; unfold isCl isT at hk; omega
        clear q1 q2 q3 q4 hq3 hh s1 s2 b1 b2 v1 v5 hcell
        simp only [List.take_succ_cons, List.take_zero]
        repeat go_big_quiet_step (fail)
        refine wpQuiet_nil ⟨rfl, rfl, by simp, rfl, ?_⟩
        go_wp2_with fail
        exact FIN2.out
      · have hk2 : k < pn := by omega
        have hk3 : (k : Int) < (pn : Int) := by omega
        obtain ⟨d, hdk⟩ : ∃ d, ds[k]? = some d := ⟨_, List.getElem?_eq_getElem (by rw [HDL.out]; exact hk2)⟩
        have hdk2 : m.descs[pu + k]? = some d := by rw [← HDA.out k hk2]; exact hdk
        obtain ⟨gd, q1, q2, q3, q4, q5, q6⟩ := (H.out.core.descs.st r2.st (by unfold isCl isT; omega)).at dCells_len hdk2
        have q50 := q5 0 (by omega)
        have q51 := q5 1 (by omega)
        simp only [dCells, List.getElem?_cons_succ, List.getElem?_cons_zero, Nat.add_zero] at q50 q51
        rw [show (pu + k) * 2 = pu * 2 + k * 2 by omega] at q50 q51
        have hPD : PD = some ⟨gd, pu * 2, none⟩ := by
          rw [← HPD.out, q1, if_neg (by omega)]
          rw [Option.map_some, addr_lit, Nat.zero_add]
        have hdm := HD.out d (List.mem_of_getElem? hdk)
        have HDM : Hid (DOk K m fm d) := ⟨hdm⟩
        have hd12 := AT.out.vi.txt.ds d (List.mem_of_getElem? hdk2)
        have hd1 := hd12.1
        have hd2 := hd12.2
        have HDK : Hid (ds[k]? = some d) := hdk
        subst hPD
        clear hdm hd12 hdk hdk2 q1 q2 q3 q5 q6 r1 r2 r3 r4 r5 r6 HCL HPD
        obtain ⟨dk, di⟩ := d
        dsimp only at hd1 hd2 q50 q51
        obtain ⟨o, ho⟩ := HO.out.th
        have HTK : Hid (mk.ths[i]? = some { t with opn := o }) := ho
        obtain ⟨lk, hxk, ek⟩ := HF.out l HX.out
        have hgk : lk.f.a = some ⟨g, 0, none⟩ := by rw [ek]; exact HG.out
        obtain ⟨g', ga, _, _, gl, gc, gf⟩ := HR.out.fm ho hxk (j := j) (r := fm) HJ.out
        rw [hgk] at ga
        obtain rfl : g = g' := by simpa using ga
        have gc2 := gc 2 (by omega)
        have gc0 := gc 0 (by omega)
        simp only [fCells, List.getElem?_cons_succ, List.getElem?_cons_zero, Nat.add_zero] at gc2 gc0
        have hsl := AT.out.sl RM.out
        have hbase : fm.base ≤ 1120 := by have := AT.out.top; omega
        clear ho hxk hgk ga gc gf ek
        by_cases hdk1 : dk = 1
        · subst hdk1
          go_wp2_with fail
          refine C.wp_region_tail 11 (by kernel_rfl) (by kernel_rfl) (fun _ _ _ _ _ h => h) ?_
          simp only [List.take_succ_cons, List.take_zero, List.drop_succ_cons, List.drop_zero]
          repeat go_big_quiet_step (fail)
          refine wpQuiet_nil ?_
          have F1 : Fr (fun _ => False) wr ((wr.alloc (.cells #[.int .u8 1, .int .u8 di] 326)).drew) := ((Fr.refl _ _).alloc _).drew
          obtain ⟨W1, HW1⟩ : ∃ W1 : World, Hid ((wr.alloc (.cells #[.int .u8 1, .int .u8 di] 326)).drew = W1) := ⟨_, rfl⟩
          rw [HW1.out] at F1
          go_wp2_with fail
          rw [HW1.out]
          have OKk : OpnOk mk { t with opn := o } := HO.out.vi.opnOk HTK.out (by dsimp only; omega) (by rw [HL.out, HNU.out]; omega)
          have hcl : mk.cells.length ≤ 10000 := by have h1 := HO.out.vi.cu; have h2 := HL.out; rw [HNU.out] at h2; omega
          have hol : o.length ≤ 10000 := by have h1 := HO.out.vi.opn_len HTK.out; dsimp only at h1; omega
          have CAP := capture_any (HR.out.fresh F1) HTK.out OKk (fm.base + di) (by omega) hcl hol
          rw [eb, ebT] at CAP
          refine CAP.mono ?_
          clear CAP OKk hcl hol
          rintro e' W2 ⟨rfl, A2, s1, s2, s3⟩
          obtain ⟨m2, HM2⟩ : ∃ m2, Hid ((capture mk i (fm.base + di)).2 = m2) := ⟨_, rfl⟩
          obtain ⟨c2, HC2⟩ : ∃ c2, Hid ((capture mk i (fm.base + di)).1 = c2) := ⟨_, rfl⟩
          rw [HM2.out] at s1
          rw [HC2.out]
          have HR2 : Hid (VRep W2 A2 m2 f e) := s1
          have HS2 : Hid (VSt (isCl i) wr Ak W2 A2) := (VSt.fresh F1).trans (s2.weaken (fun x hx => hx.elim (fun y => y.elim .inl (fun z => .inr (.inr (.inl z)))) (fun y => .inr (.inr (.inr y)))))
          have HF2 : Hid (FK Ak A2 i) := s3
          have hst0 : closL i fm.base fm.clo [(1, di)] mk = { m2 with upix := m2.upix ++ [c2] } := by
            rw [← HM2.out, ← HC2.out]; rfl
          have HST : Hid (closL i fm.base fm.clo [(1, di)] mk = { m2 with upix := m2.upix ++ [c2] }) := hst0
          have hu2 : m2.upix = mk.upix := by rw [← HM2.out]; exact capture_upix _ _ _
          have HU2 : Hid (m2.upix.length = mk.upix.length) := by rw [hu2]; rfl
          clear s1 s2 s3 hst0 hu2 HM2 HC2 F1 gc2 gc0 gl q50 q51 q4
          have eb2 : A2.b = A.b := by rw [← eb]; exact HS2.out.b
          have d7 := HR2.out.cell0 7
          simp only [vmCells, List.getElem?_toArray, List.getElem?_cons_succ, List.getElem?_cons_zero, Sl.v, eb2] at d7
          have z7 := HR2.out.core.here.has.frozen 7
          rw [eb2] at z7
          have hb2 := HR2.out.bl
          rw [eb2] at hb2
          obtain ⟨N2, HN2⟩ : ∃ N : Nat, Hid (m2.upix.length = N) := ⟨_, rfl⟩
          rw [HN2.out] at d7
          have hN2 : N2 ≤ 10000 := by have h1 := HU2.out; have h2 := HL.out; rw [HN2.out] at h1; rw [HNU.out] at h2; omega
          have HRU : Hid (∀ b, World.ownsRow (W2.alloc b) 0 3 1 (A2.C.upix.v m2.upix.length) m2.upix.length (m2.upix.flatMap nCells)) := fun b => owns_fr HR2.out.core.upix.own ((Fr.refl (fun _ => False) W2).alloc b) (fun _ _ x => x)
          go_wp2_with (at_builtin; go_must (refine wpList_appN row_upix _ rfl (.tmp 97) (.tmp 99) rfl (A2.C.upix.v m2.upix.length) m2.upix.length (m2.upix.flatMap nCells) (by rw [HN2.out]; rfl) (HRU.out _) W2.heap.size 1 1 (nCells c2) rfl (Has.new _ _ _) rfl (by decide) (nCells_oneC _) ?bd ?go))
          case bd => rw [HN2.out]; omega
          case go =>
            intro g3 cap3 w3 q1 q2 q3 q4
            have hq3 : (A2.C.upix.v m2.upix.length).ownBlock = some g3 ∨ W2.heap.size ≤ g3 := by
              rcases q3 with q3 | q3
              · exact .inl q3
              · right; rw [q3]; simp
            obtain ⟨hh, s1, s2⟩ := HR2.out.app_upix c2 ((Fr.refl _ W2).alloc _) q1 q2 hq3 q4
            rw [HN2.out, eb2] at s1 s2
            rw [eb2] at hh
            rw [HN2.out]
            have y7 := hh.frozen 7
            have y9 := hh.cell 7
            simp only [vmCells, List.getElem?_toArray, List.getElem?_cons_succ, List.getElem?_cons_zero, Sl.v, HN2.out] at y9
            have hh3 := hh.lt
            obtain ⟨PO, l1, _⟩ := closL_inv [(1, di)] HO.out.vi HTK.out AT.out.mem AT.out.clo (fun x hx => by
              simp only [List.mem_singleton] at hx
              rw [hx, HO.out.cl]
              exact ⟨HDM.out.out, by dsimp only; omega⟩)
            have hst : closL i fm.base fm.clo [(1, di)] mk = { m2 with upix := m2.upix ++ [c2] } := HST.out
            rw [hst] at PO l1
            have NEXT : Hid (ClR K m mz i t fm ds w A f e (k + 1) (w3.setCell ⟨A.b, 7, none⟩ (.slice (some ⟨g3, 0, none⟩) (N2 + 1) cap3))) := by
              refine ⟨_, _, s1, HS.out.trans (HS2.out.trans (s2.weaken (fun x hx => hx.elim .inl (fun y => .inr (.inl y))))), HF.out.trans (HF2.out.trans (fun x hx => ⟨x, hx, rfl⟩)), ?_, ?_, ?_⟩
              · obtain ⟨o2, ho2⟩ := PO.th
                exact ⟨PO.vi, ⟨o2, ho2⟩, fun j hj => (PO.ot j hj).trans (HO.out.ot j hj), PO.cl.trans HO.out.cl, PO.pr.trans HO.out.pr, PO.tb.trans HO.out.tb, PO.ou.trans HO.out.ou, PO.ds.trans HO.out.ds⟩
              · rw [l1, HL.out]; simp; omega
              · rw [← HZ.out, List.drop_eq_getElem_cons (show k < ds.length by rw [HDL.out]; exact hk2)]
                have e1 : ds[k]'(by rw [HDL.out]; exact hk2) = (1, di) := (List.getElem?_eq_some_iff.1 HDK.out).2
                rw [e1, show (1, di) :: ds.drop (k + 1) = [(1, di)] ++ ds.drop (k + 1) from rfl, closL_app, hst]
            clear q1 q2 q3 q4 hq3 hh s1 s2 PO l1 hst
            go_wp2_with fail
            exact ⟨⟨k + 1, by omega, by go_num, NEXT⟩, by simp [intOf]; omega⟩
        · obtain rfl : dk = 0 := by omega
          have hclo := AT.out.clo
          obtain ⟨q, pp, kq1, _, _, _, _, kq6⟩ := HO.out.vi.proto hclo
          have kq7 : q.up + di < mk.upix.length := by
            have h1 := HDM.out.out
            rw [HO.out.cl.symm] at h1
            rw [show mk.clos.getD fm.clo cl0 = q by simp [kq1]] at h1
            omega
          obtain ⟨c2, hc2⟩ : ∃ c, mk.upix[q.up + di]? = some c := ⟨_, List.getElem?_eq_getElem kq7⟩
          obtain ⟨gk, a1, a2, a3, a4, a5, a6⟩ := HR.out.core.clos.at clCells_len kq1
          obtain ⟨gu, b1, b2, b3, b4, b5, b6⟩ := HR.out.core.upix.at nCells_len hc2
          have a51 := a5 1 (by omega)
          have b50 := b5 0 (by omega)
          simp only [clCells, nCells, List.getElem?_cons_succ, List.getElem?_cons_zero, Nat.add_zero, Nat.mul_one] at a51 b50
          have e6 := HR.out.cell0 6
          have e7 := HR.out.cell0 7
          simp only [vmCells, List.getElem?_toArray, List.getElem?_cons_succ, List.getElem?_cons_zero, Sl.v, eb, a1, b1] at e6 e7
          have hkc : mk.clos.length ≤ 24 := by have h1 := HO.out.vi.kc; have h2 := HO.out.vi.cn; omega
          have hnc := (List.getElem?_eq_some_iff.1 kq1).1
          have hul : mk.upix.length ≤ 10000 := by have h2 := HL.out; rw [HNU.out] at h2; omega
          have hst0 : closL i fm.base fm.clo [(0, di)] mk = { mk with upix := mk.upix ++ [c2] } := by
            have e1 : mk.upix.getD ((mk.clos.getD fm.clo cl0).up + di) 0 = c2 := by rw [show mk.clos.getD fm.clo cl0 = q by simp [kq1], List.getD_eq_getElem?_getD, hc2]; rfl
            show ({ mk with upix := mk.upix ++ [mk.upix.getD ((mk.clos.getD fm.clo cl0).up + di) 0] } : VMD) = _
            rw [e1]
          have HST : Hid (closL i fm.base fm.clo [(0, di)] mk = { mk with upix := mk.upix ++ [c2] }) := hst0
          obtain ⟨qu, HQU⟩ : ∃ N : Nat, Hid (q.up = N) := ⟨_, rfl⟩
          obtain ⟨NCk, HNCk⟩ : ∃ N : Nat, Hid (mk.clos.length = N) := ⟨_, rfl⟩
          obtain ⟨NUk, HNUk⟩ : ∃ N : Nat, Hid (mk.upix.length = N) := ⟨_, rfl⟩
          rw [HQU.out] at kq6 kq7 a51 b50
          rw [HNCk.out] at e6 hnc a2 hkc
          rw [HNUk.out] at e7 kq6 kq7 b2 hul
          clear hst0 a1 a3 a5 a6 b1 b3 b5 b6 kq1 hc2 kq6
          go_wp2_with fail
          refine wp_region_quiet_lit (by kernel_rfl) (by kernel_rfl) ?_
          repeat go_big_quiet_step (fail)
          refine wpQuiet_nil ?_
          rintro w' ⟨nq2, rfl⟩
          have F1 : Fr (fun _ => False) wr ((wr.alloc (.cells #[.int .u8 0, .int .u8 di] 326)).drewN nq2) := ((Fr.refl _ _).alloc _).drewN _
          obtain ⟨W2, HW1⟩ : ∃ W1 : World, Hid ((wr.alloc (.cells #[.int .u8 0, .int .u8 di] 326)).drewN nq2 = W1) := ⟨_, rfl⟩
          rw [HW1.out] at F1 ⊢
          have HR2 : Hid (VRep W2 Ak mk f e) := HR.out.fresh F1
          have HS2 : Hid (VSt (isCl i) wr Ak W2 Ak) := VSt.fresh F1
          have HF2 : Hid (FK Ak Ak i) := FK.refl _ _
          have HU2 : Hid (mk.upix.length = NUk) := HNUk
          clear HW1 F1 a51 b50 a4 b4 e6 e7 gc2 gc0 gl q50 q51 q4 a2 b2
          have eb2 : Ak.b = A.b := eb
          have d7 := HR2.out.cell0 7
          simp only [vmCells, List.getElem?_toArray, List.getElem?_cons_succ, List.getElem?_cons_zero, Sl.v, eb2] at d7
          have z7 := HR2.out.core.here.has.frozen 7
          rw [eb2] at z7
          have hb2 := HR2.out.bl
          rw [eb2] at hb2
          obtain ⟨N2, HN2⟩ : ∃ N : Nat, Hid (mk.upix.length = N) := ⟨_, rfl⟩
          rw [HN2.out] at d7
          have hN2 : N2 ≤ 10000 := by have h1 := HU2.out; have h2 := HL.out; rw [HN2.out] at h1; rw [HNU.out] at h2; omega
          have HRU : Hid (∀ b, World.ownsRow (W2.alloc b) 0 3 1 (Ak.C.upix.v mk.upix.length) mk.upix.length (mk.upix.flatMap nCells)) := fun b => owns_fr HR2.out.core.upix.own ((Fr.refl (fun _ => False) W2).alloc b) (fun _ _ x => x)
          go_wp2_with (at_builtin; go_must (refine wpList_appN row_upix _ rfl (.tmp 97) (.tmp 99) rfl (Ak.C.upix.v mk.upix.length) mk.upix.length (mk.upix.flatMap nCells) (by rw [HN2.out]; rfl) (HRU.out _) W2.heap.size 1 1 (nCells c2) rfl (Has.new _ _ _) rfl (by decide) (nCells_oneC _) ?bd ?go))
          case bd => rw [HN2.out]; omega
          case go =>
            intro g3 cap3 w3 q1 q2 q3 q4
            have hq3 : (Ak.C.upix.v mk.upix.length).ownBlock = some g3 ∨ W2.heap.size ≤ g3 := by
              rcases q3 with q3 | q3
              · exact .inl q3
              · right; rw [q3]; simp
            obtain ⟨hh, s1, s2⟩ := HR2.out.app_upix c2 ((Fr.refl _ W2).alloc _) q1 q2 hq3 q4
            rw [HN2.out, eb2] at s1 s2
            rw [eb2] at hh
            rw [HN2.out]
            have y7 := hh.frozen 7
            have y9 := hh.cell 7
            simp only [vmCells, List.getElem?_toArray, List.getElem?_cons_succ, List.getElem?_cons_zero, Sl.v, HN2.out] at y9
            have hh3 := hh.lt
            obtain ⟨PO, l1, _⟩ := closL_inv [(0, di)] HO.out.vi HTK.out AT.out.mem AT.out.clo (fun x hx => by
              simp only [List.mem_singleton] at hx
              rw [hx, HO.out.cl]
              exact ⟨HDM.out.out, by dsimp only; omega⟩)
            have hst : closL i fm.base fm.clo [(0, di)] mk = { mk with upix := mk.upix ++ [c2] } := HST.out
            rw [hst] at PO l1
            have NEXT : Hid (ClR K m mz i t fm ds w A f e (k + 1) (w3.setCell ⟨A.b, 7, none⟩ (.slice (some ⟨g3, 0, none⟩) (N2 + 1) cap3))) := by
              refine ⟨_, _, s1, HS.out.trans (HS2.out.trans (s2.weaken (fun x hx => hx.elim .inl (fun y => .inr (.inl y))))), HF.out.trans (HF2.out.trans (fun x hx => ⟨x, hx, rfl⟩)), ?_, ?_, ?_⟩
              · obtain ⟨o2, ho2⟩ := PO.th
                exact ⟨PO.vi, ⟨o2, ho2⟩, fun j hj => (PO.ot j hj).trans (HO.out.ot j hj), PO.cl.trans HO.out.cl, PO.pr.trans HO.out.pr, PO.tb.trans HO.out.tb, PO.ou.trans HO.out.ou, PO.ds.trans HO.out.ds⟩
              · rw [l1, HL.out]; simp; omega
              · rw [← HZ.out, List.drop_eq_getElem_cons (show k < ds.length by rw [HDL.out]; exact hk2)]
                have e1 : ds[k]'(by rw [HDL.out]; exact hk2) = (0, di) := (List.getElem?_eq_some_iff.1 HDK.out).2
                rw [e1, show (0, di) :: ds.drop (k + 1) = [(0, di)] ++ ds.drop (k + 1) from rfl, closL_app, hst]
            clear q1 q2 q3 q4 hq3 hh s1 s2 PO l1 hst
            go_wp2_with fail
            exact ⟨⟨k + 1, by omega, by go_num, NEXT⟩, by simp [intOf]; omega⟩
end
end Go.Proofs.Qxb6500574aGreatDoor
