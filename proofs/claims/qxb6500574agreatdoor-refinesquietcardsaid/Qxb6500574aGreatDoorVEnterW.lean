/-
  THE WALK of vm: enter.
-/
import Derived.Test.Qxb6500574aGreatDoorVEnter
namespace Go.Proofs.Qxb6500574aGreatDoor
open Go Go.RowKit
set_option linter.unusedVariables false
set_option linter.unusedSimpArgs false

theorem rowFrame : IsRow Tryz.prog 263 336 (.agg #[.int .i64 0, .int .i64 0, .int .i64 0, .int .i64 0, .bool false]) 5 40 := ⟨by kernel_rfl, by kernel_rfl, rfl, by decide⟩
theorem fCells_one (r : FmD) : ∀ u ∈ fCells r, u.oneCell' = true := by
  intro u hu
  simp [fCells] at hu
  rcases hu with h | h | h | h | h <;> subst h <;> rfl
/-- the slots of a new frame -/
def slotsN (np : Nat) (args : List Vl) (k : Nat) : List Vl := (List.range k).map (fun j => if j < np then args.getD j nilV else nilV)
theorem slotsN_succ (np : Nat) (args : List Vl) (k : Nat) : slotsN np args (k + 1) = slotsN np args k ++ [if k < np then args.getD k nilV else nilV] := by
  simp [slotsN, List.range_succ]
theorem slotsN_len (np : Nat) (args : List Vl) (k : Nat) : (slotsN np args k).length = k := by simp [slotsN]
theorem setTh_same {m : VMD} {i : Nat} {t : ThD} (h : m.ths[i]? = some t) : m.setTh i t = m := by
  obtain ⟨hi, he⟩ := List.getElem?_eq_some_iff.1 h
  have : m.ths.set i t = m.ths := by rw [← he]; exact List.set_getElem_self hi
  simp only [VMD.setTh, this]
theorem setTh_at {m : VMD} {i : Nat} {t t' : ThD} (h : m.ths[i]? = some t) : (m.setTh i t').ths[i]? = some t' := by
  show (m.ths.set i t')[i]? = _
  rw [List.getElem?_set_self (List.getElem?_eq_some_iff.1 h).1]
theorem setTh_set (m : VMD) (i : Nat) (t t' : ThD) : (m.setTh i t).setTh i t' = m.setTh i t' := by simp [VMD.setTh]
section
variable {w : World} {A : VL} {m : VMD} {f e i : Nat} {t : ThD} {v : Value} {args : List Vl}
set_option maxRecDepth 100000
set_option maxHeartbeats 600000
theorem enter_any (h : VRep w A m f e) (hi : m.ths[i]? = some t) {c : Nat} {q : ClD} {p : PrD} (hq : m.clos[c]? = some q) (hp : m.protos[q.p]? = some p) (hnp : p.np ≤ 3) (hns : p.ns ≤ 12) (hcl : m.clos.length ≤ 1000) (hpl : m.protos.length ≤ 1000)
    (W : Win w w A i t v args) (hal : args.length ≤ 3) {ret : Nat} (hret : ret ≤ 100000) (prot : Bool) (hsl : t.stack.length ≤ 10000) (hfl : t.frames.length ≤ 1000) :
    Calls Tryz.prog 142 #[.pointer (some ⟨A.b, 0, none⟩), .pointer (some ⟨A.bT, i * 5, none⟩), .int .i64 c, v, .int .i64 ret, .bool prot] w fun e' w' => e' = .returned (.tuple #[]) ∧ ∃ A', VRep w' A' (enter m i c args ret prot) f e ∧ VSt (isT i) w A w' A' := by
  obtain ⟨gk, k1, k2, k3, k4, k5, k6⟩ := h.core.clos.at clCells_len hq
  obtain ⟨gp, p1, p2, p3, p4, p5, p6⟩ := h.core.protos.at pCells_len hp
  have k50 := k5 0 (by omega)
  have p50 := p5 0 (by omega)
  have p51 := p5 1 (by omega)
  simp only [clCells, pCells, List.getElem?_cons_succ, List.getElem?_cons_zero, Nat.add_zero] at k50 p50 p51
  have d2 := h.cell0 2
  have d6 := h.cell0 6
  simp only [vmCells, List.getElem?_toArray, List.getElem?_cons_succ, List.getElem?_cons_zero, Sl.v, k1, p1] at d2 d6
  have hb := h.bl
  have n1 := (List.getElem?_eq_some_iff.1 hq).1
  have n2 := (List.getElem?_eq_some_iff.1 hp).1
  have H : Hid (VRep w A m f e) := h
  have HI : Hid (m.ths[i]? = some t) := hi
  obtain ⟨l, hlx⟩ := h.lays hi
  have HLX : Hid (A.X[i]? = some l) := hlx
  have HP : Hid (m.protos[q.p]? = some p) := hp
  have HP1 : Hid (A.C.protos.a = some ⟨gp, 0, none⟩) := p1
  have HW : Hid (Win w w A i t v args) := W
  have he : enter m i c args ret prot = m.setTh i { t with stack := t.stack ++ slotsN p.np args p.ns, frames := t.frames ++ [⟨c, 0, t.stack.length, ret, prot⟩] } := by
    have hpr : m.proto c = p := by simp [VMD.proto, hq, hp]
    simp only [enter, VMD.th_some hi, hpr, slotsN]
  have HE : Hid (enter m i c args ret prot = m.setTh i { t with stack := t.stack ++ slotsN p.np args p.ns, frames := t.frames ++ [⟨c, 0, t.stack.length, ret, prot⟩] }) := he
  clear he
  obtain ⟨PP, HPP⟩ : ∃ P : World → Prop, Hid ((fun w' => ∃ A', VRep w' A' (enter m i c args ret prot) f e ∧ VSt (isT i) w A w' A') = P) := ⟨_, rfl⟩
  rw [show (fun (e' : Ending) (w' : World) => e' = .returned (.tuple #[]) ∧ ∃ A', VRep w' A' (enter m i c args ret prot) f e ∧ VSt (isT i) w A w' A') = fun e' w' => e' = .returned (.tuple #[]) ∧ PP w' from by rw [← HPP.out]]
  obtain ⟨N1, H1⟩ : ∃ N : Nat, Hid (m.clos.length = N) := ⟨_, rfl⟩
  obtain ⟨N2, H2⟩ : ∃ N : Nat, Hid (m.protos.length = N) := ⟨_, rfl⟩
  rw [H1.out] at d6 n1 hcl k2
  rw [H2.out] at d2 n2 hpl p2
  obtain ⟨qp, HQP⟩ : ∃ N : Nat, Hid (q.p = N) := ⟨_, rfl⟩
  rw [HQP.out] at k50 p50 p51 n2
  obtain ⟨np, HNP⟩ : ∃ N : Nat, Hid (p.np = N) := ⟨_, rfl⟩
  obtain ⟨ns, HNS⟩ : ∃ N : Nat, Hid (p.ns = N) := ⟨_, rfl⟩
  rw [HNP.out] at p50 hnp HE
  rw [HNS.out] at p51 hns HE
  obtain ⟨N5, H5⟩ : ∃ N : Nat, Hid (t.stack.length = N) := ⟨_, rfl⟩
  rw [H5.out] at hsl HE
  have KEEP : Hid (∀ W A', VSt (isT i) w A W A' → W.cell? ⟨gp, qp * 8, none⟩ = some (.int .i64 np) ∧ W.cell? ⟨gp, qp * 8 + 1, none⟩ = some (.int .i64 ns) ∧ gp < W.heap.size) := fun W A' S => by
    have R := H.out.core.protos.st S.st (fun hq => by rcases isT_th (H.out.i5 HI.out) hq with hq | hq <;> omega)
    obtain ⟨g', r1, _, _, r4, r5, _⟩ := R.at pCells_len HP.out
    rw [HP1.out] at r1
    cases r1
    have r50 := r5 0 (by omega)
    have r51 := r5 1 (by omega)
    simp only [pCells, List.getElem?_cons_succ, List.getElem?_cons_zero, Nat.add_zero, HQP.out, HNP.out, HNS.out] at r50 r51
    exact ⟨r50, r51, r4⟩
  clear h hi hlx hq hp W k5 k6 p5 p6 k1 p1
  go_enter Tryz.func142, Tryz.ntmps142
  go_wp2_with fail
  refine wp_region_quiet_lit (by kernel_rfl) (by kernel_rfl) ?_
  repeat go_big_quiet_step (fail)
  refine wpQuiet_nil ?_
  rintro w' ⟨nq, rfl⟩
  have HF0 : Hid (Fr (fun _ => False) w (w.drewN nq)) := (Fr.refl _ _).drewN nq
  have HW0 : Hid (Win (w.drewN nq) w A i t v args) := by
    obtain ⟨B, d, c, W⟩ := HW.out
    exact ⟨B, d, c, ⟨W.hv, W.cl, W.own, W.le, W.lt⟩⟩
  obtain ⟨W0, HW00⟩ : ∃ W : World, Hid (w.drewN nq = W) := ⟨_, rfl⟩
  rw [HW00.out] at HF0 HW0 ⊢
  have HT0 : Hid (v = v) := rfl
  clear HW00
  go_wp2_with fail
  go_loopw [3] (fun u wr => ∃ (xs : List Vl), xs.length ≤ 3 ∧ slLen u = xs.length ∧ Hid (Win wr w A i t u xs) ∧ Hid (Fr (fun _ => False) w wr) ∧ Hid (∀ j, xs.getD j nilV = args.getD j nilV)) (fun u _ => 4 - slLen u)
  case atStart =>
    refine ⟨args, hal, ?_, HW0, HF0, fun _ => rfl⟩
    obtain ⟨B, d, c, W⟩ := HW.out
    rw [W.hv]
    rfl
  case round =>
    obtain ⟨xs, hx3, hxl, W1, F1, G1⟩ := hrel
    obtain ⟨B, d, cc, W2⟩ := W1.out
    have hv2 := W2.hv
    subst hv2
    have kk := KEEP.out wr A (VSt.fresh F1.out)
    obtain ⟨e0, e1, e2⟩ := kk
    obtain ⟨X, HX⟩ : ∃ N : Nat, Hid (xs.length = N) := ⟨_, rfl⟩
    have HW2 : Hid (WinAt wr w A i t (.slice (some ⟨B, d, none⟩) xs.length cc) xs B d cc) := W2
    have w2le := W2.le
    have w2lt := W2.lt
    clear W2 hxl
    rw [HX.out] at hx3 w2le HW2 W1 ⊢
    by_cases hlt : X < np
    · have hlt2 : (X : Int) < (np : Int) := by omega
      have HG : Hid (∀ b, Win (wr.alloc b) w A i t (.slice (some ⟨B, d, none⟩) X cc) xs ∧ Fr (fun _ => False) w (wr.alloc b)) := fun b => ⟨W1.out.fresh ((Fr.refl _ _).alloc b), F1.out.alloc b⟩
      go_wp2_with (at_builtin; go_must (refine wpList_appWin rfl (.tmp 35) (.tmp 37) rfl H.out HI.out (HG.out _).2 rfl (HG.out _).1 rfl (Has.new _ _ _) ?bd ?go))
      case bd => rw [HX.out]; omega
      case go =>
        intro v' w' q1 q2
        have Q1 : Hid (Win w' w A i t v' (xs ++ [nilV])) := q1
        have Q2 : Hid (Fr (fun _ => False) w w') := q2
        have hxl : (xs ++ [nilV]).length = X + 1 := by rw [List.length_append, HX.out]; rfl
        have hsl2 : slLen v' = X + 1 := by
          obtain ⟨B, d, c, W⟩ := q1
          rw [W.hv, hxl]
          rfl
        clear q1 q2
        go_wp2_with fail
        refine ⟨⟨xs ++ [nilV], by omega, by rw [hsl2, hxl], Q1, Q2, fun j => ?_⟩, ?_⟩
        · rw [← G1.out j]
          simp only [List.getD_eq_getElem?_getD]
          rcases Nat.lt_trichotomy j xs.length with h | h | h
          · rw [List.getElem?_append_left h]
          · subst h
            simp
          · rw [List.getElem?_eq_none (by simp; omega), List.getElem?_eq_none (by omega)]
        · rw [hsl2]
          simp only [slLen]
          omega
    · have hlt2 : ¬ (X : Int) < (np : Int) := by omega
      have R1 : VRep wr A m f e := H.out.fresh F1.out
      have c2 := R1.thCell HI.out HLX.out (j := 2) (by omega)
      simp only [thCells, List.getElem?_cons_succ, List.getElem?_cons_zero, Sl.v, H5.out] at c2
      have hT := R1.ths.here.has.lt
      have R1H : Hid (VRep wr A m f e) := R1
      clear R1
      go_wp2_with fail
      go_loopw [14] (fun u wq => ∃ (j : Nat) (A1 : VL), j ≤ ns ∧ u = .int .i64 j ∧ Hid (VRep wq A1 (m.setTh i { t with stack := t.stack ++ slotsN np args j }) f e) ∧ Hid (VSt (isT i) w A wq A1) ∧ Hid (∀ k u, (xs.flatMap vCells)[k]? = some u → wq.cell? ⟨B, d + k, none⟩ = some u ∧ Kp A1 i { t with stack := t.stack ++ slotsN np args j } B (d + k))) (fun u _ => 13 - (intOf u).toNat)
      case atStart =>
        refine ⟨0, A, Nat.zero_le _, rfl, ?_, VSt.fresh F1.out, fun k u hk => ?_⟩
        · have e1 : ({ t with stack := t.stack ++ slotsN np args 0 } : ThD) = t := by simp [slotsN]
          rw [e1]
          rw [setTh_same HI.out]
          exact R1H.out
        · have e1 : ({ t with stack := t.stack ++ slotsN np args 0 } : ThD) = t := by simp [slotsN]
          rw [e1]
          exact HW2.out.cl k u hk
      case round =>
        obtain ⟨j, A1, hj, rfl, R2, S2, C2⟩ := hrel
        obtain ⟨e0, e1, e2⟩ := KEEP.out wr A1 S2.out
        have hI1 : Hid ((m.setTh i { t with stack := t.stack ++ slotsN np args j }).ths[i]? = some { t with stack := t.stack ++ slotsN np args j }) := setTh_at HI.out
        have hbT : A1.bT = A.bT := S2.out.bT
        have hT2 := R2.out.ths.here.has.lt
        rw [hbT] at hT2
        have hlj : ({ t with stack := t.stack ++ slotsN np args j } : ThD).stack.length = N5 + j := by
          show (t.stack ++ slotsN np args j).length = _
          rw [List.length_append, slotsN_len, H5.out]
        have HLJ : Hid (({ t with stack := t.stack ++ slotsN np args j } : ThD).stack.length = N5 + j) := hlj
        clear hlj
        by_cases hjn : j < ns
        · have hjn2 : (j : Int) < (ns : Int) := by omega
          by_cases hjp : j < np
          · have hjp2 : (j : Int) < (np : Int) := by omega
            obtain ⟨y, hy⟩ : ∃ y, xs[j]? = some y := ⟨_, List.getElem?_eq_getElem (by rw [HX.out]; omega)⟩
            obtain ⟨y0, y1, y2⟩ := at3 hy
            have z0 := (C2.out _ _ y0).1
            have z1 := (C2.out _ _ y1).1
            have z2 := (C2.out _ _ y2).1
            have hyv0 : slotsN np args (j + 1) = slotsN np args j ++ [y] := by
              rw [slotsN_succ, if_pos hjp, ← G1.out j]
              simp [hy]
            have hyv : Hid (slotsN np args (j + 1) = slotsN np args j ++ [y]) := hyv0
            clear hyv0
            have hgd : y = ⟨y.t, y.n, y.s⟩ := rfl
            have HRB : Hid (∀ b, VRep (wr.alloc b) A1 (m.setTh i { t with stack := t.stack ++ slotsN np args j }) f e) := fun b => R2.out.fresh ((Fr.refl _ _).alloc b)
            have hjX : j < X := by omega
            have hBq := cell_lt z0
            clear y0 y1 y2 hy
            obtain ⟨yt, yn, ys⟩ := y
            dsimp only at z0 z1 z2
            rw [← Nat.add_assoc] at z1 z2
            clear hgd
            go_wp2_with fail
            have hp := vpush_keep (HRB.out (.cells #[.int .i64 yt, .int .u64 yn, sv ys] 68)) hI1.out [⟨yt, yn, ys⟩] (Nat.zero_lt_one) (by rw [HLJ.out]; show N5 + j + 1 ≤ 100000; omega) (B := wr.heap.size) (c := 1) (Has.new _ _ _)
            rw [hbT] at hp
            refine hp.mono ?_
            rintro e' w3 ⟨rfl, A3, R3, S3, K3⟩
            have NX : Hid (VRep w3 A3 (m.setTh i { t with stack := t.stack ++ slotsN np args (j + 1) }) f e ∧ VSt (isT i) w A w3 A3 ∧ ∀ k u, (xs.flatMap vCells)[k]? = some u → w3.cell? ⟨B, d + k, none⟩ = some u ∧ Kp A3 i { t with stack := t.stack ++ slotsN np args (j + 1) } B (d + k)) := by
              rw [setTh_set] at R3
              have e4 : ({ t with stack := t.stack ++ slotsN np args j ++ [⟨yt, yn, ys⟩] } : ThD) = { t with stack := t.stack ++ slotsN np args (j + 1) } := by rw [hyv.out, List.append_assoc]
              rw [e4] at R3 K3
              exact ⟨R3, (S2.out.trans (VSt.fresh ((Fr.refl _ _).alloc _))).trans S3, fun k u hk => K3 _ _ _ (((Fr.refl _ wr).alloc _).cell (C2.out k u hk).1) (C2.out k u hk).2⟩
            clear R3 S3 K3 hp
            go_wp2_with fail
            exact ⟨⟨j + 1, A3, by omega, by go_num, NX.out.1, NX.out.2.1, NX.out.2.2⟩, by simp [intOf]; omega⟩
          · have hjp2 : ¬ (j : Int) < (np : Int) := by omega
            have hyv0 : slotsN np args (j + 1) = slotsN np args j ++ [nilV] := by
              rw [slotsN_succ, if_neg hjp]
            have hyv : Hid (slotsN np args (j + 1) = slotsN np args j ++ [nilV]) := hyv0
            clear hyv0
            have HRB : Hid (∀ b, VRep (wr.alloc b) A1 (m.setTh i { t with stack := t.stack ++ slotsN np args j }) f e) := fun b => R2.out.fresh ((Fr.refl _ _).alloc b)
            go_wp2_with fail
            have hp := vpush_keep (HRB.out (.cells #[.int .i64 0, .int .u64 0, sv []] 68)) hI1.out [nilV] (by decide) (by rw [HLJ.out]; show N5 + j + 1 ≤ 100000; omega) (B := wr.heap.size) (c := 1) (Has.new _ _ _)
            rw [hbT] at hp
            refine hp.mono ?_
            rintro e' w3 ⟨rfl, A3, R3, S3, K3⟩
            have NX : Hid (VRep w3 A3 (m.setTh i { t with stack := t.stack ++ slotsN np args (j + 1) }) f e ∧ VSt (isT i) w A w3 A3 ∧ ∀ k u, (xs.flatMap vCells)[k]? = some u → w3.cell? ⟨B, d + k, none⟩ = some u ∧ Kp A3 i { t with stack := t.stack ++ slotsN np args (j + 1) } B (d + k)) := by
              rw [setTh_set] at R3
              have e4 : ({ t with stack := t.stack ++ slotsN np args j ++ [nilV] } : ThD) = { t with stack := t.stack ++ slotsN np args (j + 1) } := by rw [hyv.out, List.append_assoc]
              rw [e4] at R3 K3
              exact ⟨R3, (S2.out.trans (VSt.fresh ((Fr.refl _ _).alloc _))).trans S3, fun k u hk => K3 _ _ _ (((Fr.refl _ wr).alloc _).cell (C2.out k u hk).1) (C2.out k u hk).2⟩
            clear R3 S3 K3 hp
            go_wp2_with fail
            exact ⟨⟨j + 1, A3, by omega, by go_num, NX.out.1, NX.out.2.1, NX.out.2.2⟩, by simp [intOf]; omega⟩
        · have hjn2 : ¬ (j : Int) < (ns : Int) := by omega
          have hjn3 : j = ns := by omega
          subst hjn3
          obtain ⟨l1, hl1⟩ := R2.out.lays hI1.out
          have HL1 : Hid (A1.X[i]? = some l1) := hl1
          have c3 := R2.out.thCell hI1.out hl1 (j := 3) (by omega)
          simp only [thCells, List.getElem?_cons_succ, List.getElem?_cons_zero, Sl.v, hbT] at c3
          have z3 := R2.out.ths.frozen (i * 5 + 3)
          rw [hbT] at z3
          have HR1 : Hid (World.ownsRow wr 0 336 5 (l1.f.v t.frames.length) t.frames.length (t.frames.flatMap fCells)) := (R2.out.one hI1.out hl1).f.own
          have HRB : Hid (∀ b, World.ownsRow (wr.alloc b) 0 336 5 (l1.f.v t.frames.length) t.frames.length (t.frames.flatMap fCells)) := fun b => owns_fr HR1.out ((Fr.refl (fun _ => False) wr).alloc b) (fun _ _ x => x)
          obtain ⟨NF, HNF⟩ : ∃ N : Nat, Hid (t.frames.length = N) := ⟨_, rfl⟩
          rw [HNF.out] at c3 hfl
          clear hl1
          go_wp2_with (at_builtin; go_must (refine wpList_appN rowFrame _ rfl (.tmp 73) (.tmp 79) rfl (l1.f.v t.frames.length) t.frames.length (t.frames.flatMap fCells) (by rw [HNF.out]; rfl) (HRB.out _) wr.heap.size 1 1 (fCells ⟨c, 0, N5, ret, prot⟩) rfl (Has.new _ _ _) rfl (by decide) (fCells_one _) ?bd ?go))
          case bd => rw [HNF.out]; omega
          case go =>
            intro g cap w2 q1 q2 q3 q4
            have hq3 : (l1.f.v ({ t with stack := t.stack ++ slotsN np args j } : ThD).frames.length).ownBlock = some g ∨ wr.heap.size ≤ g := by
              rcases q3 with q3 | q3
              · exact .inl q3
              · right; rw [q3]; simp
            obtain ⟨hh, A', r1, r2⟩ := R2.out.pushedF hI1.out HL1.out ⟨c, 0, N5, ret, prot⟩ ((Fr.refl _ _).alloc _) q1 q2 hq3 q4
            rw [setTh_set] at r1
            have FIN : Hid (PP (w2.setCell ⟨A.bT, i * 5 + 3, none⟩ (.slice (some ⟨g, 0, none⟩) (NF + 1) cap))) := by
              rw [← HPP.out, HE.out]
              rw [hbT] at r1 r2
              simp only [HNF.out] at r1 r2
              exact ⟨A', r1, S2.out.trans r2⟩
            rw [hbT] at hh
            have d3 := hh.frozen (i * 5 + 3)
            have d4 : w2.cell? ⟨A.bT, i * 5 + 3, none⟩ = some (.slice l1.f.a NF l1.f.c) := by
              rw [hh.cell, List.getElem?_toArray, flatMap_at _ 5 thCells_len _ i 3 _ (R2.out.zipAt hI1.out HL1.out) (by omega)]
              simp [thCells, HNF.out]
            have k3 := hh.lt
            rw [HNF.out]
            clear q1 q2 q3 q4 hq3 hh r1 r2 HPP HE
            go_wp2_with fail
            go_end0
            exact ⟨rfl, FIN.out⟩
end
end Go.Proofs.Qxb6500574aGreatDoor
