/-
  moon: LOOPS, CHOICES. Plain; no memory, no walk.
-/
import Derived.Test.Qxb6500574aGreatDoorZM28
namespace Go.Proofs.Qxb6500574aGreatDoor
set_option linter.unusedVariables false
set_option linter.unusedSimpArgs false
section
variable {N : List Nd} {root : Nat} {D : CmD} {S : Nat → Nat → Ty → Prop} {K : Cx} {m m1 : VMD} {fu s fu' s' : Nat} {M M' : MD} {P P' : List (Option Lc)} {i c : Nat} {t t' : ThD} {T T' : MTh} {f f' : FmD} {fs : List FmD} {F F' : FrIZ} {k : TkD} {tl : List TkD} {stk : List Vl} {pc : Nat}
theorem Op.k20 (h : Op N root D S K m fu s M P i t T f fs F) (ht : T.tasks = k :: tl) (hk : k.k = 20) : PgZ N root D i M.stack s 1 m fu M := by
  have cb := h.cb ht
  unfold Cb at cb
  simp (config := { decide := true }) only [hk, if_true, if_false] at cb
  obtain ⟨ho, M0, t0, ex, s2, n, n', lf', hL, hlf, he, fo, hpc, hf, cbT⟩ := cb
  have it := h.it ht
  unfold Itm at it
  simp (config := { decide := true }) only [hk, if_true, if_false] at it
  have h3 : k.k ≠ 3 := by omega
  have h33 := fo.h3
  have hns : M0.length + 4 ≤ (D.fn (gO m f)).nslots := fo.ns
  have hs1 := fo.nm.1
  have hs2 := fo.nm.2
  generalize FX.in1 _ k.n = n1 at hs1 hL
  generalize FX.in2 _ k.n = n2 at hs2 hL
  have ha : AtC (D.fn (gO m f)).code f.pc [(29, M0.length + 2), (21, t0), (29, M0.length)] := by
    have := (fo.at_.split (.inr trivial)).2
    refine Eq.mp (congrArg (fun z => AtC (D.fn (gO m f)).code z _) ?_) this
    rw [List.length_append]
    show t0 - 3 + (5 + s2.length) = f.pc
    omega
  have hlen := h.st0 ho
  have W := h.rel.w i
  have hd0 : t.stack.drop (f.base + (D.fn (gO m f)).nslots) = [] := List.drop_of_length_le (Nat.le_of_eq hlen)
  have hM := h.step ht
  unfold stK at hM
  simp (config := { decide := true }) only [hk, if_true, if_false] at hM
  obtain ⟨kk, hk1, r1, L1, hg⟩ := h.g29 ha
  have hgc : AtC (D.fn (gO (closeFrom m i (f.base + (M0.length + 2))) f)).code (f.pc + 1) [(21, t0), (29, M0.length)] := by rw [hg]; exact ha.head.2
  have r2 := L1.g21b hgc (by omega) fu
  refine PgZ.step W.done ?_
  rw [hM]
  unfold MD.burn
  have hfu : (M.st { T with tasks := tl }).fuel = fu := W.fuel
  rw [hfu]
  obtain ⟨q1, q2, q3, q4⟩ := closeFrom_rest m i (f.base + (M0.length + 2))
  by_cases hz0 : fu = 0
  · rw [if_pos hz0] at r2 ⊢
    refine PgZ.round r1 (PgZ.weak (PgZ.trap (e := 9) (fu' := fu) r2 ?_))
    show some (AnD.mk 9 M.fuel M.first M.out [45]) = some (AnD.mk 9 fu s (closeFrom m i (f.base + (M0.length + 2))).out [45])
    rw [W.fuel, W.first, W.out, q4]
  · rw [if_neg hz0] at r2 ⊢
    have hL4 : M0 ++ [[], [], n1, n2] = (M0 ++ [[], []]) ++ [n1, n2] := by simp
    have hLx : F.L.take (M0.length + 2) = M0 ++ [[], []] := by
      rw [hL, hL4]
      exact List.take_left' (by simp)
    have hsf : sfx F.lf F.L (M0 ++ [[], []]) = lf' := by
      show F.lf.drop _ = lf'
      rw [hlf, hL, hL4, nmL_app _ [n1, n2], show ([n1, n2] : List Bs) = [n1] ++ [n2] from rfl, nmL_app, nmL_one hs1, nmL_one hs2, List.length_append, List.length_append, List.length_singleton, List.length_singleton, show 1 + 1 + (nmL (M0 ++ [[], []])).length - (nmL (M0 ++ [[], []])).length = 2 by omega]
      rfl
    obtain ⟨seg, e1, e2⟩ := h.seg ht h3
    have hz : t.stack.length - (f.base + (D.fn (gO m f)).nslots) = 0 := by rw [hlen]; omega
    have hsg : ∀ x ∈ (⟨19, k.n, 0, k.e⟩ :: seg : List TkD), x.k ≠ 3 := fun x hx => by
      rcases List.mem_cons.1 hx with rfl | hx
      · show (19 : Nat) ≠ 3; decide
      · exact e2 x hx
    have cb19 : Cb ⟨N, D, gO m f, F.r, M.envs, F.lc, F.low.length⟩ (⟨19, k.n, 0, k.e⟩ :: tl) false t0 0 (M0 ++ [[], []]) lf' := by
      unfold Cb
      simp (config := { decide := true }) only [if_true, if_false]
      exact ⟨trivial, M0, t0, ex, s2, rfl, he, fo, rfl, hf, cbT⟩
    have it19 : Itm [] (⟨19, k.n, 0, k.e⟩ :: tl) 0 0 := by
      unfold Itm
      simp (config := { decide := true }) only [if_true, if_false]
      exact it.any
    have O1 := h.close (x := M0.length + 2) (pc := t0) (by rw [hL]; simp) hk1 (ts := ⟨19, k.n, 0, k.e⟩ :: tl) (seg := ⟨19, k.n, 0, k.e⟩ :: seg) (by rw [e1]; rfl) hsg (by
      rw [hLx, hsf]
      show Cb _ _ _ _ (t.stack.length - (f.base + (D.fn (gO m f)).nslots)) _ _
      rw [hz]
      exact cb19) (by
      show Itm (t.stack.drop (f.base + (D.fn (gO m f)).nslots)) _ (t.stack.length - (f.base + (D.fn (gO m f)).nslots)) (t.stack.length - (f.base + (D.fn (gO m f)).nslots))
      rw [hz, hd0]
      exact it19)
    rw [hLx, hsf] at O1
    have hg2 : gO ((closeFrom m i (f.base + (M0.length + 2))).setTh i { t with opn := t.opn.take kk, frames := fs.reverse ++ [{ f with pc := t0 }] }) { f with pc := t0 } = gO m f := hg
    have hvv : T.vals = F.low ++ hidV t.stack f.base (M0 ++ [[], []]) := by
      have hv := h.vv
      rw [hd0, hL, List.append_nil, hL4, hidV_app, hidV_two hs1 hs2, List.append_nil] at hv
      exact hv
    have dc := O1.dc (stk := t.stack) (pc := t0) (by rw [hg2]; exact Nat.le_of_eq hlen.symm) (fun q hq => rfl)
    have R := O1.dcl (fu' := fu - 1) dc (fun q hq => rfl) (by rw [hg2]; exact Nat.le_of_eq hlen.symm) (by rw [hg2]; simp; omega) (ts := ⟨19, k.n, 0, k.e⟩ :: tl) (seg := ⟨19, k.n, 0, k.e⟩ :: seg) (by rw [e1]; rfl) hsg (by
      rw [hg2]
      show Cb _ _ _ _ (t.stack.length - (f.base + (D.fn (gO m f)).nslots)) _ _
      rw [hz]
      exact cb19) (by
      rw [hg2]
      show Itm (t.stack.drop (f.base + (D.fn (gO m f)).nslots)) _ (t.stack.length - (f.base + (D.fn (gO m f)).nslots)) (t.stack.length - (f.base + (D.fn (gO m f)).nslots))
      rw [hz, hd0]
      exact it19) (vs := T.vals) (by
      rw [hg2]
      show _ = F.low ++ hidV t.stack f.base (M0 ++ [[], []]) ++ t.stack.drop (f.base + (D.fn (gO m f)).nslots)
      rw [hd0, List.append_nil]
      exact hvv)
    refine PgZ.round r1 (PgZ.weak (PgZ.round r2 (PgZ.rel (P := P.map (cloL m i (f.base + (M0.length + 2)))) ?_ h.cu rfl)))
    have R := R.rel
    have eM : ({ (M.st { T with tasks := ⟨19, k.n, 0, k.e⟩ :: tl, vals := F.low ++ hidV t.stack f.base (M0 ++ [[], []]) ++ t.stack.drop (f.base + (D.fn (m.clos.getD f.clo cl0).p).nslots) }).st { T with tasks := ⟨19, k.n, 0, k.e⟩ :: tl, vals := T.vals } with fuel := fu - 1, envs := M.envs } : MD) = (({ M.st { T with tasks := tl } with fuel := fu - 1 } : MD).todo [⟨19, k.n, 0, k.e⟩]) := by
      have := st_todo (M := { M with fuel := fu - 1 }) (T := { T with tasks := tl }) h.cl [⟨19, k.n, 0, k.e⟩]
      refine Eq.trans ?_ this.symm
      rw [st_st]
      rfl
    have R : Rel N root D (mS ((closeFrom m i (f.base + (M0.length + 2))).setTh i { t with opn := t.opn.take kk, frames := fs.reverse ++ [{ f with pc := t0 }] }) i { t with opn := t.opn.take kk, frames := fs.reverse ++ [{ f with pc := t0 }] } { f with pc := t0 } fs t.stack t0) (fu - 1) s ({ (M.st { T with tasks := ⟨19, k.n, 0, k.e⟩ :: tl, vals := F.low ++ hidV t.stack f.base (M0 ++ [[], []]) ++ t.stack.drop (f.base + (D.fn (m.clos.getD f.clo cl0).p).nslots) }).st { T with tasks := ⟨19, k.n, 0, k.e⟩ :: tl, vals := T.vals } with fuel := fu - 1, envs := M.envs } : MD) (P.map (cloL m i (f.base + (M0.length + 2)))) := R
    rw [eM] at R
    have em : mS ((closeFrom m i (f.base + (M0.length + 2))).setTh i { t with opn := t.opn.take kk, frames := fs.reverse ++ [{ f with pc := t0 }] }) i { t with opn := t.opn.take kk, frames := fs.reverse ++ [{ f with pc := t0 }] } { f with pc := t0 } fs t.stack t0 = mS (closeFrom m i (f.base + (M0.length + 2))) i { t with opn := t.opn.take kk } f fs t.stack t0 := by
      simp [mS, tS, VMD.setTh]
    rw [em] at R
    exact R
/-- while: again -/
theorem Op.k14 (h : Op N root D S K m fu s M P i t T f fs F) (ht : T.tasks = k :: tl) (hk : k.k = 14) : PgZ N root D i M.stack s 1 m fu M := by
  have cb := h.cb ht
  unfold Cb at cb
  simp (config := { decide := true }) only [hk, if_true, if_false] at cb
  obtain ⟨ho, he, p, s1, s2, ws, hpc, hf, cbT⟩ := cb
  have it := h.it ht
  unfold Itm at it
  simp (config := { decide := true }) only [hk, if_true, if_false] at it
  have h3 : k.k ≠ 3 := by omega
  have W := h.rel.w i
  have ha : AtC (D.fn (gO m f)).code f.pc [(21, p)] := by
    have := (ws.at_.split (.inr trivial)).2
    refine Eq.mp (congrArg (fun z => AtC (D.fn (gO m f)).code z _) ?_) this
    rw [List.length_append, List.length_cons]
    omega
  have hM := h.step ht
  unfold stK at hM
  simp (config := { decide := true }) only [hk, if_true, if_false] at hM
  have r1 := h.r21b ha (by omega)
  unfold MD.burn at hM
  have hfu : (M.st { T with tasks := tl }).fuel = fu := W.fuel
  rw [hfu] at hM
  by_cases hz0 : fu = 0
  · rw [if_pos hz0] at r1 hM
    refine PgZ.step W.done ?_
    rw [hM]
    refine PgZ.trap (e := 9) (fu' := fu) r1 ?_
    show some (AnD.mk 9 M.fuel M.first M.out [45]) = some (AnD.mk 9 fu s m.out [45])
    rw [W.fuel, W.first, W.out]
  · rw [if_neg hz0] at r1 hM
    refine h.fin (new := [⟨12, k.n, 0, k.e⟩]) (n := 0) (vs := []) (tabs := m.tabs) (out := m.out) ht h3 r1 (Nat.zero_le _) (by simp) ?_ ?_ ?_
    · rw [hM]
      have := st_todo (M := { M with fuel := fu - 1 }) (T := { T with tasks := tl }) h.cl [⟨12, k.n, 0, k.e⟩]
      refine this.trans ?_
      rw [← W.tabs, ← W.out]
      simp [MD.st]
    · show Cb _ (_ :: tl) _ _ (oO D m t f) _ _
      unfold Cb
      simp (config := { decide := true }) only [if_true, if_false]
      exact ⟨ho, he, s1, s2, ws, hf, cbT⟩
    · show Itm _ (_ :: tl) _ _
      unfold Itm
      simp (config := { decide := true }) only [if_true, if_false]
      exact it
/-- while: the test is made -/
theorem Op.k13 (h : Op N root D S K m fu s M P i t T f fs F) (ht : T.tasks = k :: tl) (hk : k.k = 13) : PgZ N root D i M.stack s 1 m fu M := by
  have cb := h.cb ht
  unfold Cb at cb
  simp (config := { decide := true }) only [hk, if_true, if_false] at cb
  obtain ⟨ho, he, p, s1, s2, ws, hpc, hf, cbT⟩ := cb
  have it := h.it ht
  unfold Itm at it
  simp (config := { decide := true }) only [hk, if_true, if_false] at it
  have h3 : k.k ≠ 3 := by omega
  have W := h.rel.w i
  have ha : AtC (D.fn (gO m f)).code f.pc ((22, p + (s1.length + 1 + s2.length + 1)) :: (s2 ++ [(21, p)])) := by
    have := ws.at_
    rw [List.append_assoc] at this
    have := (this.split (.inr trivial)).2
    rw [← hpc] at this
    exact this
  have r1 := h.r22 ha (by omega)
  have hM := h.step ht
  unfold stK at hM
  simp (config := { decide := true }) only [hk, if_true, if_false] at hM
  rw [h.top' (by omega), st_pops h.cl, st_todo h.cl] at hM
  have e0 : oO D m t f - 1 + ([] : List Vl).length = 0 := by simp; omega
  have e0' : oO D m t f - 1 = 0 := by omega
  by_cases z : truthy (topV m i 0) = true
  · rw [if_pos z] at hM r1
    refine h.fin0 (new := [⟨1, (N.getD k.n nd0).b, 0, k.e⟩, ⟨14, k.n, 0, k.e⟩]) (n := 1) (vs := []) ht h3 r1 (by omega) (by simp) (by rw [hM]; simp) ?_ ?_
    · rw [e0]
      refine Cb_blk he ⟨F.L, true, F.L.length, p + (s1.length + 1 + s2.length + 1), p + (s1.length + 1) + s2.length, Sub0.refl _, ?_, .inl ?_, fun _ => ?_⟩
      · rw [show f.pc + 1 = p + (s1.length + 1) by omega]
        exact ws.b
      · show Cb _ (⟨14, k.n, 0, k.e⟩ :: tl) _ _ _ _ (F.lf.drop _)
        rw [Nat.sub_self, List.drop_zero]
        unfold Cb
        simp (config := { decide := true }) only [if_true, if_false]
        exact ⟨trivial, he, p, s1, s2, ws, rfl, hf, cbT⟩
      · show Cb _ (⟨14, k.n, 0, k.e⟩ :: tl) _ _ _ _ _
        unfold Cb
        simp (config := { decide := true }) only [if_true, if_false]
        exact Cb.brk hf cbT (List.prefix_refl _) (by rw [Nat.sub_self, List.drop_zero])
    · rw [e0, e0']
      refine Itm_blk ?_
      show Itm _ (⟨14, k.n, 0, k.e⟩ :: tl) _ _
      unfold Itm
      simp (config := { decide := true }) only [if_true, if_false]
      exact it
  · rw [if_neg z] at hM r1
    refine h.fin0 (new := []) (n := 1) (vs := []) ht h3 r1 (by omega) (by simp) (by rw [hM]; simp) ?_ ?_
    · rw [e0]
      exact cbT
    · rw [e0, e0']
      exact it
/-- while begins -/
theorem Op.k12 (h : Op N root D S K m fu s M P i t T f fs F) (ht : T.tasks = k :: tl) (hk : k.k = 12) : PgZ N root D i M.stack s 1 m fu M := by
  have cb := h.cb ht
  unfold Cb at cb
  simp (config := { decide := true }) only [hk, if_true, if_false] at cb
  obtain ⟨ho, he, s1, s2, ws, hf, cbT⟩ := cb
  have it := h.it ht
  unfold Itm at it
  simp (config := { decide := true }) only [hk, if_true, if_false] at it
  have h3 : k.k ≠ 3 := by omega
  have hM := h.step ht
  unfold stK at hM
  simp (config := { decide := true }) only [hk, if_true, if_false] at hM
  rw [st_todo h.cl] at hM
  have ha := ws.at_
  rw [List.append_assoc] at ha
  obtain ⟨seg, O⟩ := h.exp ht h3 (new := [⟨2, (N.getD k.n nd0).a, 0, k.e⟩, ⟨13, k.n, 0, k.e⟩]) (by simp) (by
    show Cb _ (_ :: _ :: tl) _ _ _ _ _
    unfold Cb
    simp (config := { decide := true }) only [if_true, if_false]
    refine ⟨he, .inl ⟨s1, ⟨(ha.split (.inr trivial)).1, .inl ⟨rfl, .inr ws.sh, ws.c⟩⟩, ?_⟩⟩
    unfold Cb
    simp (config := { decide := true }) only [if_true, if_false]
    exact ⟨by omega, he, f.pc, s1, s2, ws, rfl, hf, cbT⟩) (by
    show Itm _ (_ :: _ :: tl) _ _
    unfold Itm
    simp (config := { decide := true }) only [if_true, if_false]
    unfold Itm
    simp (config := { decide := true }) only [if_true, if_false]
    exact it)
  refine PgZ.step (h.rel.w i).done ?_
  rw [hM]
  exact O.k2 rfl rfl
/-- if -/
theorem Op.k11 (h : Op N root D S K m fu s M P i t T f fs F) (ht : T.tasks = k :: tl) (hk : k.k = 11) : PgZ N root D i M.stack s 1 m fu M := by
  have cb := h.cb ht
  unfold Cb at cb
  simp (config := { decide := true }) only [hk, if_true, if_false] at cb
  obtain ⟨ho, he, s2, s3, lp, lb, ex, ha, hb1, hb2, hbr, cbT⟩ := cb
  have it := h.it ht
  unfold Itm at it
  simp (config := { decide := true }) only [hk, if_true, if_false] at it
  have h3 : k.k ≠ 3 := by omega
  have ha : AtC (D.fn (gO m f)).code f.pc ((22, f.pc + (1 + s2.length + 1)) :: (s2 ++ (21, f.pc + (1 + s2.length + 1 + s3.length)) :: s3)) := ha
  have r1 := h.r22 ha (by omega)
  have hM := h.step ht
  unfold stK at hM
  simp (config := { decide := true }) only [hk, if_true, if_false] at hM
  rw [h.top' (by omega), st_pops h.cl, st_todo h.cl] at hM
  have e0 : oO D m t f - 1 + ([] : List Vl).length = 0 := by simp; omega
  have e0' : oO D m t f - 1 = 0 := by omega
  refine h.fin0 (new := [⟨1, if truthy (topV m i 0) then (N.getD k.n nd0).b else (N.getD k.n nd0).c, 0, k.e⟩]) (n := 1) (vs := []) ht h3 r1 (by omega) (by simp) (by rw [hM]; simp) ?_ ?_
  · rw [e0]
    by_cases z : truthy (topV m i 0) = true
    · rw [if_pos z, if_pos z]
      refine Cb_blk he ⟨F.L, lp, lb, ex, _, Sub0.refl _, hb1, .inr ⟨f.pc + (1 + s2.length + 1 + s3.length), ?_, by omega, ?_⟩, hbr⟩
      · have z2 := (ha.head.2.split (.inr trivial)).2
        have z3 : ((21, f.pc + (1 + s2.length + 1 + s3.length)) :: s3 : List In) = [(21, f.pc + (1 + s2.length + 1 + s3.length))] ++ s3 := rfl
        rw [z3] at z2
        exact (z2.split (.inr trivial)).1
      · show Cb _ tl _ _ _ _ (F.lf.drop _)
        rw [Nat.sub_self, List.drop_zero]
        exact cbT
    · rw [if_neg z, if_neg z]
      refine Cb_blk he ⟨F.L, lp, lb, ex, _, Sub0.refl _, hb2, .inl ?_, hbr⟩
      show Cb _ tl _ _ _ _ (F.lf.drop _)
      rw [Nat.sub_self, List.drop_zero]
      exact cbT
  · rw [e0, e0']
    exact Itm_blk it
/-- the exit of a loop -/
theorem Op.k4T (h : Op N root D S K m fu s M P i t T f fs F) (ht : T.tasks = k :: tl) (hk : k.k = 4) : (∃ seg, Op N root D S K m fu s (M.st { T with tasks := tl }) P i t { T with tasks := tl } f fs { F with seg := seg }) ∨ PgZ N root D i M.stack s 1 m fu (M.st { T with tasks := tl }) := by
  have cb := h.cb ht
  unfold Cb at cb
  simp (config := { decide := true }) only [hk, if_true, if_false] at cb
  obtain ⟨ho, hx, cb⟩ := cb
  have it := h.it ht
  unfold Itm at it
  simp (config := { decide := true }) only [hk, if_true, if_false] at it
  have h3 : k.k ≠ 3 := by omega
  rcases cb with cb | ⟨ha, cb⟩
  · exact .inl (h.exp ht h3 (new := []) (by simp) (by rw [ho]; exact cb) (by rw [ho]; exact it))
  · right
    obtain ⟨kk, hk1, r1, L1, hg⟩ := h.g29 ha
    obtain ⟨seg, e1, e2⟩ := h.seg ht h3
    have hlen := h.st0 ho
    have hz : t.stack.length - (f.base + (D.fn (gO m f)).nslots) = 0 := by rw [hlen]; omega
    have hd0 : t.stack.drop (f.base + (D.fn (gO m f)).nslots) = [] := List.drop_of_length_le (Nat.le_of_eq hlen)
    have O1 := h.close (x := F.L.length) (pc := f.pc + 1) (Nat.le_refl _) hk1 (ts := tl) (seg := seg) e1 e2 (by
      rw [List.take_length]
      show Cb _ _ _ _ (t.stack.length - (f.base + (D.fn (gO m f)).nslots)) _ (F.lf.drop _)
      rw [hz, Nat.sub_self, List.drop_zero]
      exact cb) (by
      show Itm _ _ (t.stack.length - (f.base + (D.fn (gO m f)).nslots)) (t.stack.length - (f.base + (D.fn (gO m f)).nslots))
      rw [hz]
      exact it)
    refine PgZ.round r1 (PgZ.rel (P := P.map (cloL m i (f.base + F.L.length))) ?_ h.cu rfl)
    have R := O1.rel
    have hv := h.vv
    rw [List.take_length] at R
    have hv : F.low ++ hidV t.stack f.base F.L ++ t.stack.drop (f.base + (D.fn (m.clos.getD f.clo cl0).p).nslots) = T.vals := hv.symm
    rw [hv] at R
    exact R
end
end Go.Proofs.Qxb6500574aGreatDoor
