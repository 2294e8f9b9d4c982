/-
  moon: THE NUMERIC FOR's STEP. Plain; no memory, no walk.
-/
import Derived.Test.Qxb6500574aGreatDoorZM26
namespace Go.Proofs.Qxb6500574aGreatDoor
set_option linter.unusedVariables false
set_option linter.unusedSimpArgs false
section
variable {N : List Nd} {root : Nat} {D : CmD} {S : Nat → Nat → Ty → Prop} {K : Cx} {m m1 : VMD} {fu s fu' s' : Nat} {M M' : MD} {P P' : List (Option Lc)} {i c : Nat} {t t' : ThD} {T T' : MTh} {f f' : FmD} {fs : List FmD} {F F' : FrIZ} {k : TkD} {tl : List TkD} {stk : List Vl} {pc : Nat}
theorem Op.vok (h : Op N root D S K m fu s M P i t T f fs F) (q : Nat) : VOk K (t.stack.getD q nilV) := getD_ok (h.rt.at_.vi.th i t h.hi).sv q
theorem numv_is {K : Cx} {v : Vl} (h : VOk K v) (h2 : v.t = 2) (n : Nat) : ({ v with n := n } : Vl) = numV n := by
  have hw := h.w
  unfold wellV at hw
  rw [if_neg (by omega)] at hw
  have hs : v.s = [] := by
    refine Classical.byContradiction fun z => ?_
    rw [if_pos (.inl z)] at hw
    cases hw
  show Vl.mk v.t n v.s = Vl.mk 2 n []
  rw [h2, hs]
/-- the close at the end of a loop's body -/
theorem Op.g29 (h : Op N root D S K m fu s M P i t T f fs F) {x : Nat} {r : List In} (hc : AtC (D.fn (gO m f)).code f.pc ((29, x) :: r)) : ∃ k, (closeFrom m i (f.base + x)).ths[i]? = some { t with opn := t.opn.take k } ∧ roundP fu m i = .inl (fu, mS (closeFrom m i (f.base + x)) i { t with opn := t.opn.take k } f fs t.stack (f.pc + 1)) ∧ LnZ D S (closeFrom m i (f.base + x)) i { t with opn := t.opn.take k } f fs t.stack (f.pc + 1) ∧ gO (closeFrom m i (f.base + x)) f = gO m f := by
  obtain ⟨k, hk⟩ := (closeFrom_inv h.rt.at_.vi h.hi (f.base + x)).th
  obtain ⟨q1, q2, q3, q4⟩ := closeFrom_rest m i (f.base + x)
  obtain ⟨r1, L1⟩ := h.ln.g29 hc fu (m1 := closeFrom m i (f.base + x)) (t1 := { t with opn := t.opn.take k }) (by rw [h.mS_self]) hk rfl h.fr q2
  rw [h.mS_self] at r1
  exact ⟨k, hk, r1, L1, by show ((closeFrom m i (f.base + x)).clos.getD f.clo cl0).p = _; rw [q2]⟩
theorem Op.k17 (h : Op N root D S K m fu s M P i t T f fs F) (ht : T.tasks = k :: tl) (hk : k.k = 17) (hI : (M.topM 2).t = 2 ∧ (M.topM 0).t = 2) : PgZ N root D i M.stack s 1 m fu M := by
  have cb := h.cb ht
  unfold Cb at cb
  simp (config := { decide := true }) only [hk, if_true, if_false] at cb
  obtain ⟨ho, M0, t0, ex, s4, n, lf', hL, hlf, he, fo, hpc, hf, cbT⟩ := cb
  have it := h.it ht
  unfold Itm at it
  simp (config := { decide := true }) only [hk, if_true, if_false] at it
  have h3 : k.k ≠ 3 := by omega
  have h2 := fo.h2
  have hns : M0.length + 4 ≤ (D.fn (gO m f)).nslots := fo.ns
  have hs : (N.getD k.n nd0).s ≠ [] := fo.nm
  have hL : F.L = M0 ++ [[], [], [], (N.getD k.n nd0).s] := hL
  have ha : AtC (D.fn (gO m f)).code f.pc [(29, M0.length + 3), (5, M0.length), (5, M0.length + 2), (15, 1), (6, M0.length), (21, t0), (29, M0.length)] := by
    have := (fo.at_.split (.inr trivial)).2
    refine Eq.mp (congrArg (fun z => AtC (D.fn (gO m f)).code z _) ?_) this
    rw [List.length_append]
    show t0 - 2 + (6 + s4.length) = f.pc
    omega
  have hlen := h.st0 ho
  have W := h.rel.w i
  have hd0 : t.stack.drop (f.base + (D.fn (gO m f)).nslots) = [] := List.drop_of_length_le (Nat.le_of_eq hlen)
  -- the values
  have hv : T.vals = (F.low ++ hidV t.stack f.base M0) ++ [t.stack.getD (f.base + M0.length) nilV, t.stack.getD (f.base + M0.length + 1) nilV, t.stack.getD (f.base + M0.length + 2) nilV] := by
    have hv := h.vv
    rw [hd0, hL, List.append_nil, show ([[], [], [], (N.getD k.n nd0).s] : List Bs) = [[], [], []] ++ [(N.getD k.n nd0).s] from rfl, hidV_app, hidV_app, hidV3, hidV_one hs, List.append_nil] at hv
    rw [hv, List.append_assoc]
  have htop : T.vals.getD (T.vals.length - 1 - 0) nilV = t.stack.getD (f.base + M0.length + 2) nilV ∧ T.vals.getD (T.vals.length - 1 - 1) nilV = t.stack.getD (f.base + M0.length + 1) nilV ∧ T.vals.getD (T.vals.length - 1 - 2) nilV = t.stack.getD (f.base + M0.length) nilV := by
    rw [hv]
    exact ⟨top3_0, top3_1, top3_2⟩
  have hI : (t.stack.getD (f.base + M0.length) nilV).t = 2 ∧ (t.stack.getD (f.base + M0.length + 2) nilV).t = 2 := by
    have e0 := st_top (M := M) (T := T) h.cl 2
    have e1 := st_top (M := M) (T := T) h.cl 0
    rw [h.self] at e0 e1
    rw [e0, e1, htop.1, htop.2.2] at hI
    exact hI
  have hM := h.step ht
  unfold stK at hM
  simp (config := { decide := true }) only [hk, if_true, if_false] at hM
  rw [st_top h.cl, st_top h.cl, st_up h.cl, st_th h.cl] at hM
  simp only at hM
  rw [htop.1, htop.2.2, numv_is (h.vok _) hI.1] at hM
  generalize ha0 : t.stack.getD (f.base + M0.length) nilV = a0 at hI hM hv
  generalize ha2 : t.stack.getD (f.base + M0.length + 2) nilV = a2 at hI hM hv
  -- the rounds
  obtain ⟨kk, hk1, r1, L1, hg⟩ := h.g29 ha
  have hgc : AtC (D.fn (gO (closeFrom m i (f.base + (M0.length + 3))) f)).code (f.pc + 1) [(5, M0.length), (5, M0.length + 2), (15, 1), (6, M0.length), (21, t0), (29, M0.length)] := by rw [hg]; exact ha.head.2
  obtain ⟨r2, L2⟩ := L1.g5 hgc fu
  rw [ha0] at r2 L2
  obtain ⟨r3, L3⟩ := L2.g5 hgc.head.2 fu
  rw [gd_app (by omega), show f.base + (M0.length + 2) = f.base + M0.length + 2 by omega, ha2] at r3 L3
  have ea : t.stack ++ [a0] ++ [a2] = t.stack ++ [a0, a2] := by simp
  rw [ea] at r3 L3
  obtain ⟨r4, L4⟩ := L3.g15 hgc.head.2.head.2 hI.1 hI.2 fu
  obtain ⟨r5, L5⟩ := L4.g6 hgc.head.2.head.2.head.2 fu
  have r6 := L5.g21b hgc.head.2.head.2.head.2.head.2 (by omega) fu
  refine PgZ.step W.done ?_
  rw [hM]
  unfold MD.burn
  have hfu : (M.st { T with tasks := tl, vals := T.vals.set (T.vals.length - 3) (numV (arithN 1 a0.n a2.n)) }).fuel = fu := W.fuel
  rw [hfu]
  obtain ⟨q1, q2, q3, q4⟩ := closeFrom_rest m i (f.base + (M0.length + 3))
  by_cases hz0 : fu = 0
  · rw [if_pos hz0] at r6 ⊢
    refine PgZ.round r1 (PgZ.weak (PgZ.round r2 (PgZ.weak (PgZ.round r3 (PgZ.weak (PgZ.round r4 (PgZ.weak (PgZ.round r5 (PgZ.weak (PgZ.trap (e := 9) (fu' := fu) r6 ?_))))))))))
    show some (AnD.mk 9 M.fuel M.first M.out [45]) = some (AnD.mk 9 fu s (closeFrom m i (f.base + (M0.length + 3))).out [45])
    rw [W.fuel, W.first, W.out, q4]
  · rw [if_neg hz0] at r6 ⊢
    have hLx : F.L.take (M0.length + 3) = M0 ++ [[], [], []] := by
      rw [hL, show M0 ++ [[], [], [], (N.getD k.n nd0).s] = (M0 ++ [[], [], []]) ++ [(N.getD k.n nd0).s] by simp]
      exact List.take_left' (by simp)
    have hsf : sfx F.lf F.L (M0 ++ [[], [], []]) = lf' := by
      show F.lf.drop _ = lf'
      rw [hlf, hL, show M0 ++ [[], [], [], (N.getD k.n nd0).s] = (M0 ++ [[], [], []]) ++ [(N.getD k.n nd0).s] by simp, nmL_app _ [(N.getD k.n nd0).s], nmL_one hs, List.length_append, List.length_singleton, show 1 + (nmL (M0 ++ [[], [], []])).length - (nmL (M0 ++ [[], [], []])).length = 1 by omega]
      rfl
    obtain ⟨seg, e1, e2⟩ := h.seg ht h3
    have hz : t.stack.length - (f.base + (D.fn (gO m f)).nslots) = 0 := by rw [hlen]; omega
    have O1 := h.close (x := M0.length + 3) (pc := t0) (by rw [hL]; simp) hk1 (ts := ⟨16, k.n, 0, k.e⟩ :: tl) (seg := ⟨16, k.n, 0, k.e⟩ :: seg) (by rw [e1]; rfl) (fun x hx => by
      rcases List.mem_cons.1 hx with rfl | hx
      · show (16 : Nat) ≠ 3; decide
      · exact e2 x hx) (by
      rw [hLx, hsf]
      show Cb _ _ _ _ (t.stack.length - (f.base + (D.fn (gO m f)).nslots)) _ _
      rw [hz]
      unfold Cb
      simp (config := { decide := true }) only [if_true, if_false]
      exact ⟨trivial, M0, t0, ex, s4, rfl, he, fo, rfl, hf, cbT⟩) (by
      show Itm (t.stack.drop (f.base + (D.fn (gO m f)).nslots)) _ (t.stack.length - (f.base + (D.fn (gO m f)).nslots)) (t.stack.length - (f.base + (D.fn (gO m f)).nslots))
      rw [hz, hd0]
      unfold Itm
      simp (config := { decide := true }) only [if_true, if_false]
      exact it.any)
    rw [hLx, hsf] at O1
    generalize hst : t.stack.set (f.base + M0.length) (numV (arithN 1 a0.n a2.n)) = st at r5 r6 L5
    have hl2 : st.length = f.base + (D.fn (gO m f)).nslots := by rw [← hst, List.length_set, hlen]
    have hgA : ∀ q, q ≠ f.base + M0.length → st.getD q nilV = t.stack.getD q nilV := fun q h1 => by
      rw [← hst, gd_set_ne (by omega)]
    have hg2 : gO ((closeFrom m i (f.base + (M0.length + 3))).setTh i { t with opn := t.opn.take kk, frames := fs.reverse ++ [{ f with pc := t0 }] }) { f with pc := t0 } = gO m f := hg
    have hdS : st.drop (f.base + (D.fn (gO m f)).nslots) = [] := List.drop_of_length_le (Nat.le_of_eq hl2)
    have hzS : st.length - (f.base + (D.fn (gO m f)).nslots) = 0 := by rw [hl2]; omega
    have dc := O1.dc (stk := st) (pc := t0) (by rw [hg2]; exact Nat.le_of_eq hl2.symm) (fun q hq => by
      rcases hq with z | ⟨j, s', j1, j2, j3⟩
      · exact hgA q (by have z : q < f.base := z; omega)
      · refine hgA q ?_
        intro hq
        have j3 : q = f.base + j := j3
        have : j = M0.length := by omega
        subst this
        have j1 : (M0 ++ [[], [], []])[M0.length]? = some s' := j1
        rw [List.getElem?_append_right (Nat.le_refl _), Nat.sub_self] at j1
        exact j2 (Option.some.inj j1).symm)
    have R := O1.dcl (fu' := fu - 1) dc (fun q hq => hgA q (by have hq : q < f.base := hq; omega)) (by rw [hg2]; exact Nat.le_of_eq hl2.symm) (by rw [hg2]; simp; omega) (ts := ⟨16, k.n, 0, k.e⟩ :: tl) (seg := ⟨16, k.n, 0, k.e⟩ :: seg) (by rw [e1]; rfl) (fun x hx => by
      rcases List.mem_cons.1 hx with rfl | hx
      · show (16 : Nat) ≠ 3; decide
      · exact e2 x hx) (by
      rw [hg2]
      show Cb _ _ _ _ (st.length - (f.base + (D.fn (gO m f)).nslots)) _ _
      rw [hzS]
      unfold Cb
      simp (config := { decide := true }) only [if_true, if_false]
      exact ⟨trivial, M0, t0, ex, s4, rfl, he, fo, rfl, hf, cbT⟩) (by
      rw [hg2]
      show Itm (st.drop (f.base + (D.fn (gO m f)).nslots)) _ (st.length - (f.base + (D.fn (gO m f)).nslots)) (st.length - (f.base + (D.fn (gO m f)).nslots))
      rw [hzS, hdS]
      unfold Itm
      simp (config := { decide := true }) only [if_true, if_false]
      exact it.any) (vs := T.vals.set (T.vals.length - 3) (numV (arithN 1 a0.n a2.n))) (by
      rw [hg2]
      show _ = F.low ++ hidV st f.base (M0 ++ [[], [], []]) ++ st.drop (f.base + (D.fn (gO m f)).nslots)
      rw [hdS, List.append_nil, hidV_app, hidV3, hv]
      rw [show (F.low ++ hidV t.stack f.base M0 ++ [a0, t.stack.getD (f.base + M0.length + 1) nilV, a2]).length - 3 = (F.low ++ hidV t.stack f.base M0).length by simp; omega, List.set_append_right _ _ (Nat.le_refl _), Nat.sub_self]
      rw [hidV_congr (st := t.stack) (st' := st) (fun j hj => hgA _ (by have := (List.getElem?_eq_some_iff.1 hj).1; omega)), List.append_assoc]
      congr 2
      rw [hgA (f.base + M0.length + 1) (by omega), hgA (f.base + M0.length + 1 + 1) (by omega), show f.base + M0.length + 1 + 1 = f.base + M0.length + 2 from rfl, ha2, ← hst, gset (by omega)]
      rfl)
    refine PgZ.round r1 (PgZ.weak (PgZ.round r2 (PgZ.weak (PgZ.round r3 (PgZ.weak (PgZ.round r4 (PgZ.weak (PgZ.round r5 (PgZ.weak (PgZ.round r6 (PgZ.rel (P := P.map (cloL m i (f.base + (M0.length + 3)))) ?_ h.cu rfl)))))))))))
    have R := R.rel
    have eM : ({ (M.st { T with tasks := ⟨16, k.n, 0, k.e⟩ :: tl, vals := F.low ++ hidV t.stack f.base (M0 ++ [[], [], []]) ++ t.stack.drop (f.base + (D.fn (m.clos.getD f.clo cl0).p).nslots) }).st { T with tasks := ⟨16, k.n, 0, k.e⟩ :: tl, vals := T.vals.set (T.vals.length - 3) (numV (arithN 1 a0.n a2.n)) } with fuel := fu - 1, envs := M.envs } : MD) = (({ M.st { T with tasks := tl, vals := T.vals.set (T.vals.length - 3) (numV (arithN 1 a0.n a2.n)) } with fuel := fu - 1 } : MD).todo [⟨16, k.n, 0, k.e⟩]) := by
      have := st_todo (M := { M with fuel := fu - 1 }) (T := { T with tasks := tl, vals := T.vals.set (T.vals.length - 3) (numV (arithN 1 a0.n a2.n)) }) h.cl [⟨16, k.n, 0, k.e⟩]
      refine Eq.trans ?_ this.symm
      rw [st_st]
      rfl
    have R : Rel N root D (mS ((closeFrom m i (f.base + (M0.length + 3))).setTh i { t with opn := t.opn.take kk, frames := fs.reverse ++ [{ f with pc := t0 }] }) i { t with opn := t.opn.take kk, frames := fs.reverse ++ [{ f with pc := t0 }] } { f with pc := t0 } fs st t0) (fu - 1) s ({ (M.st { T with tasks := ⟨16, k.n, 0, k.e⟩ :: tl, vals := F.low ++ hidV t.stack f.base (M0 ++ [[], [], []]) ++ t.stack.drop (f.base + (D.fn (m.clos.getD f.clo cl0).p).nslots) }).st { T with tasks := ⟨16, k.n, 0, k.e⟩ :: tl, vals := T.vals.set (T.vals.length - 3) (numV (arithN 1 a0.n a2.n)) } with fuel := fu - 1, envs := M.envs } : MD) (P.map (cloL m i (f.base + (M0.length + 3)))) := R
    rw [eM] at R
    have em : mS ((closeFrom m i (f.base + (M0.length + 3))).setTh i { t with opn := t.opn.take kk, frames := fs.reverse ++ [{ f with pc := t0 }] }) i { t with opn := t.opn.take kk, frames := fs.reverse ++ [{ f with pc := t0 }] } { f with pc := t0 } fs st t0 = mS (closeFrom m i (f.base + (M0.length + 3))) i { t with opn := t.opn.take kk } f fs st t0 := by
      simp [mS, tS, VMD.setTh]
    rw [em] at R
    exact R
end
end Go.Proofs.Qxb6500574aGreatDoor
