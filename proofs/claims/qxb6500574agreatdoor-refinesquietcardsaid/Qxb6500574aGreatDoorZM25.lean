/-
  moon: TWO LOCALS; THE NUMERIC FOR. Plain; no memory, no walk.
-/
import Derived.Test.Qxb6500574aGreatDoorZM24
namespace Go.Proofs.Qxb6500574aGreatDoor
set_option linter.unusedVariables false
set_option linter.unusedSimpArgs false
theorem truthy_bool (b : Bool) : truthy (boolV b) = b := by cases b <;> rfl
section
variable {N : List Nd} {root : Nat} {D : CmD} {S : Nat → Nat → Ty → Prop} {K : Cx} {m m1 : VMD} {fu s fu' s' : Nat} {M M' : MD} {P P' : List (Option Lc)} {i c : Nat} {t t' : ThD} {T T' : MTh} {f f' : FmD} {fs : List FmD} {F F' : FrIZ} {k : TkD} {tl : List TkD} {stk : List Vl} {pc : Nat}
theorem Op.k7 (h : Op N root D S K m fu s M P i t T f fs F) (ht : T.tasks = k :: tl) (hk : k.k = 7) : PgZ N root D i M.stack s 1 m fu M := by
  have cb := h.cb ht
  unfold Cb at cb
  simp (config := { decide := true }) only [hk, if_true, if_false] at cb
  obtain ⟨ho, he, hs1, hs2, hn, ha, cb⟩ := cb
  have it := h.it ht
  unfold Itm at it
  simp (config := { decide := true }) only [hk, if_true, if_false] at it
  have h3 : k.k ≠ 3 := by omega
  have hM := h.step ht
  unfold stK at hM
  simp (config := { decide := true }) only [hk, if_true, if_false] at hM
  rw [h.top' (by omega), h.top' (by omega), st_pops h.cl, st_todo h.cl] at hM
  have hM : M.step N root = { M.st { T with tasks := ⟨1, (N.getD k.n nd0).next, 0, some (M.envs.length + 1)⟩ :: tl, vals := T.vals.take (T.vals.length - 2) } with envs := M.envs ++ [⟨(N.getD (N.getD k.n nd0).a nd0).s, topV m i 1, k.e⟩, ⟨(N.getD (N.getD (N.getD k.n nd0).a nd0).next nd0).s, topV m i 0, some M.envs.length⟩] } := hM
  have hs1 : (N.getD (N.getD k.n nd0).a nd0).s ≠ [] := hs1
  have hs2 : (N.getD (N.getD (N.getD k.n nd0).a nd0).next nd0).s ≠ [] := hs2
  have cb : BlkC ⟨N, D, gO m f, F.r, M.envs, F.lc, F.low.length⟩ tl (N.getD k.n nd0).next (f.pc + 2) F.L F.lf (F.L ++ [(N.getD (N.getD k.n nd0).a nd0).s, (N.getD (N.getD (N.getD k.n nd0).a nd0).next nd0).s]) := cb
  generalize (N.getD (N.getD k.n nd0).a nd0).s = n1 at hs1 hM cb
  generalize (N.getD (N.getD (N.getD k.n nd0).a nd0).next nd0).s = n2 at hs2 hM cb
  have W := h.rel.w i
  have e := h.st2 ho
  have hA := h.tk
  generalize t.stack.take (f.base + (D.fn (gO m f)).nslots) = A at e hA
  have hn : F.L.length + 1 < (D.fn (gO m f)).nslots := hn
  have L := h.ln
  have hm := h.mS_self
  have e' : t.stack = (A ++ [topV m i 1]) ++ [topV m i 0] := by rw [e]; simp
  rw [e'] at L hm
  obtain ⟨r1, L1⟩ := L.g6 ha fu
  rw [hm] at r1
  have es : (A ++ [topV m i 1]).set (f.base + (F.L.length + 1)) (topV m i 0) = A.set (f.base + (F.L.length + 1)) (topV m i 0) ++ [topV m i 1] := List.set_append_left _ _ (by omega)
  rw [es] at r1 L1
  obtain ⟨r2, _⟩ := L1.g6 ha.head.2 fu
  generalize hst : (A.set (f.base + (F.L.length + 1)) (topV m i 0)).set (f.base + F.L.length) (topV m i 1) = st at r2
  have hlen : st.length = f.base + (D.fn (gO m f)).nslots := by rw [← hst, List.length_set, List.length_set, hA]
  have hgA : ∀ q, q ≠ f.base + F.L.length → q ≠ f.base + (F.L.length + 1) → q < A.length → st.getD q nilV = t.stack.getD q nilV := fun q h1 h1' h2 => by
    rw [← hst, gd_set_ne (fun z => h1 z.symm), gd_set_ne (fun z => h1' z.symm), e, gd_app h2]
  have hv1 : st.getD (f.base + F.L.length) nilV = topV m i 1 := by rw [← hst, gset (by rw [List.length_set]; omega)]
  have hv2 : st.getD (f.base + (F.L.length + 1)) nilV = topV m i 0 := by rw [← hst, gd_set_ne (by omega), gset (by omega)]
  have dc1 := (h.toOp0.dc (stk := st) (pc := f.pc + 1 + 1) (by rw [hlen]; exact Nat.le_refl _) (fun q hq => by
    rcases hq with z | ⟨j, s', j1, j2, j3⟩
    · exact hgA q (by omega) (by omega) (by omega)
    · have := (List.getElem?_eq_some_iff.1 j1).1
      exact hgA q (by omega) (by omega) (by omega))).new hs1 (e := k.e) he.head h.fo.ret (by rw [hlen]; omega) (by rw [mS_th h.il]) (v := topV m i 1) (by
    rw [mS_th h.il]
    exact hv1.symm)
  have dc2 := dc1.new hs2 (e := some M.envs.length) (fun j hj => by cases hj; simp) h.fo.ret (by rw [hlen, List.length_append]; simp; omega) (by rw [mS_th h.il]) (v := topV m i 0) (by
    rw [mS_th h.il, List.length_append]
    exact hv2.symm)
  simp only [List.append_assoc, List.singleton_append, List.length_append, List.length_singleton] at dc2
  obtain ⟨seg, e1, e2⟩ := h.seg ht h3
  have hd : st.drop (f.base + (D.fn (gO m f)).nslots) = [] := List.drop_of_length_le (by rw [hlen]; exact Nat.le_refl _)
  have hz : st.length - (f.base + (D.fn (gO m f)).nslots) = 0 := by rw [hlen]; omega
  have R := h.dcl (fu' := fu) dc2 (fun q hq => hgA q (by omega) (by omega) (by omega)) (by rw [hlen]; exact Nat.le_refl _) (by simp; omega) (ts := ⟨1, (N.getD k.n nd0).next, 0, some (M.envs.length + 1)⟩ :: tl) (seg := ⟨1, (N.getD k.n nd0).next, 0, some (M.envs.length + 1)⟩ :: seg) (by rw [e1]; rfl) (fun x hx => by
    rcases List.mem_cons.1 hx with rfl | hx
    · show (1 : Nat) ≠ 3; decide
    · exact e2 x hx) (by
    rw [hz]
    refine Cb_blk ?_ (BlkC.more cb ?_ ⟨List.prefix_append _ _, by rw [hidc_app, show ([n1, n2] : List Bs) = [n1] ++ [n2] from rfl, hidc_app, hidc_one hs1, hidc_one hs2]; rfl⟩ ?_)
    · have z := chn_new (chn_new he n1 (topV m i 1)) n2 (topV m i 0)
      simp only [List.append_assoc, List.singleton_append, List.length_append, List.length_singleton] at z
      exact z
    · exact EGr.app _ _
    · rw [nmL_app, show ([n1, n2] : List Bs) = [n1] ++ [n2] from rfl, nmL_app, nmL_one hs1, nmL_one hs2]
      simp only [List.length_append, List.length_singleton, List.length_cons, List.length_nil]
      rw [show 0 + 1 + (0 + 1) + (nmL F.L).length - (nmL F.L).length = 2 by omega]
      rfl) (by rw [hz, hd]; exact Itm_blk it.any) (vs := T.vals.take (T.vals.length - 2)) (by
    rw [hd, hidV_app]
    have e3 : t.stack.drop (f.base + (D.fn (gO m f)).nslots) = [topV m i 1, topV m i 0] := by rw [e]; exact drop_app2 hA
    have hv := h.vv
    rw [e3] at hv
    rw [hv]
    rw [take_sub (n := 2) rfl]
    have hh : hidV st (f.base + F.L.length) [n1, n2] = [] := hidV_two hs1 hs2
    rw [hh, List.append_nil, List.append_nil]
    congr 1
    refine (hidV_congr fun j hj => ?_).symm
    have := (List.getElem?_eq_some_iff.1 hj).1
    exact hgA _ (by omega) (by omega) (by omega))
  refine PgZ.step W.done ?_
  rw [hM]
  refine PgZ.round r1 (PgZ.weak (PgZ.round r2 (PgZ.rel (P := P ++ [some (.inl (i, f.base + F.L.length)), some (.inl (i, f.base + (F.L.length + 1)))]) ?_ h.cu rfl)))
  have R := R.rel
  rw [← W.fuel] at R ⊢
  exact R
/-! ### the numeric for -/
theorem hidV3 (st : List Vl) (b : Nat) : hidV st b [[], [], []] = [st.getD b nilV, st.getD (b + 1) nilV, st.getD (b + 1 + 1) nilV] := rfl
/-- three hidden values at the top -/
theorem Op.top3 (h : Op N root D S K m fu s M P i t T f fs F) (ho : oO D m t f = 0) {M0 : List Bs} (hL : F.L = M0 ++ [[], [], []]) : ∃ V0, V0 = F.low ++ hidV t.stack f.base M0 ∧ T.vals = V0 ++ [t.stack.getD (f.base + M0.length) nilV, t.stack.getD (f.base + M0.length + 1) nilV, t.stack.getD (f.base + M0.length + 2) nilV] := by
  refine ⟨_, rfl, ?_⟩
  have hv := h.vv
  rw [List.drop_of_length_le (Nat.le_of_eq (h.st0 ho)), hL, hidV_app, hidV3, List.append_nil] at hv
  rw [hv, List.append_assoc]
theorem top3_0 {V0 : List Vl} {a b c : Vl} : (V0 ++ [a, b, c]).getD ((V0 ++ [a, b, c]).length - 1 - 0) nilV = c := by
  rw [List.getD_eq_getElem?_getD, List.getElem?_append_right (by simp)]
  simp
theorem top3_1 {V0 : List Vl} {a b c : Vl} : (V0 ++ [a, b, c]).getD ((V0 ++ [a, b, c]).length - 1 - 1) nilV = b := by
  rw [List.getD_eq_getElem?_getD, List.getElem?_append_right (by simp)]
  simp
theorem top3_2 {V0 : List Vl} {a b c : Vl} : (V0 ++ [a, b, c]).getD ((V0 ++ [a, b, c]).length - 1 - 2) nilV = a := by
  rw [List.getD_eq_getElem?_getD, List.getElem?_append_right (by simp)]
  simp
theorem for_test (x : Nat) : (cmpN 1 x 0 || cmpN 2 x x) = (!(cmpN 5 x 0) && !(cmpN 3 x 0)) := by
  have key : (fOrd x x = some .eq ∧ ∃ o, fOrd x 0 = some o) ∨ (fOrd x x ≠ some .eq ∧ fOrd x 0 = none) := by
    have e : ∀ y, fOrd x y = (FloatKind.f64.decode x).order (FloatKind.f64.decode y) := fun _ => rfl
    rw [e, e]
    have e0 : FloatKind.f64.decode 0 = .number false 0 (-1074) := by decide
    rw [e0]
    cases FloatKind.f64.decode x with
    | nan s t => exact .inr ⟨by simp [Ieee.Datum.order], by simp [Ieee.Datum.order]⟩
    | infinity s => exact .inl ⟨by cases s <;> simp [Ieee.Datum.order], by cases s <;> simp [Ieee.Datum.order]⟩
    | number s a p => exact .inl ⟨by simp [Ieee.Datum.order], by simp [Ieee.Datum.order]⟩
  unfold cmpN
  simp (config := { decide := true }) only [if_true, if_false]
  rcases key with ⟨k1, o, k2⟩ | ⟨k1, k2⟩
  · rw [k1, k2]
    cases o <;> rfl
  · rw [k2]
    have : (fOrd x x != some Ordering.eq) = true := by simpa using k1
    rw [this]
    rfl
theorem Op.k15 (h : Op N root D S K m fu s M P i t T f fs F) (ht : T.tasks = k :: tl) (hk : k.k = 15) : PgZ N root D i M.stack s 1 m fu M := by
  have cb := h.cb ht
  unfold Cb at cb
  simp (config := { decide := true }) only [hk, if_true, if_false] at cb
  obtain ⟨M0, t0, ex, s4, he, fo, hf, cbT, cb⟩ := cb
  have it := h.it ht
  unfold Itm at it
  simp (config := { decide := true }) only [hk, if_true, if_false] at it
  have h3 : k.k ≠ 3 := by omega
  have ha := fo.at_
  rw [List.append_assoc] at ha
  have ha : AtC (D.fn (gO m f)).code (t0 - 2) _ := ha
  have h2 := fo.h2
  rcases cb with ⟨ho, hL, hpc⟩ | ⟨ho, hL, hpc⟩
  · rw [← hpc] at ha
    have hL2 : F.L.length = M0.length + 2 := by rw [hL]; simp
    refine h.hid ⟨k, tl, ht, h3⟩ ho (by rw [hL2]; exact ha) (by rw [hL2]; have := fo.ns; exact (show M0.length + 2 < (D.fn (gO m f)).nslots by have : M0.length + 4 ≤ (D.fn (gO m f)).nslots := this; omega)) ?_ ?_
    · rw [ht]
      unfold Cb
      simp (config := { decide := true }) only [hk, if_true, if_false]
      exact ⟨M0, t0, ex, s4, he, fo, hf, cbT, .inr ⟨trivial, by rw [hL]; simp, by omega⟩⟩
    · rw [ht]
      unfold Itm
      simp (config := { decide := true }) only [hk, if_true, if_false]
      exact it.any
  · have ha := ha.head.2
    rw [show t0 - 2 + 1 = f.pc by omega] at ha
    obtain ⟨V0, hV0, hv⟩ := h.top3 ho hL
    have hM := h.step ht
    unfold stK at hM
    simp (config := { decide := true }) only [hk, if_true, if_false] at hM
    rw [st_top h.cl, st_top h.cl, st_top h.cl, st_todo h.cl] at hM
    simp only at hM
    rw [hv, top3_0, top3_1, top3_2, ← hv] at hM
    have hp0 : plainP m i 30 M0.length = forP m i 30 (f.base + M0.length) := by
      unfold plainP
      rw [h.rt.at_.topF]
      simp (config := { decide := true }) only [if_true, if_false]
    unfold forP at hp0
    rw [th_get h.hi] at hp0
    simp (config := { decide := true }) only [if_true, if_false] at hp0
    generalize t.stack.getD (f.base + M0.length) nilV = a0 at hM hp0
    generalize t.stack.getD (f.base + M0.length + 1) nilV = a1 at hM hp0
    generalize t.stack.getD (f.base + M0.length + 2) nilV = a2 at hM hp0
    have em : m = { m with ths := m.ths.set i { t with stack := t.stack.take (t.stack.length - 0) } } := by
      have : ({ t with stack := t.stack.take (t.stack.length - 0) } : ThD) = t := by simp
      rw [this, set_self h.hi]
    have em2 : m = { m with ths := m.ths.set i { t with stack := t.stack.take (t.stack.length - 0) ++ [] } } := by
      have : ({ t with stack := t.stack.take (t.stack.length - 0) ++ [] } : ThD) = t := by simp
      rw [this, set_self h.hi]
    have bad : plainP m i 30 M0.length = (.inl (.inl (strV mFor)), m) → M.step N root = (M.st { T with tasks := tl }).raise mFor → PgZ N root D i M.stack s 1 m fu M := fun q1 q2 => by
      refine h.pthr ht h3 ha (by decide) (n := 0) (v := strV mFor) (by rw [q1]; congr 1) (Nat.zero_le _) (V := T.vals) ?_ q2
      rw [hv, hV0, List.append_assoc]
      exact List.prefix_append _ _
    by_cases c1 : a0.t ≠ 2 ∨ a1.t ≠ 2 ∨ a2.t ≠ 2
    · rw [if_pos c1] at hM hp0
      exact bad hp0 hM
    · rw [if_neg c1] at hM hp0
      rw [for_test] at hp0
      by_cases c2 : (!(cmpN 5 a2.n 0) && !(cmpN 3 a2.n 0)) = true
      · rw [if_pos c2] at hM hp0
        exact bad hp0 hM
      · rw [if_neg c2] at hM hp0
        refine h.pp0 (new := [⟨16, k.n, 0, k.e⟩]) (n := 0) (vs := []) ht h3 ha (by decide) (by rw [hp0]; congr 1) (Nat.zero_le _) (by simp) (by rw [hM]; simp) ?_ ?_
        · show Cb _ (_ :: tl) _ _ (oO D m t f) _ _
          unfold Cb
          simp (config := { decide := true }) only [if_true, if_false]
          exact ⟨ho, M0, t0, ex, s4, hL, he, fo, by omega, hf, cbT⟩
        · show Itm _ (_ :: tl) _ _
          unfold Itm
          simp (config := { decide := true }) only [if_true, if_false]
          exact it
end
end Go.Proofs.Qxb6500574aGreatDoor
