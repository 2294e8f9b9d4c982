/-
  moon: EXPRESSIONS BEGIN; LOCALS. Plain; no memory, no walk.
-/
import Derived.Test.Qxb6500574aGreatDoorZM23
namespace Go.Proofs.Qxb6500574aGreatDoor
set_option linter.unusedVariables false
set_option linter.unusedSimpArgs false
theorem snoc_of {l : List Vl} {n : Nat} (h : l.length = n + 1) : l = l.take n ++ [l.getD n nilV] := by
  refine List.ext_getElem? fun j => ?_
  by_cases hj : j < n
  · rw [List.getElem?_append_left (by simp; omega), List.getElem?_take_of_lt hj]
  · rw [List.getElem?_append_right (by simp; omega)]
    by_cases e : j = n
    · subst e
      have h0 : j - (l.take j).length = 0 := by rw [List.length_take]; omega
      rw [h0, List.getD_eq_getElem?_getD, List.getElem?_eq_getElem (by omega)]
      rfl
    · rw [List.getElem?_eq_none (by omega), List.getElem?_eq_none (by simp; omega)]
theorem take_sub {A B : List Vl} {n : Nat} (h : B.length = n) : (A ++ B).take ((A ++ B).length - n) = A := by rw [List.length_append, h, Nat.add_sub_cancel, List.take_left]
theorem hidV_one {st : List Vl} {b : Nat} {sn : Bs} (h : sn ≠ []) : hidV st b [sn] = [] := by unfold hidV; rw [if_neg h]; rfl
theorem hidV_two {st : List Vl} {b : Nat} {s1 s2 : Bs} (h1 : s1 ≠ []) (h2 : s2 ≠ []) : hidV st b [s1, s2] = [] := by unfold hidV; rw [if_neg h1]; exact hidV_one h2
theorem drop_app2 {A B : List Vl} {n : Nat} (h : A.length = n) : (A ++ B).drop n = B := by rw [← h, List.drop_left]
theorem sfx_more {lf lf' : List Nat} {L L' L0 : List Bs} (h0 : L0 <+: L) (h1 : L <+: L') (h : lf'.drop ((nmL L').length - (nmL L).length) = lf) : sfx lf' L' L0 = sfx lf L L0 := by
  obtain ⟨A, rfl⟩ := h0
  obtain ⟨B, rfl⟩ := h1
  show lf'.drop _ = lf.drop _
  rw [← h, List.drop_drop]
  congr 1
  simp only [nmL_app, List.length_append]
  omega
/-- a break from deeper within -/
theorem Cb.deep {X : FX} {L L' : List Bs} {lf lf' : List Nat} (h1 : L <+: L') (h : lf'.drop ((nmL L').length - (nmL L).length) = lf) : ∀ {ts : List TkD} {ex lb : Nat}, Cb X ts true ex lb L lf → Cb X ts true ex lb L' lf'
  | [], _, _, g => g
  | k :: ts, ex, lb, g => by
    unfold Cb at g ⊢
    by_cases h3 : k.k = 3
    · rw [if_pos h3] at g
      exact g.elim
    rw [if_neg h3] at g ⊢
    by_cases h4 : k.k = 4
    · rw [if_pos h4] at g ⊢
      obtain ⟨g1, g2, g3⟩ := g
      have hl : L'.take lb = L.take lb := by
        obtain ⟨B, rfl⟩ := h1
        exact List.take_append_of_le_length g1
      rw [hl, sfx_more (List.take_prefix _ _) h1 h]
      exact ⟨Nat.le_trans g1 h1.length_le, g2, g3⟩
    · rw [if_neg h4] at g ⊢
      exact Cb.deep h1 h g
/-- the statements from n on, and what comes behind them -/
abbrev BlkC (X : FX) (ts : List TkD) (n pc : Nat) (L : List Bs) (lf : List Nat) (L2 : List Bs) : Prop := ∃ L0 lp lb ex pc', Sub0 L0 L ∧ BlkAt X n pc L2 L0 lp lb ex pc' ∧ Fwd X (fun p => Cb X ts false p 0 L0 (sfx lf L L0)) pc' ∧ (lp = true → Cb X ts true ex lb L lf)
theorem BlkC.more {N : List Nd} {D : CmD} {f : Nat} {r : En} {E E' : List EnD} {lc : List Nat} {low : Nat} {ts : List TkD} {n pc : Nat} {L : List Bs} {lf lf2 : List Nat} {L2 : List Bs} (h : BlkC ⟨N, D, f, r, E, lc, low⟩ ts n pc L lf L2) (G : EGr E E') (h1 : Sub0 L L2) (h2 : lf2.drop ((nmL L2).length - (nmL L).length) = lf) : BlkC ⟨N, D, f, r, E', lc, low⟩ ts n pc L2 lf2 L2 := by
  obtain ⟨L0, lp, lb, ex, pc', a0, a1, a2, a3⟩ := h
  refine ⟨L0, lp, lb, ex, pc', a0.trans h1, a1, ?_, fun z => (Cb.mono (fun l e g => G.chn g) (a3 z)).deep h1.1 h2⟩
  rw [sfx_more a0.1 h1.1 h2]
  exact a2.imp (X := ⟨N, D, f, r, E, lc, low⟩) fun p g => Cb.mono (fun l e g => G.chn g) g
theorem hidc_app (L M : List Bs) : hidc (L ++ M) = hidc L + hidc M := by
  have := hidV_len [] (L ++ M) 0
  rw [hidV_app, List.length_append, hidV_len, hidV_len] at this
  exact this.symm
theorem hidc_one {sn : Bs} (h : sn ≠ []) : hidc [sn] = 0 := by unfold hidc; rw [if_neg h]; rfl
theorem one64_is : fromIntN 1 = one64 := by decide
section
variable {N : List Nd} {root : Nat} {D : CmD} {S : Nat → Nat → Ty → Prop} {K : Cx} {m m1 : VMD} {fu s fu' s' : Nat} {M M' : MD} {P P' : List (Option Lc)} {i c : Nat} {t t' : ThD} {T T' : MTh} {f f' : FmD} {fs : List FmD} {F F' : FrIZ} {k : TkD} {tl : List TkD} {stk : List Vl} {pc : Nat}
theorem Op.vv (h : Op N root D S K m fu s M P i t T f fs F) : T.vals = F.low ++ hidV t.stack f.base F.L ++ t.stack.drop (f.base + (D.fn (gO m f)).nslots) := by
  have := h.fo.vv
  have this : T.vals = F.low ++ hidV t.stack f.base F.L ++ (t.stack.take t.stack.length).drop (f.base + (D.fn (gO m f)).nslots) := this
  rw [List.take_length] at this
  exact this
/-- one operand; two; none -/
theorem Op.st1 (h : Op N root D S K m fu s M P i t T f fs F) (ho : oO D m t f = 1) : t.stack = t.stack.take (f.base + (D.fn (gO m f)).nslots) ++ [topV m i 0] := by
  have hle := h.le
  have hl : t.stack.length = f.base + (D.fn (gO m f)).nslots + 1 := by
    have : t.stack.length - (f.base + (D.fn (gO m f)).nslots) = 1 := ho
    omega
  have e : topV m i 0 = t.stack.getD (f.base + (D.fn (gO m f)).nslots) nilV := by
    unfold topV
    rw [th_get h.hi]
    congr 1
    omega
  rw [e]
  exact snoc_of hl
theorem Op.tk (h : Op N root D S K m fu s M P i t T f fs F) : (t.stack.take (f.base + (D.fn (gO m f)).nslots)).length = f.base + (D.fn (gO m f)).nslots := by
  rw [List.length_take]
  have := h.le
  omega
theorem Op.st2 (h : Op N root D S K m fu s M P i t T f fs F) (ho : oO D m t f = 2) : t.stack = t.stack.take (f.base + (D.fn (gO m f)).nslots) ++ [topV m i 1, topV m i 0] := by
  have hle := h.le
  have hl : t.stack.length = f.base + (D.fn (gO m f)).nslots + 1 + 1 := by
    have : t.stack.length - (f.base + (D.fn (gO m f)).nslots) = 2 := ho
    omega
  have e0 : topV m i 0 = t.stack.getD (f.base + (D.fn (gO m f)).nslots + 1) nilV := by
    unfold topV
    rw [th_get h.hi]
    congr 1
    omega
  have e1 : topV m i 1 = (t.stack.take (f.base + (D.fn (gO m f)).nslots + 1)).getD (f.base + (D.fn (gO m f)).nslots) nilV := by
    unfold topV
    rw [th_get h.hi, gd_take (by omega)]
    congr 1
    omega
  have h1 := snoc_of hl
  have h2 := snoc_of (l := t.stack.take (f.base + (D.fn (gO m f)).nslots + 1)) (n := f.base + (D.fn (gO m f)).nslots) (by rw [List.length_take]; omega)
  rw [List.take_take, Nat.min_eq_left (by omega)] at h2
  rw [e0, e1]
  conv => lhs; rw [h1, h2]
  simp
theorem Op.st0 (h : Op N root D S K m fu s M P i t T f fs F) (ho : oO D m t f = 0) : t.stack.length = f.base + (D.fn (gO m f)).nslots := by
  have hle := h.le
  have : t.stack.length - (f.base + (D.fn (gO m f)).nslots) = 0 := ho
  omega
/-- the segment of the tasks behind the first -/
theorem Op.seg (h : Op N root D S K m fu s M P i t T f fs F) (ht : T.tasks = k :: tl) (h3 : k.k ≠ 3) : ∃ seg, tl = seg ++ ⟨3, if f.prot then 1 else 0, F.low.length, none⟩ :: F.rest ∧ ∀ t ∈ seg, t.k ≠ 3 := by
  have hb : FrB (Zo N D m M P i t) f F (k :: tl) T.vals t.stack.length := by rw [← ht]; exact h.fo.toFrB
  exact hb.tail (ts := []) h3
theorem gd_set_ne {l : List Vl} {a b : Nat} {v : Vl} (h : a ≠ b) : (l.set a v).getD b nilV = l.getD b nilV := by
  rw [List.getD_eq_getElem?_getD, List.getElem?_set_ne h, ← List.getD_eq_getElem?_getD]
/-- a pending store of a hidden slot -/
theorem Op.hid (h : Op N root D S K m fu s M P i t T f fs F) (h3 : ∃ k tl, T.tasks = k :: tl ∧ k.k ≠ 3) (ho : oO D m t f = 1) {r : List In} (hc : AtC (D.fn (gO m f)).code f.pc ((6, F.L.length) :: r)) (hn : F.L.length < (D.fn (gO m f)).nslots) (cb : Cb ⟨N, D, gO m f, F.r, M.envs, F.lc, F.low.length⟩ T.tasks false (f.pc + 1) 0 (F.L ++ [[]]) F.lf) (it : Itm [] T.tasks 0 0) :
    PgZ N root D i M.stack s 1 m fu M := by
  obtain ⟨k, tl, ht, h3⟩ := h3
  have W := h.rel.w i
  have e := h.st1 ho
  have hA := h.tk
  generalize t.stack.take (f.base + (D.fn (gO m f)).nslots) = A at e hA
  have L := h.ln
  have hm := h.mS_self
  rw [e] at L hm
  obtain ⟨r1, _⟩ := L.g6 hc fu
  rw [hm] at r1
  have hgA : ∀ q, q ≠ f.base + F.L.length → q < A.length → (A.set (f.base + F.L.length) (topV m i 0)).getD q nilV = t.stack.getD q nilV := fun q h1 h2 => by
    rw [gd_set_ne (fun z => h1 z.symm), e, gd_app h2]
  have dc := (h.toOp0.dc (stk := A.set (f.base + F.L.length) (topV m i 0)) (pc := f.pc + 1) (by rw [List.length_set, hA]; exact Nat.le_refl _) (fun q hq => by
    rcases hq with z | ⟨j, s', j1, j2, j3⟩
    · exact hgA q (by omega) (by omega)
    · have := (List.getElem?_eq_some_iff.1 j1).1
      exact hgA q (by omega) (by omega))).hid
  obtain ⟨seg, e1, e2⟩ := h.seg ht h3
  have hd : (A.set (f.base + F.L.length) (topV m i 0)).drop (f.base + (D.fn (gO m f)).nslots) = [] := List.drop_of_length_le (by rw [List.length_set, hA]; exact Nat.le_refl _)
  have hz : (A.set (f.base + F.L.length) (topV m i 0)).length - (f.base + (D.fn (gO m f)).nslots) = 0 := by rw [List.length_set, hA]; omega
  have R := h.dcl (fu' := fu) dc (fun q hq => hgA q (by omega) (by omega)) (by rw [List.length_set, hA]; exact Nat.le_refl _) (by simp; omega) (ts := T.tasks) (seg := k :: seg) (by rw [ht, e1]; rfl) (fun x hx => by
    rcases List.mem_cons.1 hx with rfl | hx
    · exact h3
    · exact e2 x hx) (by rw [hz]; exact cb) (by rw [hz, hd]; exact it) (vs := T.vals) (by
    rw [hd, h.vv, hidV_app]
    have e3 : t.stack.drop (f.base + (D.fn (gO m f)).nslots) = [topV m i 0] := by rw [e]; exact drop_app2 hA
    rw [e3, List.append_nil, List.append_assoc]
    congr 2
    · refine (hidV_congr fun j hj => ?_).symm
      have := (List.getElem?_eq_some_iff.1 hj).1
      exact hgA _ (by omega) (by omega)
    · show _ = [(A.set (f.base + F.L.length) (topV m i 0)).getD (f.base + F.L.length) nilV]
      rw [gset (by omega)])
  refine PgZ.round r1 (PgZ.rel (P := P) ?_ h.cu rfl)
  have eM : ({ M.st { T with tasks := T.tasks, vals := T.vals } with fuel := fu, envs := M.envs } : MD) = M := by
    have : M.st { T with tasks := T.tasks, vals := T.vals } = M := h.self
    rw [this, ← W.fuel]
  have R := R.rel
  rw [eM] at R
  exact R
theorem Op.k2 (h : Op N root D S K m fu s M P i t T f fs F) (ht : T.tasks = k :: tl) (hk : k.k = 2) : PgZ N root D i M.stack s 1 m fu M := by
  have cb := h.cb ht
  unfold Cb at cb
  simp (config := { decide := true }) only [hk, if_true, if_false] at cb
  obtain ⟨he, cb⟩ := cb
  have it := h.it ht
  unfold Itm at it
  simp (config := { decide := true }) only [hk, if_true, if_false] at it
  have h3 : k.k ≠ 3 := by omega
  rcases cb with ⟨sg, ⟨ha, hx⟩, cb⟩ | ⟨sg, h1, hno, ha, hns, hx, cb⟩
  · have hM := h.step ht
    unfold stK at hM
    simp (config := { decide := true }) only [hk, if_true, if_false] at hM
    unfold MD.eval at hM
    rcases hx with ⟨x0, hE, hy⟩ | ⟨n0, x1, kc, rfl, hc⟩
    · rcases hE with n0 | hE
      · have hy := hy.out
        have z0 := (h.rel.w i).tx.z0
        have hs : sg = [(2, 0)] := by
          rw [n0] at hy
          rcases hy with ⟨_, hy⟩ | ⟨z, _⟩ | ⟨z, _⟩ | ⟨z, _⟩
          · rcases hy with ⟨_, g⟩ | ⟨e, _⟩ | ⟨e, _⟩ | ⟨e, _⟩ | ⟨e, _⟩ | ⟨e, _⟩ | ⟨e, _⟩ | ⟨e, _⟩ | ⟨e, _⟩ | ⟨e, _⟩ | ⟨e, _⟩ | ⟨e, _⟩ | ⟨e, _⟩
            · exact g
            all_goals (have z0 : (N.getD 0 nd0).k = 0 := z0; have e := e; simp only at e; omega)
          · cases z
          · cases z
          · cases z
        subst hs
        rw [if_pos n0, if_neg (by omega), st_push h.cl] at hM
        have hp : plainP m i 2 0 = (.inr (), push m i [nilV]) := by unfold plainP; simp (config := { decide := true }) only [if_true, if_false]
        exact h.lf1 ht h3 ha (by decide) hp hM cb it
      · obtain ⟨kk, hy⟩ := hy
        exact Op.ev_ kk h ht hk x0 hE hy ha he cb
    · rw [if_pos n0, if_pos x1, one64_is, st_push h.cl] at hM
      have hp : plainP m i 1 kc = (.inr (), push m i [numV one64]) := by
        unfold plainP
        rw [h.rt.at_.topF]
        simp (config := { decide := true }) only [if_true, if_false]
        rw [h.cst hc]
      exact h.lf1 ht h3 ha (by decide) hp hM cb it
  · refine h.hid ⟨k, tl, ht, h3⟩ h1 ha hns ?_ ?_
    · rw [ht]
      unfold Cb
      simp (config := { decide := true }) only [hk, if_true, if_false]
      exact ⟨he, .inl ⟨sg, hx, cb⟩⟩
    · rw [ht]
      unfold Itm
      simp (config := { decide := true }) only [hk, if_true, if_false]
      exact hno _ _ _
theorem chn_new {E : List EnD} {l : List Nat} {e : Option Nat} (h : Chn E l e) (sn : Bs) (v : Vl) : Chn (E ++ [⟨sn, v, e⟩]) (E.length :: l) (some E.length) := by
  refine ⟨rfl, by simp, ?_⟩
  rw [List.getD_eq_getElem?_getD, List.getElem?_append_right (Nat.le_refl _)]
  simpa using (EGr.app E [⟨sn, v, e⟩]).chn h
/-- the tasks of statements -/
theorem Cb_blk {X : FX} {ts : List TkD} {n pc : Nat} {L : List Bs} {lf : List Nat} {e : Option Nat} (he : X.env lf e) (h : BlkC X ts n pc L lf L) : Cb X (⟨1, n, 0, e⟩ :: ts) false pc 0 L lf := by
  unfold Cb
  simp (config := { decide := true }) only [if_true, if_false]
  exact ⟨trivial, he, h⟩
theorem Itm_blk {ops : List Vl} {ts : List TkD} {n h w : Nat} {e : Option Nat} (it : Itm ops ts 0 0) : Itm ops (⟨1, n, 0, e⟩ :: ts) h w := by
  unfold Itm
  simp (config := { decide := true }) only [if_true, if_false]
  exact it
theorem Itm.any {ops ops' : List Vl} {ts : List TkD} (h : Itm ops ts 0 0) : Itm ops' ts 0 0 := h.mono (Nat.le_refl _) (fun q hq => by omega)
theorem Op.k6 (h : Op N root D S K m fu s M P i t T f fs F) (ht : T.tasks = k :: tl) (hk : k.k = 6) : PgZ N root D i M.stack s 1 m fu M := by
  have cb := h.cb ht
  unfold Cb at cb
  simp (config := { decide := true }) only [hk, if_true, if_false] at cb
  obtain ⟨ho, he, hs, hn, ha, cb⟩ := cb
  have it := h.it ht
  unfold Itm at it
  simp (config := { decide := true }) only [hk, if_true, if_false] at it
  have h3 : k.k ≠ 3 := by omega
  have hM := h.step ht
  unfold stK at hM
  simp (config := { decide := true }) only [hk, if_true, if_false] at hM
  rw [h.top' (by omega), st_pops h.cl, st_todo h.cl] at hM
  have hM : M.step N root = { M.st { T with tasks := ⟨1, (N.getD k.n nd0).next, 0, some M.envs.length⟩ :: tl, vals := T.vals.take (T.vals.length - 1) } with envs := M.envs ++ [⟨(N.getD k.n nd0).s, topV m i 0, k.e⟩] } := hM
  have W := h.rel.w i
  have e := h.st1 ho
  have hA := h.tk
  have hvl := h.vlen
  generalize t.stack.take (f.base + (D.fn (gO m f)).nslots) = A at e hA
  have L := h.ln
  have hm := h.mS_self
  rw [e] at L hm
  obtain ⟨r1, _⟩ := L.g6 ha fu
  rw [hm] at r1
  have hn : F.L.length < (D.fn (gO m f)).nslots := hn
  have hs : (N.getD k.n nd0).s ≠ [] := hs
  have hgA : ∀ q, q ≠ f.base + F.L.length → q < A.length → (A.set (f.base + F.L.length) (topV m i 0)).getD q nilV = t.stack.getD q nilV := fun q h1 h2 => by
    rw [gd_set_ne (fun z => h1 z.symm), e, gd_app h2]
  have hlen : (A.set (f.base + F.L.length) (topV m i 0)).length = f.base + (D.fn (gO m f)).nslots := by rw [List.length_set, hA]
  have dc := (h.toOp0.dc (stk := A.set (f.base + F.L.length) (topV m i 0)) (pc := f.pc + 1) (by rw [hlen]; exact Nat.le_refl _) (fun q hq => by
    rcases hq with z | ⟨j, s', j1, j2, j3⟩
    · exact hgA q (by omega) (by omega)
    · have := (List.getElem?_eq_some_iff.1 j1).1
      exact hgA q (by omega) (by omega))).new hs (e := k.e) he.head h.fo.ret (by rw [hlen]; omega) (by rw [mS_th h.il]) (v := topV m i 0) (by
    rw [mS_th h.il]
    exact (gset (by omega)).symm)
  obtain ⟨seg, e1, e2⟩ := h.seg ht h3
  have hd : (A.set (f.base + F.L.length) (topV m i 0)).drop (f.base + (D.fn (gO m f)).nslots) = [] := List.drop_of_length_le (by rw [hlen]; exact Nat.le_refl _)
  have hz : (A.set (f.base + F.L.length) (topV m i 0)).length - (f.base + (D.fn (gO m f)).nslots) = 0 := by rw [hlen]; omega
  have R := h.dcl (fu' := fu) dc (fun q hq => hgA q (by omega) (by omega)) (by rw [hlen]; exact Nat.le_refl _) (by simp; omega) (ts := ⟨1, (N.getD k.n nd0).next, 0, some M.envs.length⟩ :: tl) (seg := ⟨1, (N.getD k.n nd0).next, 0, some M.envs.length⟩ :: seg) (by rw [e1]; rfl) (fun x hx => by
    rcases List.mem_cons.1 hx with rfl | hx
    · show (1 : Nat) ≠ 3; decide
    · exact e2 x hx) (by
    rw [hz]
    refine Cb_blk (chn_new he _ _) (BlkC.more cb (EGr.app _ _) ⟨List.prefix_append _ _, by rw [hidc_app, hidc_one hs]; rfl⟩ ?_)
    rw [nmL_app, nmL_one hs]
    simp) (by rw [hz, hd]; exact Itm_blk it.any) (vs := T.vals.take (T.vals.length - 1)) (by
    rw [hd, hidV_app]
    have e3 : t.stack.drop (f.base + (D.fn (gO m f)).nslots) = [topV m i 0] := by rw [e]; exact drop_app2 hA
    have hv := h.vv
    rw [e3] at hv
    rw [hv]
    rw [take_sub (n := 1) rfl]
    have hh : hidV (A.set (f.base + F.L.length) (topV m i 0)) (f.base + F.L.length) [(N.getD k.n nd0).s] = [] := hidV_one hs
    rw [hh, List.append_nil, List.append_nil]
    congr 1
    refine (hidV_congr fun j hj => ?_).symm
    have := (List.getElem?_eq_some_iff.1 hj).1
    exact hgA _ (by omega) (by omega))
  refine PgZ.step W.done ?_
  rw [hM]
  refine PgZ.round r1 (PgZ.rel (P := P ++ [some (.inl (i, f.base + F.L.length))]) ?_ h.cu rfl)
  have R := R.rel
  rw [← W.fuel] at R ⊢
  exact R
end
end Go.Proofs.Qxb6500574aGreatDoor
