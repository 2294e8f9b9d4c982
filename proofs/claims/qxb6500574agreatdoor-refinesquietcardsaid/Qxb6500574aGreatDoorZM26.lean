/-
  moon: THE NUMERIC FOR's TEST AND STEP. Plain; no memory, no walk.
-/
import Derived.Test.Qxb6500574aGreatDoorZM25
namespace Go.Proofs.Qxb6500574aGreatDoor
set_option linter.unusedVariables false
set_option linter.unusedSimpArgs false
/-- a break leads behind the loop -/
theorem Cb.brk {X : FX} {ts : List TkD} {ex : Nat} {L L' : List Bs} {lf lf' : List Nat} (hf : Foot X L ts) (cb : Cb X ts false ex 0 L lf) (h1 : L <+: L') (h : lf'.drop ((nmL L').length - (nmL L).length) = lf) : Cb X ts true ex L.length L' lf' := by
  cases ts with
  | nil => cases hf
  | cons k ts =>
    have hk : k = ⟨4, 0, X.low + hidc L, none⟩ := Option.some.inj hf
    subst hk
    unfold Cb at cb ⊢
    simp (config := { decide := true }) only [if_true, if_false] at cb ⊢
    obtain ⟨_, _, c3⟩ := cb
    have hl : L'.take L.length = L := by
      obtain ⟨B, rfl⟩ := h1
      exact List.take_left
    refine ⟨h1.length_le, by rw [hl], ?_⟩
    rw [hl, show sfx lf' L' L = lf from h]
    exact c3
theorem FoS.mono {N : List Nd} {D : CmD} {f : Nat} {r : En} {E E' : List EnD} {lc : List Nat} {low : Nat} {L : List Bs} {n h e : Nat} {s4 : List In} (g : FoS ⟨N, D, f, r, E, lc, low⟩ L n h e s4) : FoS ⟨N, D, f, r, E', lc, low⟩ L n h e s4 := by
  obtain ⟨w1, w2, w3, w4, w5, w6, w7⟩ := g
  exact ⟨w1, w2, w3, w4, w5, w6, w7⟩
theorem InS.mono {N : List Nd} {D : CmD} {f : Nat} {r : En} {E E' : List EnD} {lc : List Nat} {low : Nat} {L : List Bs} {n h e : Nat} {s4 : List In} (g : InS ⟨N, D, f, r, E, lc, low⟩ L n h e s4) : InS ⟨N, D, f, r, E', lc, low⟩ L n h e s4 := by
  obtain ⟨w1, w2, w3, w4, w5, w6, w7⟩ := g
  exact ⟨w1, w2, w3, w4, w5, w6, w7⟩
section
variable {N : List Nd} {root : Nat} {D : CmD} {S : Nat → Nat → Ty → Prop} {K : Cx} {m m1 : VMD} {fu s fu' s' : Nat} {M M' : MD} {P P' : List (Option Lc)} {i c : Nat} {t t' : ThD} {T T' : MTh} {f f' : FmD} {fs : List FmD} {F F' : FrIZ} {k : TkD} {tl : List TkD} {stk : List Vl} {pc : Nat}
theorem Op.k16 (h : Op N root D S K m fu s M P i t T f fs F) (ht : T.tasks = k :: tl) (hk : k.k = 16) : PgZ N root D i M.stack s 1 m fu M := by
  have cb := h.cb ht
  unfold Cb at cb
  simp (config := { decide := true }) only [hk, if_true, if_false] at cb
  obtain ⟨ho, M0, t0, ex, s4, hL, he, fo, hpc, hf, cbT⟩ := cb
  have it := h.it ht
  unfold Itm at it
  simp (config := { decide := true }) only [hk, if_true, if_false] at it
  have h3 : k.k ≠ 3 := by omega
  have h2 := fo.h2
  have hex := fo.he
  have hns : M0.length + 4 ≤ (D.fn (gO m f)).nslots := fo.ns
  have ha : AtC (D.fn (gO m f)).code (t0 - 2) ((6, M0.length + 2) :: (30, M0.length) :: (31, M0.length) :: (22, ex) :: (5, M0.length) :: (6, M0.length + 3) :: (s4 ++ [(29, M0.length + 3), (5, M0.length), (5, M0.length + 2), (15, 1), (6, M0.length), (21, t0), (29, M0.length)])) := by
    have := fo.at_
    rw [List.append_assoc] at this
    exact this
  have ha := ha.head.2.head.2
  rw [show t0 - 2 + 1 + 1 = f.pc by omega] at ha
  obtain ⟨V0, hV0, hv⟩ := h.top3 ho hL
  have hM := h.step ht
  unfold stK at hM
  simp (config := { decide := true }) only [hk, if_true, if_false] at hM
  rw [st_top h.cl, st_top h.cl, st_top h.cl, st_todo h.cl, st_pops h.cl] at hM
  simp only at hM
  have W := h.rel.w i
  have hlen := h.st0 ho
  have hFL : F.L.length = M0.length + 3 := by rw [hL]; simp
  obtain ⟨r1, L1⟩ := h.ln.g31 ha fu
  rw [h.mS_self] at r1
  obtain ⟨r2, L2⟩ := L1.g22 ha.head.2 (by omega) fu
  rw [truthy_bool] at r2 L2
  obtain ⟨seg, e1, e2⟩ := h.seg ht h3
  have hgt2 : t.stack.getD (f.base + M0.length + 2) nilV = t.stack.getD (f.base + (M0.length + 2)) nilV := rfl
  have htop : T.vals.getD (T.vals.length - 1 - 0) nilV = t.stack.getD (f.base + M0.length + 2) nilV ∧ T.vals.getD (T.vals.length - 1 - 1) nilV = t.stack.getD (f.base + M0.length + 1) nilV ∧ T.vals.getD (T.vals.length - 1 - 2) nilV = t.stack.getD (f.base + M0.length) nilV := by
    rw [hv]
    exact ⟨top3_0, top3_1, top3_2⟩
  rw [htop.1, htop.2.1, htop.2.2] at hM
  generalize hc : cmpN (if cmpN 5 (t.stack.getD (f.base + M0.length + 2) nilV).n 0 then 4 else 6) (t.stack.getD (f.base + M0.length) nilV).n (t.stack.getD (f.base + M0.length + 1) nilV).n = c at r1 r2 L2 hM
  cases c with
  | false =>
    simp only [Bool.false_eq_true, if_false] at hM r2 L2
    have dc := h.toOp0.dc (stk := t.stack) (pc := ex) (by rw [hlen]; exact Nat.le_refl _) (fun q _ => rfl)
    rw [show F.L = ((M0 ++ [[]]) ++ [[]]) ++ [[]] by rw [hL]; simp] at dc
    have dc := dc.unhid.unhid.unhid
    have hd : t.stack.drop (f.base + (D.fn (gO m f)).nslots) = [] := List.drop_of_length_le (by rw [hlen]; exact Nat.le_refl _)
    have hz : t.stack.length - (f.base + (D.fn (gO m f)).nslots) = 0 := by rw [hlen]; omega
    have R := h.dcl (fu' := fu) dc (fun q hq => rfl) (by rw [hlen]; exact Nat.le_refl _) (by omega) (ts := tl) (seg := seg) e1 e2 (by rw [hz]; exact cbT) (by rw [hz, hd]; exact it.any) (vs := T.vals.take (T.vals.length - 3)) (by
      rw [hd, hv, ← hV0, List.append_nil]
      exact take_sub rfl)
    refine PgZ.step W.done ?_
    rw [hM]
    refine PgZ.round r1 (PgZ.weak (PgZ.round r2 (PgZ.rel (P := P) ?_ h.cu rfl)))
    have R := R.rel
    have eM : ({ M.st { T with tasks := tl, vals := T.vals.take (T.vals.length - 3) } with fuel := fu, envs := M.envs } : MD) = M.st { T with tasks := tl, vals := T.vals.take (T.vals.length - 3) } := by rw [← W.fuel]; rfl
    rw [eM] at R
    exact R
  | true =>
    simp only [if_true] at hM r2 L2
    have hM : M.step N root = { M.st { T with tasks := ⟨1, (N.getD k.n nd0).b, 0, some M.envs.length⟩ :: ⟨17, k.n, 0, k.e⟩ :: tl } with envs := M.envs ++ [⟨(N.getD k.n nd0).s, t.stack.getD (f.base + M0.length) nilV, k.e⟩] } := hM
    obtain ⟨r3, L3⟩ := L2.g5 ha.head.2.head.2 fu
    obtain ⟨r4, _⟩ := L3.g6 ha.head.2.head.2.head.2 fu
    have hs : (N.getD k.n nd0).s ≠ [] := fo.nm
    have hbl := fo.b
    have hbl : BlkAt ⟨N, D, gO m f, F.r, M.envs ++ [⟨(N.getD k.n nd0).s, t.stack.getD (f.base + M0.length) nilV, k.e⟩], F.lc, F.low.length⟩ (N.getD k.n nd0).b (t0 + 4) (M0 ++ [[], [], [], (N.getD k.n nd0).s]) (M0 ++ [[], [], [], (N.getD k.n nd0).s]) true M0.length ex (t0 + 4 + s4.length) := hbl
    have fo' : FoS ⟨N, D, gO m f, F.r, M.envs ++ [⟨(N.getD k.n nd0).s, t.stack.getD (f.base + M0.length) nilV, k.e⟩], F.lc, F.low.length⟩ M0 k.n t0 ex s4 := fo.mono
    generalize hst : t.stack.set (f.base + (M0.length + 3)) (t.stack.getD (f.base + M0.length) nilV) = st at r4
    have hl2 : st.length = f.base + (D.fn (gO m f)).nslots := by rw [← hst, List.length_set, hlen]
    have hgA : ∀ q, q ≠ f.base + F.L.length → st.getD q nilV = t.stack.getD q nilV := fun q h1 => by
      rw [← hst, gd_set_ne (by omega)]
    have hv0 : st.getD (f.base + F.L.length) nilV = t.stack.getD (f.base + M0.length) nilV := by
      rw [← hst, hFL, gset (by omega)]
    have dc := (h.toOp0.dc (stk := st) (pc := f.pc + 1 + 1 + 1 + 1) (by rw [hl2]; exact Nat.le_refl _) (fun q hq => by
      rcases hq with z | ⟨j, s', j1, j2, j3⟩
      · exact hgA q (by omega)
      · have := (List.getElem?_eq_some_iff.1 j1).1
        exact hgA q (by omega))).new hs (e := k.e) he.head h.fo.ret (by rw [hl2]; omega) (by rw [mS_th h.il]) (v := t.stack.getD (f.base + M0.length) nilV) (by
      rw [mS_th h.il]
      exact hv0.symm)
    have hd : st.drop (f.base + (D.fn (gO m f)).nslots) = [] := List.drop_of_length_le (by rw [hl2]; exact Nat.le_refl _)
    have hz : st.length - (f.base + (D.fn (gO m f)).nslots) = 0 := by rw [hl2]; omega
    have hL' : F.L ++ [(N.getD k.n nd0).s] = M0 ++ [[], [], [], (N.getD k.n nd0).s] := by rw [hL]; simp
    have cbT' : Cb ⟨N, D, gO m f, F.r, M.envs ++ [⟨(N.getD k.n nd0).s, t.stack.getD (f.base + M0.length) nilV, k.e⟩], F.lc, F.low.length⟩ tl false ex 0 M0 F.lf := Cb.mono (fun l e g => (EGr.app _ _).chn g) cbT
    have hdr : (M.envs.length :: F.lf).drop ((nmL (M0 ++ [[], [], [], (N.getD k.n nd0).s])).length - (nmL M0).length) = F.lf := by
      rw [nmL_app, show ([[], [], [], (N.getD k.n nd0).s] : List Bs) = [[]] ++ ([[]] ++ ([[]] ++ [(N.getD k.n nd0).s])) from rfl, nmL_app, nmL_app, nmL_app, nmL_nil, nmL_one hs]
      simp
    have R := h.dcl (fu' := fu) dc (fun q hq => hgA q (by omega)) (by rw [hl2]; exact Nat.le_refl _) (by simp; omega) (ts := ⟨1, (N.getD k.n nd0).b, 0, some M.envs.length⟩ :: ⟨17, k.n, 0, k.e⟩ :: tl) (seg := ⟨1, (N.getD k.n nd0).b, 0, some M.envs.length⟩ :: ⟨17, k.n, 0, k.e⟩ :: seg) (by rw [e1]; rfl) (fun x hx => by
      rcases List.mem_cons.1 hx with rfl | hx
      · show (1 : Nat) ≠ 3; decide
      · rcases List.mem_cons.1 hx with rfl | hx
        · show (17 : Nat) ≠ 3; decide
        · exact e2 x hx) (by
      rw [hz, hL']
      refine Cb_blk (chn_new he _ _) ⟨_, true, M0.length, ex, t0 + 4 + s4.length, Sub0.refl _, ?_, .inl ?_, fun _ => ?_⟩
      · rw [show f.pc + 1 + 1 + 1 + 1 = t0 + 4 by omega]
        exact hbl
      · unfold Cb
        simp (config := { decide := true }) only [if_true, if_false]
        refine ⟨trivial, M0, t0, ex, s4, M.envs.length, F.lf, rfl, ?_, (EGr.app _ _).chn he, fo', rfl, hf, cbT'⟩
        show (M.envs.length :: F.lf).drop _ = _
        rw [Nat.sub_self]
        rfl
      · unfold Cb
        simp (config := { decide := true }) only [if_true, if_false]
        exact Cb.brk hf cbT' (List.prefix_append _ _) hdr) (by
      rw [hz, hd]
      refine Itm_blk ?_
      unfold Itm
      simp (config := { decide := true }) only [if_true, if_false]
      exact it.any) (vs := T.vals) (by
      rw [hd, hidV_app, h.vv]
      have hh : hidV st (f.base + F.L.length) [(N.getD k.n nd0).s] = [] := hidV_one hs
      rw [hh, List.append_nil, List.append_nil, List.drop_of_length_le (Nat.le_of_eq hlen), List.append_nil]
      congr 1
      refine (hidV_congr fun j hj => ?_).symm
      have := (List.getElem?_eq_some_iff.1 hj).1
      exact hgA _ (by omega))
    refine PgZ.step W.done ?_
    rw [hM]
    refine PgZ.round r1 (PgZ.weak (PgZ.round r2 (PgZ.weak (PgZ.round r3 (PgZ.weak (PgZ.round r4 (PgZ.rel (P := P ++ [some (.inl (i, f.base + F.L.length))]) ?_ h.cu rfl)))))))
    have R := R.rel
    rw [← W.fuel] at R ⊢
    exact R
end
end Go.Proofs.Qxb6500574aGreatDoor
