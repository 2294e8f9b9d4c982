/-
  moon: THE GENERIC FOR. Plain; no memory, no walk.
-/
import Derived.Test.Qxb6500574aGreatDoorZM27
namespace Go.Proofs.Qxb6500574aGreatDoor
set_option linter.unusedVariables false
set_option linter.unusedSimpArgs false
section
variable {N : List Nd} {root : Nat} {D : CmD} {S : Nat → Nat → Ty → Prop} {K : Cx} {m m1 : VMD} {fu s fu' s' : Nat} {M M' : MD} {P P' : List (Option Lc)} {i c : Nat} {t t' : ThD} {T T' : MTh} {f f' : FmD} {fs : List FmD} {F F' : FrIZ} {k : TkD} {tl : List TkD} {stk : List Vl} {pc : Nat}
/-- a plain instruction's error, whatever the interpreter did to come there -/
theorem Op.pthrT (h : Op N root D S K m fu s M P i t T f fs F) (ht : T.tasks = k :: tl) (h3 : k.k ≠ 3) {op x : Nat} {r : List In} (hc : AtC (D.fn (gO m f)).code f.pc ((op, x) :: r)) (ho : op ≠ 21 ∧ op ≠ 22 ∧ op ≠ 23 ∧ op ≠ 24 ∧ op ≠ 26 ∧ op ≠ 27) {v : Vl}
    (hp : plainP m i op x = (.inl (.inl v), m)) {V : List Vl} (hV : F.low <+: V) : PgZ N root D i M.stack s 1 m fu ((M.st { T with tasks := tl, vals := V }).throw v) := by
  obtain ⟨o1, o2, o3, o4, o5, o6⟩ := ho
  have o34 : ¬ (op = 23 ∨ op = 24) := fun z => z.elim o3 o4
  have em : m = { m with ths := m.ths.set i { t with stack := t.stack.take (t.stack.length - 0), frames := fs.reverse ++ [{ f with pc := f.pc }] } } := by
    have hf : fs.reverse ++ [{ f with pc := f.pc }] = t.frames := h.fr.symm
    have : ({ t with stack := t.stack.take (t.stack.length - 0), frames := fs.reverse ++ [{ f with pc := f.pc }] } : ThD) = t := by
      rw [hf]
      simp
    rw [this, set_self h.hi]
  have hI : (instrP m i).2 = (.inl (.inl v), m) := by
    rw [h.rt.dis (h.at_ hc)]
    unfold disP
    rw [if_neg o1, if_neg o2, if_neg o34, if_neg o5, if_neg o6, hp]
    rfl
  have hr : roundP fu m i = thrD fu m i v := by
    rw [h.rt.rdp (h.at_ hc) ⟨o1, o2, o3, o4, o5, o6⟩, hp]
    rfl
  have R := h.thr ht h3 (n := 0) (y := f.pc) (by rw [hI]; congr 1) (by rw [hr]; congr 1) (Nat.zero_le _) hV
  have eM : ({ M.st { T with tasks := tl, vals := V } with fuel := fu } : MD) = M.st { T with tasks := tl, vals := V } := by rw [← (h.rel.w i).fuel]; rfl
  rw [eM] at R
  exact R
theorem top2_0 {V0 : List Vl} {a b : Vl} : (V0 ++ [a, b]).getD ((V0 ++ [a, b]).length - 1 - 0) nilV = b := by
  rw [List.getD_eq_getElem?_getD, List.getElem?_append_right (by simp)]
  simp
theorem top2_1 {V0 : List Vl} {a b : Vl} : (V0 ++ [a, b]).getD ((V0 ++ [a, b]).length - 1 - 1) nilV = a := by
  rw [List.getD_eq_getElem?_getD, List.getElem?_append_right (by simp)]
  simp
theorem hidV2 (st : List Vl) (b : Nat) : hidV st b [[], []] = [st.getD b nilV, st.getD (b + 1) nilV] := rfl
theorem Op.k18 (h : Op N root D S K m fu s M P i t T f fs F) (ht : T.tasks = k :: tl) (hk : k.k = 18) : PgZ N root D i M.stack s 1 m fu M := by
  have cb := h.cb ht
  unfold Cb at cb
  simp (config := { decide := true }) only [hk, if_true, if_false] at cb
  obtain ⟨ho, t0, ex, s2, he, fo, hpc, hf, cbT⟩ := cb
  have it := h.it ht
  unfold Itm at it
  simp (config := { decide := true }) only [hk, if_true, if_false] at it
  have h3 : k.k ≠ 3 := by omega
  have h33 := fo.h3
  have hns : F.L.length + 4 ≤ (D.fn (gO m f)).nslots := fo.ns
  have ha : AtC (D.fn (gO m f)).code (t0 - 3) ((6, F.L.length) :: (2, 0) :: (6, F.L.length + 1) :: (32, F.L.length) :: (22, ex) :: (s2 ++ [(29, F.L.length + 2), (21, t0), (29, F.L.length)])) := by
    have := fo.at_
    rw [List.append_assoc] at this
    exact this
  rw [← hpc] at ha
  have W := h.rel.w i
  have e := h.st1 ho
  have hA := h.tk
  generalize t.stack.take (f.base + (D.fn (gO m f)).nslots) = A at e hA
  have hM := h.step ht
  unfold stK at hM
  simp (config := { decide := true }) only [hk, if_true, if_false] at hM
  rw [h.top' (by omega), st_push h.cl, st_todo h.cl] at hM
  have L := h.ln
  have hm := h.mS_self
  rw [e] at L hm
  obtain ⟨r1, L1⟩ := L.g6 ha fu
  rw [hm] at r1
  obtain ⟨r2, L2⟩ := L1.g2 ha.head.2 fu
  obtain ⟨r3, L3⟩ := L2.g6 ha.head.2.head.2 fu
  generalize hst : (A.set (f.base + F.L.length) (topV m i 0)).set (f.base + (F.L.length + 1)) nilV = st at r3 L3
  have hlen : st.length = f.base + (D.fn (gO m f)).nslots := by rw [← hst, List.length_set, List.length_set, hA]
  have hgA : ∀ q, q ≠ f.base + F.L.length → q ≠ f.base + (F.L.length + 1) → q < A.length → st.getD q nilV = t.stack.getD q nilV := fun q h1 h1' h2 => by
    rw [← hst, gd_set_ne (fun z => h1' z.symm), gd_set_ne (fun z => h1 z.symm), e, gd_app h2]
  have hv1 : st.getD (f.base + F.L.length) nilV = topV m i 0 := by rw [← hst, gd_set_ne (by omega), gset (by omega)]
  have hv2 : st.getD (f.base + F.L.length + 1) nilV = nilV := by rw [← hst, show f.base + F.L.length + 1 = f.base + (F.L.length + 1) by omega, gset (by rw [List.length_set]; omega)]
  have dc := (h.toOp0.dc (stk := st) (pc := f.pc + 1 + 1 + 1) (by rw [hlen]; exact Nat.le_refl _) (fun q hq => by
    rcases hq with z | ⟨j, s', j1, j2, j3⟩
    · exact hgA q (by omega) (by omega) (by omega)
    · have := (List.getElem?_eq_some_iff.1 j1).1
      exact hgA q (by omega) (by omega) (by omega))).hid.hid
  rw [show (F.L ++ [[]]) ++ [[]] = F.L ++ [[], []] by simp] at dc
  obtain ⟨seg, e1, e2⟩ := h.seg ht h3
  have hd : st.drop (f.base + (D.fn (gO m f)).nslots) = [] := List.drop_of_length_le (by rw [hlen]; exact Nat.le_refl _)
  have hz : st.length - (f.base + (D.fn (gO m f)).nslots) = 0 := by rw [hlen]; omega
  have O := h.dcl (fu' := fu) dc (fun q hq => hgA q (by omega) (by omega) (by omega)) (by rw [hlen]; exact Nat.le_refl _) (by simp; omega) (ts := ⟨19, k.n, 0, k.e⟩ :: tl) (seg := ⟨19, k.n, 0, k.e⟩ :: seg) (by rw [e1]; rfl) (fun x hx => by
    rcases List.mem_cons.1 hx with rfl | hx
    · show (19 : Nat) ≠ 3; decide
    · exact e2 x hx) (by
    rw [hz]
    unfold Cb
    simp (config := { decide := true }) only [if_true, if_false]
    exact ⟨trivial, F.L, t0, ex, s2, rfl, he, fo, by omega, hf, cbT⟩) (by
    rw [hz, hd]
    unfold Itm
    simp (config := { decide := true }) only [if_true, if_false]
    exact it.any) (vs := T.vals ++ [nilV]) (by
    rw [hd, hidV_app, hidV2, hv1, hv2, List.append_nil]
    have e3 : t.stack.drop (f.base + (D.fn (gO m f)).nslots) = [topV m i 0] := by rw [e]; exact drop_app2 hA
    have hv := h.vv
    rw [e3] at hv
    rw [hv, hidV_congr (st := t.stack) (st' := st) (fun j hj => by
      have := (List.getElem?_eq_some_iff.1 hj).1
      exact hgA _ (by omega) (by omega) (by omega))]
    simp)
  have eM : ({ M.st { T with tasks := ⟨19, k.n, 0, k.e⟩ :: tl, vals := T.vals ++ [nilV] } with fuel := fu, envs := M.envs } : MD) = M.st { T with tasks := ⟨19, k.n, 0, k.e⟩ :: tl, vals := T.vals ++ [nilV] } := by rw [← W.fuel]; rfl
  rw [eM] at O
  refine PgZ.step W.done ?_
  rw [hM]
  by_cases h4 : (topV m i 0).t ≠ 4
  · rw [if_pos h4]
    obtain ⟨K', rt', rm'⟩ := L3.rt
    have Op3 : Op N root D S K' (mS m i t f fs st (f.pc + 1 + 1 + 1)) fu s (M.st { T with tasks := ⟨19, k.n, 0, k.e⟩ :: tl, vals := T.vals ++ [nilV] }) P i (tS t f fs st (f.pc + 1 + 1 + 1)) { T with tasks := ⟨19, k.n, 0, k.e⟩ :: tl, vals := T.vals ++ [nilV] } { f with pc := f.pc + 1 + 1 + 1 } fs { F with L := F.L ++ [[], []], lf := F.lf, seg := ⟨19, k.n, 0, k.e⟩ :: seg } := ⟨O, rt', rm'⟩
    have hp : plainP (mS m i t f fs st (f.pc + 1 + 1 + 1)) i 32 F.L.length = (.inl (.inl (strV mFor)), mS m i t f fs st (f.pc + 1 + 1 + 1)) := by
      unfold plainP forP
      rw [mS_topF h.il, mS_th h.il]
      simp (config := { decide := true }) only [if_true, if_false]
      rw [if_pos (by rw [hv1]; exact h4)]
      rfl
    have R := Op3.pthrT (V := T.vals) rfl (by show (19 : Nat) ≠ 3; decide) ha.head.2.head.2.head.2 (by decide) hp (by
      show F.low <+: T.vals
      rw [h.vv, List.append_assoc]
      exact List.prefix_append _ _)
    rw [st_st] at R
    exact PgZ.round r1 (PgZ.weak (PgZ.round r2 (PgZ.weak (PgZ.round r3 (PgZ.weak R)))))
  · rw [if_neg h4]
    refine PgZ.round r1 (PgZ.weak (PgZ.round r2 (PgZ.weak (PgZ.round r3 (PgZ.rel (P := P) O.rel h.cu rfl)))))
theorem Op.k19 (h : Op N root D S K m fu s M P i t T f fs F) (ht : T.tasks = k :: tl) (hk : k.k = 19) (hI : (M.topM 1).t = 4 ∧ (M.tabs.getD (M.topM 1).n tab0).next (M.topM 0) ≠ none) : PgZ N root D i M.stack s 1 m fu M := by
  have cb := h.cb ht
  unfold Cb at cb
  simp (config := { decide := true }) only [hk, if_true, if_false] at cb
  obtain ⟨ho, M0, t0, ex, s2, hL, he, fo, hpc, hf, cbT⟩ := cb
  have it := h.it ht
  unfold Itm at it
  simp (config := { decide := true }) only [hk, if_true, if_false] at it
  have h3 : k.k ≠ 3 := by omega
  have h33 := fo.h3
  have hex := fo.he
  have hns : M0.length + 4 ≤ (D.fn (gO m f)).nslots := fo.ns
  have ha : AtC (D.fn (gO m f)).code (t0 - 3) ((6, M0.length) :: (2, 0) :: (6, M0.length + 1) :: (32, M0.length) :: (22, ex) :: (s2 ++ [(29, M0.length + 2), (21, t0), (29, M0.length)])) := by
    have := fo.at_
    rw [List.append_assoc] at this
    exact this
  have ha := ha.head.2.head.2.head.2
  rw [show t0 - 3 + 1 + 1 + 1 = f.pc by omega] at ha
  have W := h.rel.w i
  have hlen := h.st0 ho
  have hFL : F.L.length = M0.length + 2 := by rw [hL]; simp
  have hd0 : t.stack.drop (f.base + (D.fn (gO m f)).nslots) = [] := List.drop_of_length_le (Nat.le_of_eq hlen)
  have hv : T.vals = (F.low ++ hidV t.stack f.base M0) ++ [t.stack.getD (f.base + M0.length) nilV, t.stack.getD (f.base + M0.length + 1) nilV] := by
    have hv := h.vv
    rw [hd0, hL, List.append_nil, hidV_app, hidV2] at hv
    rw [hv, List.append_assoc]
  have ht0 : T.vals.getD (T.vals.length - 1 - 0) nilV = t.stack.getD (f.base + M0.length + 1) nilV := by
    rw [hv]
    exact top2_0
  have ht1 : T.vals.getD (T.vals.length - 1 - 1) nilV = t.stack.getD (f.base + M0.length) nilV := by
    rw [hv]
    exact top2_1
  have hI : (t.stack.getD (f.base + M0.length) nilV).t = 4 ∧ (m.tabs.getD (t.stack.getD (f.base + M0.length) nilV).n tab0).next (t.stack.getD (f.base + M0.length + 1) nilV) ≠ none := by
    have e0 := st_top (M := M) (T := T) h.cl 1
    have e1 := st_top (M := M) (T := T) h.cl 0
    rw [h.self] at e0 e1
    rw [e0, e1, ht0, ht1, W.tabs] at hI
    exact hI
  have hM := h.step ht
  unfold stK at hM
  simp (config := { decide := true }) only [hk, if_true, if_false] at hM
  have etb : (M.st { T with tasks := tl }).tabs = m.tabs := W.tabs
  rw [st_top h.cl, st_top h.cl, st_up h.cl, st_todo h.cl, st_pops h.cl, st_th h.cl, etb] at hM
  simp only at hM
  rw [ht0, ht1] at hM
  generalize ha0 : t.stack.getD (f.base + M0.length) nilV = a0 at hI hM hv
  generalize ha1 : t.stack.getD (f.base + M0.length + 1) nilV = a1 at hI hM hv
  obtain ⟨kv, hkv⟩ : ∃ kv, (m.tabs.getD a0.n tab0).next a1 = some kv := by
    cases hq : (m.tabs.getD a0.n tab0).next a1 with
    | none => exact absurd hq hI.2
    | some kv => exact ⟨kv, rfl⟩
  rw [hkv] at hM
  simp only [Option.getD_some] at hM
  obtain ⟨r1, L1⟩ := h.ln.g32 ha (by rw [ha0]; exact hI.1) (kv := kv) (by rw [ha0, ha1]; exact hkv) fu
  rw [h.mS_self] at r1
  generalize hst : ((t.stack.set (f.base + M0.length + 1) kv.1).set (f.base + M0.length + 2) kv.1).set (f.base + M0.length + 3) kv.2 = st at r1 L1
  obtain ⟨r2, L2⟩ := L1.g22 ha.head.2 (by omega) fu
  rw [truthy_bool] at r2 L2
  have hl2 : st.length = f.base + (D.fn (gO m f)).nslots := by rw [← hst, List.length_set, List.length_set, List.length_set, hlen]
  have hgA : ∀ q, q ≠ f.base + M0.length + 1 → q ≠ f.base + M0.length + 2 → q ≠ f.base + M0.length + 3 → st.getD q nilV = t.stack.getD q nilV := fun q h1 h2 h3 => by
    rw [← hst, gd_set_ne (fun z => h3 z.symm), gd_set_ne (fun z => h2 z.symm), gd_set_ne (fun z => h1 z.symm)]
  have hw1 : st.getD (f.base + M0.length + 1) nilV = kv.1 := by rw [← hst, gd_set_ne (by omega), gd_set_ne (by omega), gset (by omega)]
  have hw2 : st.getD (f.base + M0.length + 2) nilV = kv.1 := by rw [← hst, gd_set_ne (by omega), gset (by rw [List.length_set]; omega)]
  have hw3 : st.getD (f.base + M0.length + 3) nilV = kv.2 := by rw [← hst, gset (by rw [List.length_set, List.length_set]; omega)]
  obtain ⟨seg, e1, e2⟩ := h.seg ht h3
  have hd : st.drop (f.base + (D.fn (gO m f)).nslots) = [] := List.drop_of_length_le (by rw [hl2]; exact Nat.le_refl _)
  have hz : st.length - (f.base + (D.fn (gO m f)).nslots) = 0 := by rw [hl2]; omega
  have hnm : ∀ {q : Nat}, (q < f.base ∨ ∃ j s', F.L[j]? = some s' ∧ s' ≠ [] ∧ q = f.base + j) → st.getD q nilV = t.stack.getD q nilV := fun {q} hq => by
    rcases hq with z | ⟨j, s', j1, j2, j3⟩
    · exact hgA q (by omega) (by omega) (by omega)
    · have hjl := (List.getElem?_eq_some_iff.1 j1).1
      have : j ≠ M0.length + 1 := fun z => by
        subst z
        rw [hL, List.getElem?_append_right (by omega), show M0.length + 1 - M0.length = 1 by omega] at j1
        exact j2 (Option.some.inj j1).symm
      exact hgA q (by omega) (by omega) (by omega)
  by_cases h0 : kv.1.t = 0
  · rw [if_pos h0] at hM
    simp only [h0, ne_eq, not_true_eq_false, decide_false, Bool.false_eq_true, if_false] at r1 r2 L2
    have dc := h.toOp0.dc (stk := st) (pc := ex) (by rw [hl2]; exact Nat.le_refl _) (fun q hq => hnm hq)
    rw [show F.L = (M0 ++ [[]]) ++ [[]] by rw [hL]; simp] at dc
    have dc := dc.unhid.unhid
    have R := h.dcl (fu' := fu) dc (fun q hq => hgA q (by omega) (by omega) (by omega)) (by rw [hl2]; exact Nat.le_refl _) (by omega) (ts := tl) (seg := seg) e1 e2 (by rw [hz]; exact cbT) (by rw [hz, hd]; exact it.any) (vs := T.vals.take (T.vals.length - 2)) (by
      rw [hd, hv, List.append_nil, take_sub (n := 2) rfl]
      congr 1
      exact (hidV_congr (fun j hj => by
        have := (List.getElem?_eq_some_iff.1 hj).1
        exact hgA _ (by omega) (by omega) (by omega))).symm)
    refine PgZ.step W.done ?_
    rw [hM]
    refine PgZ.round r1 (PgZ.weak (PgZ.round r2 (PgZ.rel (P := P) ?_ h.cu rfl)))
    have R := R.rel
    have eM : ({ M.st { T with tasks := tl, vals := T.vals.take (T.vals.length - 2) } with fuel := fu, envs := M.envs } : MD) = M.st { T with tasks := tl, vals := T.vals.take (T.vals.length - 2) } := by rw [← W.fuel]; rfl
    rw [eM] at R
    exact R
  · rw [if_neg h0] at hM
    simp only [h0, ne_eq, not_false_eq_true, decide_true, if_true] at r1 r2 L2
    have hM : M.step N root = { M.st { T with tasks := ⟨1, (N.getD k.n nd0).c, 0, some (M.envs.length + 1)⟩ :: ⟨20, k.n, 0, k.e⟩ :: tl, vals := T.vals.set (T.vals.length - 1) kv.1 } with envs := M.envs ++ [⟨(N.getD (N.getD k.n nd0).a nd0).s, kv.1, k.e⟩, ⟨(N.getD (N.getD (N.getD k.n nd0).a nd0).next nd0).s, kv.2, some M.envs.length⟩] } := hM
    have hs1 : (N.getD (N.getD k.n nd0).a nd0).s ≠ [] := fo.nm.1
    have hs2 : (N.getD (N.getD (N.getD k.n nd0).a nd0).next nd0).s ≠ [] := fo.nm.2
    have fo' : InS ⟨N, D, gO m f, F.r, M.envs ++ [⟨(N.getD (N.getD k.n nd0).a nd0).s, kv.1, k.e⟩, ⟨(N.getD (N.getD (N.getD k.n nd0).a nd0).next nd0).s, kv.2, some M.envs.length⟩], F.lc, F.low.length⟩ M0 k.n t0 ex s2 := fo.mono
    have hbl : BlkAt ⟨N, D, gO m f, F.r, M.envs ++ [⟨(N.getD (N.getD k.n nd0).a nd0).s, kv.1, k.e⟩, ⟨(N.getD (N.getD (N.getD k.n nd0).a nd0).next nd0).s, kv.2, some M.envs.length⟩], F.lc, F.low.length⟩ (N.getD k.n nd0).c (t0 + 2) (M0 ++ [[], [], (N.getD (N.getD k.n nd0).a nd0).s, (N.getD (N.getD (N.getD k.n nd0).a nd0).next nd0).s]) (M0 ++ [[], [], (N.getD (N.getD k.n nd0).a nd0).s, (N.getD (N.getD (N.getD k.n nd0).a nd0).next nd0).s]) true M0.length ex (t0 + 2 + s2.length) := fo'.b
    generalize hN1 : (N.getD (N.getD k.n nd0).a nd0).s = n1 at hs1 hM hbl fo'
    generalize hN2 : (N.getD (N.getD (N.getD k.n nd0).a nd0).next nd0).s = n2 at hs2 hM hbl fo'
    have dc1 := (h.toOp0.dc (stk := st) (pc := f.pc + 1 + 1) (by rw [hl2]; exact Nat.le_refl _) (fun q hq => hnm hq)).new hs1 (e := k.e) he.head h.fo.ret (by rw [hl2]; omega) (by rw [mS_th h.il]) (v := kv.1) (by
      rw [mS_th h.il, hFL]
      exact hw2.symm)
    have dc2 := dc1.new hs2 (e := some M.envs.length) (fun j hj => by cases hj; simp) h.fo.ret (by rw [hl2, List.length_append]; simp; omega) (by rw [mS_th h.il]) (v := kv.2) (by
      rw [mS_th h.il, List.length_append, hFL]
      exact hw3.symm)
    simp only [List.append_assoc, List.singleton_append, List.length_append, List.length_singleton] at dc2
    have hL' : F.L ++ [n1, n2] = M0 ++ [[], [], n1, n2] := by rw [hL]; simp
    rw [hL'] at dc2
    have EG : EGr M.envs (M.envs ++ [⟨n1, kv.1, k.e⟩, ⟨n2, kv.2, some M.envs.length⟩]) := EGr.app _ _
    have cbT' : Cb ⟨N, D, gO m f, F.r, M.envs ++ [⟨n1, kv.1, k.e⟩, ⟨n2, kv.2, some M.envs.length⟩], F.lc, F.low.length⟩ tl false ex 0 M0 F.lf := Cb.mono (fun l e g => EG.chn g) cbT
    have hdr : ((M.envs.length + 1) :: M.envs.length :: F.lf).drop ((nmL (M0 ++ [[], [], n1, n2])).length - (nmL M0).length) = F.lf := by
      rw [nmL_app, show ([[], [], n1, n2] : List Bs) = [[]] ++ ([[]] ++ ([n1] ++ [n2])) from rfl, nmL_app, nmL_app, nmL_app, nmL_nil, nmL_one hs1, nmL_one hs2]
      simp only [List.length_append, List.length_singleton, List.length_cons, List.length_nil]
      rw [show 0 + 1 + (0 + 1) + 0 + 0 + (nmL M0).length - (nmL M0).length = 2 by omega]
      rfl
    have R := h.dcl (fu' := fu) dc2 (fun q hq => hgA q (by omega) (by omega) (by omega)) (by rw [hl2]; exact Nat.le_refl _) (by simp; omega) (ts := ⟨1, (N.getD k.n nd0).c, 0, some (M.envs.length + 1)⟩ :: ⟨20, k.n, 0, k.e⟩ :: tl) (seg := ⟨1, (N.getD k.n nd0).c, 0, some (M.envs.length + 1)⟩ :: ⟨20, k.n, 0, k.e⟩ :: seg) (by rw [e1]; rfl) (fun x hx => by
      rcases List.mem_cons.1 hx with rfl | hx
      · show (1 : Nat) ≠ 3; decide
      · rcases List.mem_cons.1 hx with rfl | hx
        · show (20 : Nat) ≠ 3; decide
        · exact e2 x hx) (by
      rw [hz]
      refine Cb_blk ?_ ⟨_, true, M0.length, ex, t0 + 2 + s2.length, Sub0.refl _, ?_, .inl ?_, fun _ => ?_⟩
      · have z := chn_new (chn_new he n1 kv.1) n2 kv.2
        simp only [List.append_assoc, List.singleton_append, List.length_append, List.length_singleton] at z
        exact z
      · rw [show f.pc + 1 + 1 = t0 + 2 by omega]
        exact hbl
      · unfold Cb
        simp (config := { decide := true }) only [if_true, if_false]
        refine ⟨trivial, M0, t0, ex, s2, M.envs.length + 1, M.envs.length, F.lf, ?_, ?_, EG.chn he, fo', rfl, hf, cbT'⟩
        · show M0 ++ [[], [], n1, n2] = M0 ++ [[], [], (N.getD (N.getD k.n nd0).a nd0).s, (N.getD (N.getD (N.getD k.n nd0).a nd0).next nd0).s]
          rw [hN1, hN2]
        · show ((M.envs.length + 1) :: M.envs.length :: F.lf).drop _ = _
          rw [Nat.sub_self]
          rfl
      · unfold Cb
        simp (config := { decide := true }) only [if_true, if_false]
        exact Cb.brk hf cbT' (List.prefix_append _ _) hdr) (by
      rw [hz, hd]
      refine Itm_blk ?_
      unfold Itm
      simp (config := { decide := true }) only [if_true, if_false]
      exact it.any) (vs := T.vals.set (T.vals.length - 1) kv.1) (by
      rw [hd, List.append_nil, hv, hidV_app, show ([[], [], n1, n2] : List Bs) = [[], []] ++ [n1, n2] from rfl, hidV_app, hidV2, hidV_two hs1 hs2, List.append_nil, hw1, hgA (f.base + M0.length) (by omega) (by omega) (by omega), ha0]
      rw [hidV_congr (st := t.stack) (st' := st) (fun j hj => hgA _ (by have := (List.getElem?_eq_some_iff.1 hj).1; omega) (by have := (List.getElem?_eq_some_iff.1 hj).1; omega) (by have := (List.getElem?_eq_some_iff.1 hj).1; omega))]
      rw [show (F.low ++ hidV t.stack f.base M0 ++ [a0, a1]).length - 1 = (F.low ++ hidV t.stack f.base M0).length + 1 by simp; omega, List.set_append_right _ _ (by omega), show (F.low ++ hidV t.stack f.base M0).length + 1 - (F.low ++ hidV t.stack f.base M0).length = 1 by omega, List.append_assoc]
      rfl)
    refine PgZ.step W.done ?_
    rw [hM]
    refine PgZ.round r1 (PgZ.weak (PgZ.round r2 (PgZ.rel (P := P ++ [some (.inl (i, f.base + F.L.length)), some (.inl (i, f.base + (F.L.length + 1)))]) ?_ h.cu rfl)))
    have R := R.rel
    rw [← W.fuel] at R ⊢
    exact R
end
end Go.Proofs.Qxb6500574aGreatDoor
