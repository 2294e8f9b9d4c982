/-
  moon: A CALL. Plain; no memory, no walk.
-/
import Derived.Test.Qxb6500574aGreatDoorZM40
namespace Go.Proofs.Qxb6500574aGreatDoor
set_option linter.unusedVariables false
set_option linter.unusedSimpArgs false
section
variable {N : List Nd} {root : Nat} {D : CmD} {S : Nat → Nat → Ty → Prop} {K : Cx} {m m1 : VMD} {fu s fu' s' : Nat} {M M' : MD} {P P' : List (Option Lc)} {i c : Nat} {t t' : ThD} {T T' : MTh} {f f' : FmD} {fs : List FmD} {F F' : FrIZ} {k : TkD} {tl : List TkD} {stk A : List Vl} {pc x : Nat} {v w : Vl} {seg : List TkD}
theorem CalS.two0 (h : CalS N root D S K m fu s M P i t T f fs F tl seg x) {a b : Vl} (hc : callP m i x = (.inr ev0, push (cut (mS m i t f fs t.stack (f.pc + 1)) i (t.stack.length - x - 1)) i [a, b])) : PgZ N root D i M.stack s 1 m fu ((cM M T tl x fu).push [a, b]) := by
  have R := h.two (out := m.out) hc
  have W := h.rel.w i
  have e : ({ cM M T tl x fu with out := m.out } : MD) = cM M T tl x fu := by rw [← W.out]; rfl
  rw [e] at R
  exact R
theorem CalS.stj (h : CalS N root D S K m fu s M P i t T f fs F tl seg x) {j : Nat} (hj : j < m.ths.length) : ((cM M T tl x fu).ths.getD j mt0).st = ((mS m i t f fs t.stack (f.pc + 1)).th j).st := by
  have W := h.rel.w i
  rw [show (mS m i t f fs t.stack (f.pc + 1)).th j = if j = i then tS t f fs t.stack (f.pc + 1) else m.th j from th_set h.hi]
  show ((M.ths.set M.cur (cTZ T tl x)).getD j mt0).st = _
  rw [h.cu]
  by_cases e : j = i
  · subst e
    rw [if_pos rfl, gset (by rw [W.tl]; exact h.il)]
    show T.st = t.st
    rw [h.tst, h.st4]
  · rw [if_neg e, List.getD_eq_getElem?_getD, List.getElem?_set_ne (fun z => e z.symm)]
    obtain ⟨Tj, z1, z2⟩ := h.rel.th j _ (List.getElem?_eq_getElem hj)
    rw [z1, th_get (List.getElem?_eq_getElem hj)]
    exact z2.st
/-- create -/
theorem CalS.new (h : CalS N root D S K m fu s M P i t T f fs F tl seg x) {fn : Nat} {a b : Vl} (hc : callP m i x = (.inr ev0, push (cut (Go.Proofs.Qxb6500574aGreatDoor.spawn (mS m i t f fs t.stack (f.pc + 1)) fn) i (t.stack.length - x - 1)) i [a, b])) : PgZ N root D i M.stack s 1 m fu (({ cM M T tl x fu with ths := (cM M T tl x fu).ths ++ [⟨1, fn, 0, [], []⟩] } : MD).push [a, b]) := by
  have W := h.rel.w i
  have hr := h.go hc
  have hi2 : (Go.Proofs.Qxb6500574aGreatDoor.spawn (mS m i t f fs t.stack (f.pc + 1)) fn).ths[i]? = some (tS t f fs t.stack (f.pc + 1)) := by
    show (m.ths.set i _ ++ [_])[i]? = _
    rw [List.getElem?_append_left (by rw [List.length_set]; exact h.il), List.getElem?_set_self h.il]
  rw [cut_is hi2, push_is (setTh_get hi2), setTh_setTh] at hr
  have O := h.ops (fu' := fu - 1) (s' := s) (tabs := m.tabs) (out := m.out) (ts := tl) (seg := seg) (vs := [a, b]) (pc := f.pc + 1) (k := x + 1) h.c1 h.e1 h.e2 h.c3 (itm_new (vs := [a, b]) h.le h.c1 h.it)
  have R := O.rel.spawn fn
  have hr : roundP fu m i = .inl (fu - 1, Go.Proofs.Qxb6500574aGreatDoor.spawn { m with ths := m.ths.set i { t with stack := t.stack.take (t.stack.length - (x + 1)) ++ [a, b], frames := fs.reverse ++ [{ f with pc := f.pc + 1 }] }, tabs := m.tabs, out := m.out } fn) := by
    rw [hr, show t.stack.length - x - 1 = t.stack.length - (x + 1) by omega]
    have : (m.ths.set i (tS t f fs t.stack (f.pc + 1)) ++ [(⟨1, fn, [], [], []⟩ : ThD)]).set i { tS t f fs t.stack (f.pc + 1) with stack := t.stack.take (t.stack.length - (x + 1)) ++ [a, b] } = m.ths.set i { tS t f fs t.stack (f.pc + 1) with stack := t.stack.take (t.stack.length - (x + 1)) ++ [a, b] } ++ [⟨1, fn, [], [], []⟩] := by
      rw [List.set_append_left _ _ (by rw [List.length_set]; exact h.il), List.set_set]
    show Sum.inl (fu - 1, ({ m with ths := (m.ths.set i (tS t f fs t.stack (f.pc + 1)) ++ [(⟨1, fn, [], [], []⟩ : ThD)]).set i { tS t f fs t.stack (f.pc + 1) with stack := t.stack.take (t.stack.length - (x + 1)) ++ [a, b] } } : VMD)) = _
    rw [this]
    rfl
  have eM : (({ cM M T tl x fu with ths := (cM M T tl x fu).ths ++ [⟨1, fn, 0, [], []⟩] } : MD).push [a, b]) = { ({ M.st { T with tasks := tl, vals := T.vals.take (T.vals.length - (x + 1)) ++ [a, b] } with fuel := fu - 1, first := s, tabs := m.tabs, out := m.out } : MD) with ths := (M.st { T with tasks := tl, vals := T.vals.take (T.vals.length - (x + 1)) ++ [a, b] }).ths ++ [⟨1, fn, 0, [], []⟩] } := by
    have hc : M.cur < M.ths.length := h.cl
    unfold MD.push MD.upT MD.th
    have e1 : (M.ths.set M.cur (cTZ T tl x) ++ [(⟨1, fn, 0, [], []⟩ : MTh)]).getD M.cur mt0 = cTZ T tl x := by
      rw [List.getD_eq_getElem?_getD, List.getElem?_append_left (by rw [List.length_set]; exact hc), List.getElem?_set_self hc]
      rfl
    have e2 : ∀ Y : MTh, (M.ths.set M.cur (cTZ T tl x) ++ [(⟨1, fn, 0, [], []⟩ : MTh)]).set M.cur Y = M.ths.set M.cur Y ++ [⟨1, fn, 0, [], []⟩] := fun Y => by
      rw [List.set_append_left _ _ (by rw [List.length_set]; exact hc), List.set_set]
    show MD.mk _ _ _ ((M.ths.set M.cur (cTZ T tl x) ++ [(⟨1, fn, 0, [], []⟩ : MTh)]).set M.cur { (M.ths.set M.cur (cTZ T tl x) ++ [(⟨1, fn, 0, [], []⟩ : MTh)]).getD M.cur mt0 with vals := ((M.ths.set M.cur (cTZ T tl x) ++ [(⟨1, fn, 0, [], []⟩ : MTh)]).getD M.cur mt0).vals ++ [a, b] }) _ _ _ _ _ _ = _
    rw [e1, e2, ← W.first, ← W.tabs, ← W.out]
    rfl
  rw [eM]
  exact PgZ.round hr (PgZ.rel R h.cu rfl)
/-- what a call comes to -/
theorem Op.callU (h : Op N root D S K m fu s M P i t T f fs F) {x : Nat} (c1 : x + 1 ≤ oO D m t f) {fn : Vl} {args : List Vl} (hf : t.stack.getD (t.stack.length - x - 1) nilV = fn) (ha : t.stack.drop (t.stack.length - x) = args) {m1 : VMD} (hm : mS m i t f fs t.stack (f.pc + 1) = m1) : callP m i x =
    if fn.t = 5 then
      if fs.length + 1 ≥ 8 then thrR mDepth m1 else (.inr ev0, enter m1 i fn.n args (t.stack.length - x - 1) false)
    else if fn.t ≠ 6 then thrR mCall m1
    else if fn.n = 6 then
      if (args.getD 0 nilV).t = 5 ∧ fs.length + 1 < 8 then (.inr ev0, enter m1 i (args.getD 0 nilV).n [args.getD 1 nilV] (t.stack.length - x - 1) true)
      else (.inr ev0, push (cut m1 i (t.stack.length - x - 1)) i [boolV false, strV (if (args.getD 0 nilV).t = 5 then mDepth else mCall)])
    else if fn.n = 9 then
      if (args.getD 0 nilV).t ≠ 7 then thrR mCo m1
      else if (m1.th (args.getD 0 nilV).n).st = 1 ∨ (m1.th (args.getD 0 nilV).n).st = 2 then (.inr ⟨4, (args.getD 0 nilV).n, 0, args.getD 1 nilV, nilV⟩, m1.setTh i { tS t f fs t.stack (f.pc + 1) with st := 3, stack := t.stack.take (t.stack.length - x - 1) })
        else (.inr ev0, push (cut m1 i (t.stack.length - x - 1)) i [boolV false, strV (statusN (m1.th (args.getD 0 nilV).n).st)])
    else if fn.n = 10 then
      if i = 0 then thrR mYield m1
      else (.inr ⟨3, 0, 0, args.getD 0 nilV, nilV⟩, m1.setTh i { tS t f fs t.stack (f.pc + 1) with st := 2, stack := t.stack.take (t.stack.length - x - 1) })
    else match builtinP m1 fn.n (args.getD 0 nilV) (args.getD 1 nilV) with
      | (.inl fl, m2) => (.inl fl, m2)
      | (.inr r, m2) => (.inr ev0, push (cut m2 i (t.stack.length - x - 1)) i [r.1, r.2]) := by
  have hle := h.le
  have ho : oO D m t f = t.stack.length - (f.base + (D.fn (gO m f)).nslots) := rfl
  have es : setPc m i ((topF m i).pc + 1) = m1 := by
    rw [← hm, h.rt.at_.topF, setPc_nf h.hi h.fr]
    rfl
  have et : m1.th i = tS t f fs t.stack (f.pc + 1) := by rw [← hm]; exact mS_th h.il
  unfold callP
  dsimp only
  rw [es, et]
  have hl : (fs.reverse ++ [{ f with pc := f.pc + 1 }]).length = fs.length + 1 := by simp
  have hx : t.stack.length - x - 1 + 1 = t.stack.length - x := by omega
  show (if (t.stack.getD (t.stack.length - x - 1) nilV).t = 5 then if (fs.reverse ++ [{ f with pc := f.pc + 1 }]).length ≥ 8 then _ else _ else _) = _
  rw [hl]
  simp only [tS, hl, hx, hf, ha]
  rfl
/-- A CALL -/
theorem Op.k22 (h : Op N root D S K m fu s M P i t T f fs F) (ht : T.tasks = k :: tl) (hk : k.k = 22) : PgZ N root D i M.stack s 1 m fu M := by
  have cb := h.cb ht
  unfold Cb at cb
  simp (config := { decide := true }) only [hk, if_true, if_false] at cb
  obtain ⟨c1, c2, c3⟩ := cb
  have it := h.it ht
  unfold Itm at it
  simp (config := { decide := true }) only [hk, if_true, if_false] at it
  rw [Nat.min_eq_right (by omega)] at it
  have h3 : k.k ≠ 3 := by omega
  have W := h.rel.w i
  have V := h.rt.at_.vi
  have hM := h.step ht
  unfold stK at hM
  simp (config := { decide := true }) only [hk, if_true, if_false] at hM
  rw [apply_is h.cl] at hM
  obtain ⟨seg, e1, e2⟩ := h.seg ht h3
  have ins : instrP m i = (true, callP m i k.x) := by
    rw [h.rt.dis (h.at_ c2)]
    unfold disP
    simp (config := { decide := true }) only [if_true, if_false]
  refine PgZ.step W.done ?_
  rw [hM, W.fuel]
  by_cases fu0 : fu = 0
  · rw [if_pos fu0]
    refine PgZ.trap (e := 9) (fu' := fu) (m1 := m) ?_ ?_
    · unfold roundP
      rw [ins]
      simp only [fu0, and_self, if_true]
      rfl
    · show some (AnD.mk 9 M.fuel M.first M.out [45]) = _
      rw [W.fuel, W.first, W.out]
  rw [if_neg fu0]
  have C : CalS N root D S K m fu s M P i t T f fs F tl seg k.x := ⟨h, c1, c3, it, e1, e2, fu0, ins, k, ht, hk⟩
  simp only
  rw [h.getV c1, h.dropV (by omega)]
  show PgZ N root D i M.stack s 1 m fu (aplC N root (cM M T tl k.x fu) _ _)
  generalize hfn : t.stack.getD (t.stack.length - k.x - 1) nilV = fn
  generalize hag : t.stack.drop (t.stack.length - k.x) = args
  generalize hm1 : mS m i t f fs t.stack (f.pc + 1) = m1
  have U := h.callU c1 hfn hag hm1
  have vfn : VOk K fn := by rw [← hfn]; exact h.vok _
  have varg : ∀ j, VOk K (args.getD j nilV) := fun j => by
    rw [← hag, List.getD_eq_getElem?_getD, List.getElem?_drop, ← List.getD_eq_getElem?_getD]
    exact h.vok _
  have v0 := varg 0
  generalize ha0 : args.getD 0 nilV = a0 at U v0
  generalize ha1 : args.getD 1 nilV = a1 at U
  have hdp : (cM M T tl k.x fu).th.depth = fs.length + 1 := by
    have e := st_th (M := { M with fuel := fu - 1 }) (T := cTZ T tl k.x) h.cl
    rw [e]
    exact h.tdp
  have hout : (cM M T tl k.x fu).out = m.out := W.out
  have htab : (cM M T tl k.x fu).tabs = m.tabs := W.tabs
  have hthl : (cM M T tl k.x fu).ths.length = m.ths.length := by
    show (M.ths.set M.cur _).length = _
    rw [List.length_set, W.tl]
  have hcur : (cM M T tl k.x fu).cur = i := h.cu
  have hm1o : m1.out = m.out := by rw [← hm1]
  have hm1t : m1.tabs = m.tabs := by rw [← hm1]
  have hm1l : m1.ths.length = m.ths.length := by rw [← hm1]; simp
  unfold aplC
  dsimp only
  rw [ha0, ha1]
  by_cases f5 : fn.t = 5
  · rw [if_pos f5] at U ⊢
    by_cases d8 : fs.length + 1 ≥ 8
    · rw [if_pos d8] at U
      rw [if_pos (by rw [hdp]; exact d8)]
      exact C.thr (by rw [U, hm1]; rfl)
    · rw [if_neg d8] at U
      rw [if_neg (by rw [hdp]; exact d8)]
      exact C.ent (prot := false) (by rw [V.kc]; exact vfn.c f5) (by rw [U, hm1])
  rw [if_neg f5] at U ⊢
  by_cases f6 : fn.t ≠ 6
  · rw [if_pos f6] at U ⊢
    exact C.thr (by rw [U, hm1]; rfl)
  rw [if_neg f6] at U ⊢
  have f6 : fn.t = 6 := Classical.byContradiction f6
  have hn : 1 ≤ fn.n ∧ fn.n ≤ 11 := by
    have q := vfn.w
    unfold wellV at q
    rw [if_neg (by omega)] at q
    split at q
    · cases q
    · rw [if_neg (by omega), if_neg (by omega)] at q
      first
        | (rw [if_pos f6] at q; simpa using q)
        | simpa using q
  by_cases n6 : fn.n = 6
  · rw [if_pos n6] at U
    rw [if_neg (by omega), if_neg (by omega), if_neg (by omega), if_neg (by omega), if_neg (by omega), if_pos n6]
    by_cases a5 : a0.t ≠ 5
    · rw [if_pos a5]
      rw [if_neg (by omega), if_neg a5] at U
      exact C.two0 (by rw [U, hm1]; try rfl)
    · rw [if_neg a5]
      have a5 : a0.t = 5 := Classical.byContradiction a5
      by_cases d8 : fs.length + 1 ≥ 8
      · rw [if_pos (by rw [hdp]; exact d8)]
        rw [if_neg (by omega), if_pos a5] at U
        exact C.two0 (by rw [U, hm1]; try rfl)
      · rw [if_neg (by rw [hdp]; exact d8)]
        rw [if_pos ⟨a5, by omega⟩] at U
        exact C.ent (prot := true) (by rw [V.kc]; exact v0.c a5) (by rw [U, hm1])
  rw [if_neg n6] at U
  by_cases n9 : fn.n = 9
  · rw [if_pos n9] at U
    rw [if_neg (by omega), if_neg (by omega), if_neg (by omega), if_neg (by omega), if_neg (by omega), if_neg (by omega), if_neg (by omega), if_neg (by omega), if_pos n9]
    by_cases a7 : a0.t ≠ 7
    · rw [if_pos a7] at U ⊢
      exact C.thr (by rw [U, hm1]; rfl)
    · rw [if_neg a7] at U ⊢
      have a7 : a0.t = 7 := Classical.byContradiction a7
      have hjl : a0.n < m.ths.length := by rw [V.kh]; exact v0.h a7
      have hst := C.stj hjl
      rw [hm1] at hst
      by_cases z : (m1.th a0.n).st = 1 ∨ (m1.th a0.n).st = 2
      · rw [if_pos z] at U
        rw [if_neg (by rw [hst]; omega)]
        have hne : a0.n ≠ i := fun e => by
          rw [e, ← hm1, mS_th h.il] at z
          have z : t.st = 1 ∨ t.st = 2 := z
          have := h.st4
          omega
        have hsj : m1.th a0.n = m.th a0.n := by
          rw [← hm1]
          exact (th_set h.hi).trans (if_neg hne)
        rw [hsj] at z
        have q := C.res (j := a0.n) (a := a1) hjl z (by
          rw [U, ← hm1, show t.stack.length - k.x - 1 = t.stack.length - (k.x + 1) by omega]
          simp [VMD.setTh, mS, tS])
        exact q
      · rw [if_neg z] at U
        rw [if_pos (by rw [hst]; omega), hst]
        exact C.two0 (by rw [U, hm1]; try rfl)
  rw [if_neg n9] at U
  by_cases n10 : fn.n = 10
  · rw [if_pos n10] at U
    rw [if_neg (by omega), if_neg (by omega), if_neg (by omega), if_neg (by omega), if_neg (by omega), if_neg (by omega), if_neg (by omega), if_neg (by omega), if_neg (by omega), if_pos n10]
    by_cases i0 : i = 0
    · rw [if_pos i0] at U
      rw [if_pos (by rw [hcur]; exact i0)]
      exact C.thr (by rw [U, hm1]; rfl)
    · rw [if_neg i0] at U
      rw [if_neg (by rw [hcur]; exact i0)]
      exact C.yld (a := a0) i0 (by
        rw [U, ← hm1, show t.stack.length - k.x - 1 = t.stack.length - (k.x + 1) by omega]
        simp [VMD.setTh, mS, tS])
  rw [if_neg n10] at U
  unfold builtinP at U
  by_cases n1 : fn.n = 1
  · rw [if_pos n1]
    rw [if_pos n1] at U
    dsimp only at U
    rw [hm1o] at U
    by_cases o2 : m.out.length + (textV a0).length + 1 > 200
    · rw [if_pos o2] at U
      rw [if_pos (by rw [hout]; exact o2)]
      exact C.trap (m1 := m1) (by rw [U]; rfl) hm1o
    · rw [if_neg o2] at U
      rw [if_neg (by rw [hout]; exact o2)]
      have q := C.two (out := m.out ++ textV a0 ++ [10]) (a := nilV) (b := nilV) (by rw [U, hm1])
      rw [← hout] at q
      exact q
  rw [if_neg n1] at U ⊢
  by_cases n2 : fn.n = 2
  · rw [if_pos n2] at U ⊢
    exact C.two0 (by rw [U, hm1]; try rfl)
  rw [if_neg n2] at U ⊢
  by_cases n3 : fn.n = 3
  · rw [if_pos n3] at U ⊢
    exact C.two0 (by rw [U, hm1]; try rfl)
  rw [if_neg n3] at U ⊢
  by_cases n4 : fn.n = 4
  · rw [if_pos n4] at U ⊢
    exact C.two0 (by rw [U, hm1]; try rfl)
  rw [if_neg n4] at U ⊢
  by_cases n5 : fn.n = 5
  · rw [if_pos n5] at U ⊢
    exact C.thr (by rw [U, hm1])
  rw [if_neg n5] at U ⊢
  rw [if_neg n6]
  by_cases n7 : fn.n = 7
  · rw [if_pos n7] at U ⊢
    by_cases a4 : a0.t ≠ 4
    · rw [if_pos a4] at U ⊢
      exact C.thr (by rw [U, hm1]; rfl)
    · rw [if_neg a4] at U ⊢
      rw [hm1t] at U
      rw [htab]
      cases hnx : (m.tabs.getD a0.n tab0).next a1 with
      | none =>
        rw [hnx] at U
        exact C.thr (by rw [U, hm1]; rfl)
      | some r =>
        rw [hnx] at U
        exact C.two0 (by rw [U, hm1]; try rfl)
  rw [if_neg n7] at U ⊢
  by_cases n8 : fn.n = 8
  · rw [if_pos n8] at U ⊢
    by_cases a5 : a0.t ≠ 5
    · rw [if_pos a5] at U ⊢
      exact C.thr (by rw [U, hm1]; rfl)
    · rw [if_neg a5] at U ⊢
      rw [hm1l] at U
      by_cases t5 : m.ths.length ≥ 5
      · rw [if_pos t5] at U
        rw [if_pos (by rw [hthl]; exact t5)]
        exact C.trap (m1 := m1) (by rw [U]; rfl) hm1o
      · rw [if_neg t5] at U
        rw [if_neg (by rw [hthl]; exact t5), hthl]
        exact C.new (by rw [U, hm1])
  rw [if_neg n8] at U ⊢
  rw [if_neg n9, if_neg n10]
  have n11 : fn.n = 11 := by omega
  rw [if_pos n11] at U ⊢
  by_cases a7 : a0.t ≠ 7
  · rw [if_pos a7] at U ⊢
    exact C.thr (by rw [U, hm1]; rfl)
  · rw [if_neg a7] at U ⊢
    have a7 : a0.t = 7 := Classical.byContradiction a7
    have hst := C.stj (by rw [V.kh]; exact v0.h a7)
    rw [hm1] at hst
    rw [hst]
    exact C.two0 (by rw [U, hm1]; try rfl)
end
end Go.Proofs.Qxb6500574aGreatDoor
