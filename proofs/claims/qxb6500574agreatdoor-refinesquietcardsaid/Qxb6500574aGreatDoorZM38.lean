/-
  moon: A THREAD SLEEPS, A THREAD IS BORN. Plain; no memory, no walk.
-/
import Derived.Test.Qxb6500574aGreatDoorZM37
namespace Go.Proofs.Qxb6500574aGreatDoor
set_option linter.unusedVariables false
set_option linter.unusedSimpArgs false
section
variable {N : List Nd} {root : Nat} {D : CmD} {S : Nat → Nat → Ty → Prop} {K : Cx} {m m1 : VMD} {fu s fu' s' : Nat} {M M' : MD} {P P' : List (Option Lc)} {i c : Nat} {t t' : ThD} {T T' : MTh} {f f' : FmD} {fs : List FmD} {F F' : FrIZ} {k : TkD} {tl : List TkD} {stk A : List Vl} {pc : Nat} {v w : Vl}
/-- n operands are gone; the thread may sleep -/
theorem Op.popG (h : Op N root D S K m fu s M P i t T f fs F) {n fu1 : Nat} (hn : n ≤ oO D m t f) {t2 : ThD} (ht2 : t.stack.take (t.stack.length - n) <+: t2.stack) (T2 : MTh) :
    RelW N root D { m with ths := m.ths.set i t2 } fu1 s { M.st T2 with fuel := fu1 } P i ∧ KpR (Zo N D m M P i t) (Zo N D { m with ths := m.ths.set i t2 } { M.st T2 with fuel := fu1 } P i t2) (t.stack.length - n) := by
  have fo := h.fo
  have hle := h.le
  have ho : oO D m t f = t.stack.length - (f.base + (D.fn (gO m f)).nslots) := rfl
  have hret := fo.ret
  have hL : F.L.length ≤ (D.fn (gO m f)).nslots := fo.ns
  have W := h.rel.w i
  obtain ⟨Y, hY⟩ := ht2
  have hlen : t.stack.length - n ≤ t2.stack.length := by rw [← hY, List.length_append, List.length_take]; omega
  have places : ∀ a q : Nat, P[a]? = some (some (.inl (i, q))) → q < f.base + (D.fn (gO m f)).nslots := fun a q hq => by
    rcases h.place hq with z | ⟨j, s, j1, j2, j3⟩
    · omega
    · have := (List.getElem?_eq_some_iff.1 j1).1
      omega
  have ce : ClM m { m with ths := m.ths.set i t2 } P P := ClM.same rfl rfl rfl
  have th : ∀ j, ({ m with ths := m.ths.set i t2 } : VMD).th j = if j = i then t2 else m.th j := fun j => th_set h.hi
  have gd : ∀ q, q < t.stack.length - n → t2.stack.getD q nilV = t.stack.getD q nilV := fun q hq => by
    rw [← hY, gd_app (by rw [List.length_take]; omega), gd_take hq]
  have MV : MvW N D m { m with ths := m.ths.set i t2 } M { M.st T2 with fuel := fu1 } P P i :=
    ⟨W.out, W.tabs, W.done, rfl, rfl, ⟨rfl, rfl, rfl, rfl, fun _ _ => rfl, Nat.le_refl _⟩, ⟨T2, by simp only [MD.st, h.cu]⟩, by simp, fun j u hj hu => by
      have hu : (m.ths.set i t2)[j]? = some u := hu
      rw [List.getElem?_set_ne (fun e => hj e.symm)] at hu
      exact ⟨u, hu, rfl, rfl, rfl, rfl, fun _ _ => rfl⟩, ce, EGr.refl _, List.prefix_refl _, W.cl, fun c h1 h2 => absurd h2 (by simp only; omega), W.vr.keep (fun a x hx => by
      rw [th]
      by_cases e : x.1 = i
      · rw [if_pos e, e, th_get h.hi]
        have hx' : P[a]? = some (some (.inl (i, x.2))) := by rw [← e]; exact hx
        have := places a x.2 hx'
        exact ⟨by omega, gd _ (by omega)⟩
      · rw [if_neg e]
        exact ⟨W.vr.st a x hx, rfl⟩) rfl, W.ac, fun _ _ _ _ => Iff.rfl⟩
  exact ⟨W.move h.cu MV (fu' := fu1) (s' := s) rfl W.first, ⟨rfl, rfl, rfl, ce, EGr.refl _, List.prefix_refl _, by show t.stack.length - n ≤ t.stack.length; omega, hlen, fun q hq _ => gd q hq, fun _ _ _ => Iff.rfl⟩⟩
/-- the frame that waits for two results -/
theorem Op.frC (h : Op N root D S K m fu s M P i t T f fs F) {x y : Nat} (c1 : x + 1 ≤ oO D m t f) (c3 : Cb ⟨N, D, gO m f, F.r, M.envs, F.lc, F.low.length⟩ tl false y (oO D m t f - (x + 1) + 2) F.L F.lf) (it : Itm (t.stack.drop (f.base + (D.fn (gO m f)).nslots)) tl (oO D m t f - (x + 1) + 2) (oO D m t f - (x + 1))) {seg : List TkD} (e1 : tl = seg ++ ⟨3, if f.prot then 1 else 0, F.low.length, none⟩ :: F.rest) (e2 : ∀ t ∈ seg, t.k ≠ 3) :
    FrsR (Zo N D m M P i t) ({ f with pc := y } :: fs) tl (T.vals.take (T.vals.length - (x + 1))) (t.stack.length - (x + 1)) 2 := by
  have fo := h.fo
  have hle := h.le
  have ho : oO D m t f = t.stack.length - (f.base + (D.fn (gO m f)).nslots) := rfl
  have hL : F.L.length ≤ (D.fn (gO m f)).nslots := fo.ns
  refine ⟨{ F with seg := seg }, ⟨⟨fo.ci, e1, e2, fo.ret, ?_, h.lowT c1, fun a q h1 h2 h3 => ?_⟩, ?_, ?_, fo.ns, fo.fe, fo.ll, ?_, fun a q h1 h2 h3 => ?_⟩, h.lo, h.bo⟩
  · show f.base + (D.fn (gO m f)).nslots ≤ t.stack.length - (x + 1)
    omega
  · exact fo.pl a q h1 h2 (by omega)
  · show Cb _ tl false y (t.stack.length - (x + 1) - (f.base + (D.fn (gO m f)).nslots) + 2) F.L F.lf
    rw [show t.stack.length - (x + 1) - (f.base + (D.fn (gO m f)).nslots) + 2 = oO D m t f - (x + 1) + 2 by omega]
    exact c3
  · show Itm ((t.stack.take (t.stack.length - (x + 1))).drop (f.base + (D.fn (gO m f)).nslots)) tl (t.stack.length - (x + 1) - (f.base + (D.fn (gO m f)).nslots) + 2) (t.stack.length - (x + 1) - (f.base + (D.fn (gO m f)).nslots))
    rw [show t.stack.length - (x + 1) - (f.base + (D.fn (gO m f)).nslots) = oO D m t f - (x + 1) by omega]
    refine it.mono (Nat.le_refl _) fun q hq => ?_
    rw [List.getD_eq_getElem?_getD, List.getElem?_drop, List.getElem?_take_of_lt (by omega), List.getD_eq_getElem?_getD, List.getElem?_drop]
  · show T.vals.take (T.vals.length - (x + 1)) = F.low ++ hidV t.stack f.base F.L ++ (t.stack.take (t.stack.length - (x + 1))).drop (f.base + (D.fn (gO m f)).nslots)
    have hv := h.vv
    have := vals_take (V := T.vals) (A := F.low ++ hidV t.stack f.base F.L) (st := t.stack) (b := f.base + (D.fn (gO m f)).nslots) (k := x + 1) (by rw [List.take_length]; exact hv) hle (by omega) []
    rw [List.append_nil, List.append_nil, List.take_length] at this
    exact this
  · exact fo.pn a q h1 h2 (by omega)
/-- THE THREAD AT HAND SLEEPS (z: how) until two results come -/
theorem Op.sleep (h : Op N root D S K m fu s M P i t T f fs F) {x y fu1 z : Nat} (c1 : x + 1 ≤ oO D m t f) (c3 : Cb ⟨N, D, gO m f, F.r, M.envs, F.lc, F.low.length⟩ tl false y (oO D m t f - (x + 1) + 2) F.L F.lf) (it : Itm (t.stack.drop (f.base + (D.fn (gO m f)).nslots)) tl (oO D m t f - (x + 1) + 2) (oO D m t f - (x + 1))) {seg : List TkD} (e1 : tl = seg ++ ⟨3, if f.prot then 1 else 0, F.low.length, none⟩ :: F.rest) (e2 : ∀ t ∈ seg, t.k ≠ 3) (hz : z ≠ 4) :
    Rel N root D { m with ths := m.ths.set i { t with st := z, stack := t.stack.take (t.stack.length - (x + 1)), frames := fs.reverse ++ [{ f with pc := y }] } } fu1 s { M.st { T with st := z, tasks := tl, vals := T.vals.take (T.vals.length - (x + 1)) } with fuel := fu1 } P := by
  have FR := h.frC c1 c3 it e1 e2
  have hle := h.le
  have ho : oO D m t f = t.stack.length - (f.base + (D.fn (gO m f)).nslots) := rfl
  obtain ⟨W2, KP⟩ := h.popG (fu1 := fu1) c1 (t2 := { t with st := z, stack := t.stack.take (t.stack.length - (x + 1)), frames := fs.reverse ++ [{ f with pc := y }] }) (List.prefix_refl _) { T with st := z, tasks := tl, vals := T.vals.take (T.vals.length - (x + 1)) }
  refine W2.rel (List.getElem?_set_self h.il) (T := { T with st := z, tasks := tl, vals := T.vals.take (T.vals.length - (x + 1)) }) (by show (M.ths.set M.cur _)[i]? = _; rw [h.cu, List.getElem?_set_self (by rw [(h.rel.w i).tl]; exact h.il)]) ⟨rfl, h.tfn, by show T.depth = (fs.reverse ++ [_]).length; rw [h.tdp]; simp, ?_⟩
  show FrsR _ (fs.reverse ++ [{ f with pc := y }]).reverse tl (T.vals.take (T.vals.length - (x + 1))) (t.stack.take (t.stack.length - (x + 1))).length (if z = 4 then 0 else 2)
  rw [if_neg hz, List.reverse_append, List.reverse_reverse, List.length_take, Nat.min_eq_left (by omega)]
  exact FR.keep KP
/-- A NEW THREAD -/
theorem Rel.spawn (R : Rel N root D m fu s M P) (fn : Nat) : Rel N root D (Go.Proofs.Qxb6500574aGreatDoor.spawn m fn) fu s { M with ths := M.ths ++ [⟨1, fn, 0, [], []⟩] } P := by
  have W := R.w 0
  have cm : ClM m (Go.Proofs.Qxb6500574aGreatDoor.spawn m fn) P P := ClM.same rfl rfl rfl
  have thl : ∀ j, j < m.ths.length → (Go.Proofs.Qxb6500574aGreatDoor.spawn m fn).th j = m.th j := fun j hj => by
    show (m.ths ++ [_]).getD j th0 = m.ths.getD j th0
    rw [List.getD_eq_getElem?_getD, List.getElem?_append_left hj, ← List.getD_eq_getElem?_getD]
  refine ⟨fun a => ⟨W.fuel, W.first, W.out, W.tabs, W.done, W.tx.keep ⟨rfl, rfl, rfl, rfl, fun _ _ => rfl, Nat.le_refl _⟩, by show (M.ths ++ [_]).length = (m.ths ++ [_]).length; rw [List.length_append, List.length_append, W.tl]; rfl, W.vr.keep (fun n x hx => ?_) rfl, W.ac, W.cl, fun c hc => ?_, W.nd, W.la, fun c hc => ?_, fun j u _ hu => ?_⟩⟩
  · have h1 := W.vr.st n x hx
    have hl : x.1 < m.ths.length := by
      refine Nat.lt_of_not_le fun z => ?_
      unfold VMD.th at h1
      rw [List.getD_eq_getElem?_getD, List.getElem?_eq_none z] at h1
      simp [th0] at h1
    rw [thl _ hl]
    exact ⟨h1, rfl⟩
  · obtain ⟨n, r, lc, z⟩ := W.ci c hc
    exact ⟨n, r, lc, z.keep cm (EGr.refl _) (List.prefix_refl _)⟩
  · obtain ⟨w1, w2⟩ := W.wt c hc
    exact ⟨by rw [thl _ w2]; exact w1, by show c < (m.ths ++ [_]).length; rw [List.length_append]; omega⟩
  · have hu : (m.ths ++ [⟨1, fn, [], [], []⟩])[j]? = some u := hu
    by_cases hj : j < m.ths.length
    · rw [List.getElem?_append_left hj] at hu
      obtain ⟨T0, z1, z2⟩ := R.th j u hu
      exact ⟨T0, by show (M.ths ++ [_])[j]? = _; rw [List.getElem?_append_left (by rw [W.tl]; exact hj)]; exact z1, z2.keep ⟨rfl, rfl, rfl, cm, EGr.refl _, List.prefix_refl _, Nat.le_refl _, Nat.le_refl _, fun _ _ _ => rfl, fun _ _ _ => Iff.rfl⟩ rfl rfl rfl rfl⟩
    · have hj2 : j = m.ths.length := by
        have := (List.getElem?_eq_some_iff.1 hu).1
        simp at this
        omega
      subst hj2
      rw [List.getElem?_append_right (Nat.le_refl _), Nat.sub_self] at hu
      have hu : (⟨1, fn, [], [], []⟩ : ThD) = u := Option.some.inj hu
      subst hu
      exact ⟨⟨1, fn, 0, [], []⟩, by show (M.ths ++ [_])[m.ths.length]? = _; rw [← W.tl, List.getElem?_append_right (Nat.le_refl _), Nat.sub_self]; rfl, ⟨rfl, rfl, rfl, ⟨rfl, rfl⟩⟩⟩
/-- the arguments are the same -/
theorem Op.dropV (h : Op N root D S K m fu s M P i t T f fs F) {x : Nat} (hx : x ≤ oO D m t f) : T.vals.drop (T.vals.length - x) = t.stack.drop (t.stack.length - x) := by
  have hle := h.le
  have ho : oO D m t f = t.stack.length - (f.base + (D.fn (gO m f)).nslots) := rfl
  have hv := h.vv
  have hl := h.vlen
  rw [hl]
  rw [hv, List.drop_append, List.drop_of_length_le (by simp only [List.length_append, hidV_len]; omega), List.nil_append, List.drop_drop]
  congr 1
  simp only [List.length_append, hidV_len]
  omega
theorem Op.getV (h : Op N root D S K m fu s M P i t T f fs F) {x : Nat} (hx : x + 1 ≤ oO D m t f) : T.vals.getD (T.vals.length - x - 1) nilV = t.stack.getD (t.stack.length - x - 1) nilV := by
  have := h.top (n := x) (by omega)
  unfold topV at this
  rw [th_get h.hi] at this
  rw [show T.vals.length - x - 1 = T.vals.length - 1 - x by omega, show t.stack.length - x - 1 = t.stack.length - 1 - x by omega]
  exact this
end
end Go.Proofs.Qxb6500574aGreatDoor
