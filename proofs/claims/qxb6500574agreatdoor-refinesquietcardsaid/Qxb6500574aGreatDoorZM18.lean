/-
  moon: ASSIGNMENTS; leaves. Plain; no memory, no walk.
-/
import Derived.Test.Qxb6500574aGreatDoorZM17
namespace Go.Proofs.Qxb6500574aGreatDoor
set_option linter.unusedVariables false
set_option linter.unusedSimpArgs false
section
variable {N : List Nd} {root : Nat} {D : CmD} {S : Nat → Nat → Ty → Prop} {K : Cx} {m m1 : VMD} {fu s fu' s' : Nat} {M M' : MD} {P P' : List (Option Lc)} {i c : Nat} {t t' : ThD} {T T' : MTh} {f f' : FmD} {fs : List FmD} {F F' : FrIZ} {k : TkD} {tl : List TkD}
/-- A VARIABLE IS WRITTEN: the top operand goes there -/
theorem Op.asg (h : Op N root D S K m fu s M P i t T f fs F) (ht : T.tasks = k :: tl) (h3 : k.k ≠ 3) {n y : Nat} {l : Lc} (hl : P[n]? = some (some l)) {v : Vl} (h1 : 1 ≤ oO D m t f)
    (hr : roundP fu m i = .inl (fu, wrL { m with ths := m.ths.set i { t with stack := t.stack.take (t.stack.length - 1) ++ [], frames := fs.reverse ++ [{ f with pc := y }] } } l v))
    (hM : M.step N root = { M.st { T with tasks := tl, vals := T.vals.take (T.vals.length - 1) } with envs := M.envs.set n { M.envs.getD n en0 with v := v } })
    (cb : Cb ⟨N, D, gO m f, F.r, M.envs, F.lc, F.low.length⟩ tl false y (oO D m t f - 1) F.L F.lf)
    (it : Itm (t.stack.drop (f.base + (D.fn (gO m f)).nslots)) tl (oO D m t f - 1) (oO D m t f - 1)) : PgZ N root D i M.stack s 1 m fu M := by
  refine PgZ.step (h.rel.w i).done ?_
  rw [hM]
  have W := h.rel.w i
  have hb : FrB (Zo N D m M P i t) f F (k :: tl) T.vals t.stack.length := by rw [← ht]; exact h.fo.toFrB
  obtain ⟨seg, e1, e2⟩ := hb.tail (ts := []) h3
  have R := (h.ops (fu' := fu) (s' := s) (tabs := m.tabs) (out := m.out) (ts := tl) (seg := seg) (vs := []) (pc := y) (k := 1) h1 e1 e2 cb (itm_new (vs := []) h.le h1 it)).rel
  have R2 := R.assign hl v
  refine PgZ.round hr (PgZ.rel (P := P) ?_ h.cu rfl)
  have eM : ({ ({ M.st { T with tasks := tl, vals := T.vals.take (T.vals.length - 1) ++ [] } with fuel := fu, first := s, tabs := m.tabs, out := m.out } : MD) with envs := M.envs.set n { M.envs.getD n en0 with v := v } } : MD) = { M.st { T with tasks := tl, vals := T.vals.take (T.vals.length - 1) } with envs := M.envs.set n { M.envs.getD n en0 with v := v } } := by
    rw [← W.fuel, ← W.first, ← W.tabs, ← W.out]
    simp [MD.st]
  have R3 : Rel N root D (wrL { m with ths := m.ths.set i { t with stack := t.stack.take (t.stack.length - 1) ++ [], frames := fs.reverse ++ [{ f with pc := y }] }, tabs := m.tabs, out := m.out } l v) fu s ({ ({ M.st { T with tasks := tl, vals := T.vals.take (T.vals.length - 1) ++ [] } with fuel := fu, first := s, tabs := m.tabs, out := m.out } : MD) with envs := M.envs.set n { M.envs.getD n en0 with v := v } } : MD) P := R2
  rw [eM] at R3
  exact R3
theorem Op.k9 (h : Op N root D S K m fu s M P i t T f fs F) (ht : T.tasks = k :: tl) (hk : k.k = 9) : PgZ N root D i M.stack s 1 m fu M := by
  have cb := h.cb ht
  unfold Cb at cb
  simp (config := { decide := true }) only [hk, if_true, if_false] at cb
  obtain ⟨c1, c2, c3, ins, c4, c5, c6⟩ := cb
  have it := h.it ht
  unfold Itm at it
  simp (config := { decide := true }) only [hk, if_true, if_false] at it
  have hM := h.step ht
  unfold stK at hM
  simp (config := { decide := true }) only [hk, if_true, if_false] at hM
  rw [h.top' (by omega), st_pops h.cl] at hM
  have W := h.rel.w i
  have h3 : k.k ≠ 3 := by omega
  have e0 : oO D m t f - 1 = 0 := by omega
  have cb0 : Cb ⟨N, D, gO m f, F.r, M.envs, F.lc, F.low.length⟩ tl false (f.pc + 1) (oO D m t f - 1) F.L F.lf := by rw [e0]; exact c6
  have it0 : Itm (t.stack.drop (f.base + (D.fn (gO m f)).nslots)) tl (oO D m t f - 1) (oO D m t f - 1) := by rw [e0]; exact it
  have hfd : (M.st { T with tasks := tl }).find k.e (N.getD k.n nd0).s = M.find k.e (N.getD k.n nd0).s := rfl
  rw [hfd] at hM
  have il := h.il
  rcases h.var c2 c3 c5 with ⟨j, n, rfl, v2, v3⟩ | ⟨j, n, rfl, v2, v3, v4⟩ | ⟨x, rfl, v2, v3⟩
  · rw [v2] at hM
    refine h.asg ht h3 v3 (v := topV m i 0) (by omega) ?_ hM cb0 it0
    have hp : plainP m i 6 j = (.inr (), m.setTh i { t with stack := (t.stack.take (t.stack.length - 1)).set (f.base + j) (topV m i 0) }) := by
      unfold plainP
      rw [h.rt.at_.topF, th_get h.hi]
      simp (config := { decide := true }) only [if_true, if_false]
    rw [h.rd c4 (by decide) hp (setTh_get h.hi) rfl, setTh_setTh]
    congr 1
    congr 1
    have hth : ({ m with ths := m.ths.set i { t with stack := t.stack.take (t.stack.length - 1) ++ [], frames := fs.reverse ++ [{ f with pc := f.pc + 1 }] } } : VMD).th i = { t with stack := t.stack.take (t.stack.length - 1) ++ [], frames := fs.reverse ++ [{ f with pc := f.pc + 1 }] } := by
      rw [th_set h.hi, if_pos rfl]
    show _ = VMD.setTh _ i _
    rw [hth]
    simp [VMD.setTh]
  · rw [v2] at hM
    obtain ⟨l, hl, hwr⟩ : ∃ l, P[n]? = some (some l) ∧ ∀ m' : VMD, m'.upix = m.upix → m'.clos = m.clos → m'.cells = m.cells → ∀ v, setUp m' f.clo j v = wrL m' l v := by
      rcases v3 with v3 | ⟨x, v3, v5, v6⟩
      · refine ⟨_, v3, fun m' u1 u2 u3 v => ?_⟩
        have := (W.vr.ce n _ v3).2
        unfold setUp
        rw [u1, u2, u3]
        dsimp only
        rw [if_neg (by omega)]
        show _ = { m' with cells := m'.cells.set _ _ }
        rw [u1, u2, u3]
      · refine ⟨_, v3, fun m' u1 u2 u3 v => ?_⟩
        unfold setUp
        rw [u1, u2, u3]
        dsimp only
        rw [if_pos (by omega), v5, v6]
        rfl
    refine h.asg ht h3 hl (v := topV m i 0) (by omega) ?_ hM cb0 it0
    have hp : plainP m i 8 j = (.inr (), wrL (pops m i 1) l (topV m i 0)) := by
      unfold plainP
      rw [h.rt.at_.topF]
      simp (config := { decide := true }) only [if_true, if_false]
      rw [hwr (pops m i 1) rfl rfl rfl]
    rw [h.np] at hp
    have hth : ({ m with ths := m.ths.set i { t with stack := t.stack.take (t.stack.length - 1) ++ [] } } : VMD).ths[i]? = some { t with stack := t.stack.take (t.stack.length - 1) ++ [] } := List.getElem?_set_self il
    cases l with
    | inr c =>
      rw [h.rd c4 (by decide) hp (t1 := { t with stack := t.stack.take (t.stack.length - 1) ++ [] }) hth rfl]
      simp [wrL, VMD.setTh]
    | inl x =>
      by_cases e : x.1 = i
      · have hp2 : plainP m i 8 j = (.inr (), m.setTh i { t with stack := (t.stack.take (t.stack.length - 1) ++ []).set x.2 (topV m i 0) }) := by
          rw [hp]
          congr 1
          show VMD.setTh _ x.1 _ = _
          rw [e, th_get hth]
          simp [VMD.setTh]
        rw [h.rd c4 (by decide) hp2 (setTh_get h.hi) rfl, setTh_setTh]
        congr 1
        congr 1
        show _ = VMD.setTh _ x.1 _
        rw [e, show ({ m with ths := m.ths.set i { t with stack := t.stack.take (t.stack.length - 1) ++ [], frames := fs.reverse ++ [{ f with pc := f.pc + 1 }] } } : VMD).th i = { t with stack := t.stack.take (t.stack.length - 1) ++ [], frames := fs.reverse ++ [{ f with pc := f.pc + 1 }] } by rw [th_set h.hi, if_pos rfl]]
        simp [VMD.setTh]
      · have hx : ({ m with ths := m.ths.set i { t with stack := t.stack.take (t.stack.length - 1) ++ [] } } : VMD).th x.1 = m.th x.1 := by rw [th_set h.hi, if_neg e]
        have hp2 : plainP m i 8 j = (.inr (), { m with ths := (m.ths.set i { t with stack := t.stack.take (t.stack.length - 1) ++ [] }).set x.1 { m.th x.1 with stack := (m.th x.1).stack.set x.2 (topV m i 0) } }) := by
          rw [hp]
          congr 1
          show VMD.setTh _ x.1 _ = _
          rw [hx]
          rfl
        rw [h.rd c4 (by decide) hp2 (t1 := { t with stack := t.stack.take (t.stack.length - 1) ++ [] }) (by
          show ((m.ths.set i _).set x.1 _)[i]? = _
          rw [List.getElem?_set_ne e]
          exact List.getElem?_set_self il) rfl]
        congr 1
        congr 1
        show _ = VMD.setTh _ x.1 _
        rw [show ({ m with ths := m.ths.set i { t with stack := t.stack.take (t.stack.length - 1) ++ [], frames := fs.reverse ++ [{ f with pc := f.pc + 1 }] } } : VMD).th x.1 = m.th x.1 by rw [th_set h.hi, if_neg e]]
        show VMD.mk _ _ _ _ _ _ _ (((m.ths.set i _).set x.1 _).set i _) _ _ = VMD.mk _ _ _ _ _ _ _ ((m.ths.set i _).set x.1 _) _ _
        congr 1
        rw [List.set_comm _ _ (fun z => e z.symm), List.set_set]
        exact List.set_comm _ _ e
  · rw [v3] at hM
    have hp : plainP m i 10 x = storeP (pops m i 1) 0 (strV (N.getD k.n nd0).s) (topV m i 0) := by
      unfold plainP
      rw [h.rt.at_.topF]
      simp (config := { decide := true }) only [if_true, if_false]
      rw [h.cst v2]
    exact h.store ht h3 c4 (by decide) hp (by omega) hM cb0 it0
/-- A Qxb6500574aGreatDoor IS READ -/
theorem Op.rdv (h : Op N root D S K m fu s M P i t T f fs F) (ht : T.tasks = k :: tl) (h3 : k.k ≠ 3) {ins : In} {sn : Bs} (hs : sn ≠ []) (c2 : Chn M.envs (F.lf ++ F.lc) k.e) (c4 : AtC (D.fn (gO m f)).code f.pc [ins]) (hv : VarR D (gO m f) F.L F.r sn 5 7 9 ins)
    (hM : M.step N root = match M.find k.e sn with
      | some n => M.st { T with tasks := tl, vals := T.vals ++ [(M.envs.getD n en0).v] }
      | none => M.st { T with tasks := tl, vals := T.vals ++ [(M.tabs.getD 0 tab0).get (strV sn)] })
    (cb : Cb ⟨N, D, gO m f, F.r, M.envs, F.lc, F.low.length⟩ tl false (f.pc + 1) (oO D m t f + 1) F.L F.lf)
    (it : Itm (t.stack.drop (f.base + (D.fn (gO m f)).nslots)) tl (oO D m t f + 1) (oO D m t f)) : PgZ N root D i M.stack s 1 m fu M := by
  have W := h.rel.w i
  rcases h.var c2 hs hv with ⟨j, n, rfl, v2, v3⟩ | ⟨j, n, rfl, v2, v3, v4⟩ | ⟨x, rfl, v2, v3⟩
  · rw [v2] at hM
    refine h.lf1 ht h3 c4 (by decide) ?_ hM cb it
    unfold plainP
    rw [h.rt.at_.topF, th_get h.hi]
    simp (config := { decide := true }) only [if_true, if_false]
    have := W.vr.val n _ v3
    rw [this]
    show _ = (Sum.inr (), push m i [(m.th i).stack.getD (f.base + j) nilV])
    rw [th_get h.hi]
  · rw [v2] at hM
    refine h.lf1 ht h3 c4 (by decide) ?_ hM cb it
    unfold plainP
    rw [h.rt.at_.topF]
    simp (config := { decide := true }) only [if_true, if_false]
    rw [W.vr.up v3]
    rfl
  · rw [v3] at hM
    refine h.lf1 ht h3 c4 (by decide) ?_ hM cb it
    unfold plainP
    rw [h.rt.at_.topF]
    simp (config := { decide := true }) only [if_true, if_false]
    rw [h.cst v2, W.tabs]
end
end Go.Proofs.Qxb6500574aGreatDoor
