/-
  moon: CALLS: what they share; functions. Plain; no memory, no walk.
-/
import Derived.Test.Qxb6500574aGreatDoorZM38
namespace Go.Proofs.Qxb6500574aGreatDoor
set_option linter.unusedVariables false
set_option linter.unusedSimpArgs false
/-- a call behind its burn and its pops -/
def aplC (N : List Nd) (root : Nat) (m : MD) (fn : Vl) (args : List Vl) : MD :=
  let a := args.getD 0 nilV
  let b := args.getD 1 nilV
  if fn.t = 5 then (if m.th.depth ≥ 8 then m.raise mDepth else m.enter N root fn.n args 0)
  else if fn.t ≠ 6 then m.raise mCall
  else if fn.n = 1 then
    (if m.out.length + (textV a).length + 1 > 200 then m.finish 10 [45]
     else ({ m with out := m.out ++ textV a ++ [10] } : MD).push [nilV, nilV])
  else if fn.n = 2 then m.push [strV (textV a), nilV]
  else if fn.n = 3 then m.push [if a.t = 2 then a else if a.t = 3 then (match parseN a.s with | some x => numV x | none => nilV) else nilV, nilV]
  else if fn.n = 4 then m.push [strV (typeN a), nilV]
  else if fn.n = 5 then m.throw a
  else if fn.n = 6 then
    (if a.t ≠ 5 then m.push [boolV false, strV mCall]
     else if m.th.depth ≥ 8 then m.push [boolV false, strV mDepth]
     else m.enter N root a.n [b] 1)
  else if fn.n = 7 then
    (if a.t ≠ 4 then m.raise mNext
     else match (m.tabs.getD a.n tab0).next b with
       | none => m.raise mNext
       | some r => m.push [r.1, r.2])
  else if fn.n = 8 then
    (if a.t ≠ 5 then m.raise mCall
     else if m.ths.length ≥ 5 then m.finish 8 [45]
     else ({ m with ths := m.ths ++ [⟨1, a.n, 0, [], []⟩] } : MD).push [⟨7, m.ths.length, []⟩, nilV])
  else if fn.n = 9 then
    (if a.t ≠ 7 then m.raise mCo
     else
       let c := m.ths.getD a.n mt0
       if c.st ≠ 1 ∧ c.st ≠ 2 then m.push [boolV false, strV (statusN c.st)]
       else
         let m1 := m.upT fun t => { t with st := 3 }
         let m2 := ({ m1 with stack := m.cur :: m.stack, cur := a.n } : MD).upT fun t => { t with st := 4 }
         if c.st = 1 then ({ m2 with first := m.first + 1 } : MD).enter N root c.fn [b] 0 else m2.push [b, nilV])
  else if fn.n = 10 then
    (if m.cur = 0 then m.raise mYield
     else match m.stack with
       | [] => m
       | c :: r => (({ (m.upT fun t => { t with st := 2 }) with stack := r, cur := c } : MD).upT fun t => { t with st := 4 }).push [boolV true, a])
  else if fn.n = 11 then (if a.t ≠ 7 then m.raise mCo else m.push [strV (statusN (m.ths.getD a.n mt0).st), nilV])
  else m.push [nilV, nilV]
section
variable {N : List Nd} {root : Nat} {D : CmD} {S : Nat → Nat → Ty → Prop} {K : Cx} {m m1 : VMD} {fu s fu' s' : Nat} {M M' : MD} {P P' : List (Option Lc)} {i c : Nat} {t t' : ThD} {T T' : MTh} {f f' : FmD} {fs : List FmD} {F F' : FrIZ} {k : TkD} {tl : List TkD} {stk A : List Vl} {pc x : Nat} {v w : Vl}
theorem apply_is (h : M.cur < M.ths.length) (x : Nat) : (M.st T).apply N root x = if M.fuel = 0 then (M.st T).finish 9 [45] else aplC N root (({ M with fuel := M.fuel - 1 } : MD).st { T with vals := T.vals.take (T.vals.length - (x + 1)) }) (T.vals.getD (T.vals.length - x - 1) nilV) (T.vals.drop (T.vals.length - x)) := by
  unfold MD.apply MD.burn
  have e1 : ({ M.st T with fuel := (M.st T).fuel - 1 } : MD) = ({ M with fuel := M.fuel - 1 } : MD).st T := rfl
  have e2 : (M.st T).fuel = M.fuel := rfl
  rw [e2]
  by_cases hf : M.fuel = 0
  · rw [if_pos hf, if_pos hf]
  · rw [if_neg hf, if_neg hf, ← e2, e1]
    have e3 : (({ M with fuel := M.fuel - 1 } : MD).st T).th = T := st_th (M := { M with fuel := M.fuel - 1 }) h
    have e4 : (({ M with fuel := M.fuel - 1 } : MD).st T).pops (x + 1) = ({ M with fuel := M.fuel - 1 } : MD).st { T with vals := T.vals.take (T.vals.length - (x + 1)) } := st_pops (M := { M with fuel := M.fuel - 1 }) h _
    dsimp only
    rw [e3, e4]
    rfl
/-- a call, opened -/
structure CalS (N : List Nd) (root : Nat) (D : CmD) (S : Nat → Nat → Ty → Prop) (K : Cx) (m : VMD) (fu s : Nat) (M : MD) (P : List (Option Lc)) (i : Nat) (t : ThD) (T : MTh) (f : FmD) (fs : List FmD) (F : FrIZ) (tl seg : List TkD) (x : Nat) : Prop extends Op N root D S K m fu s M P i t T f fs F where
  c1 : x + 1 ≤ oO D m t f
  c3 : Cb ⟨N, D, gO m f, F.r, M.envs, F.lc, F.low.length⟩ tl false (f.pc + 1) (oO D m t f - (x + 1) + 2) F.L F.lf
  it : Itm (t.stack.drop (f.base + (D.fn (gO m f)).nslots)) tl (oO D m t f - (x + 1) + 2) (oO D m t f - (x + 1))
  e1 : tl = seg ++ ⟨3, if f.prot then 1 else 0, F.low.length, none⟩ :: F.rest
  e2 : ∀ t ∈ seg, t.k ≠ 3
  fu0 : fu ≠ 0
  ins : instrP m i = (true, callP m i x)
  hk : ∃ k : TkD, T.tasks = k :: tl ∧ k.k = 22
abbrev cTZ (T : MTh) (tl : List TkD) (x : Nat) : MTh := { T with tasks := tl, vals := T.vals.take (T.vals.length - (x + 1)) }
/-- the interpreter behind the pops of a call -/
abbrev cM (M : MD) (T : MTh) (tl : List TkD) (x fu : Nat) : MD := ({ M with fuel := fu - 1 } : MD).st (cTZ T tl x)
variable {seg : List TkD}
theorem CalS.thr (h : CalS N root D S K m fu s M P i t T f fs F tl seg x) {v : Vl} (hc : callP m i x = (.inl (.inl v), mS m i t f fs t.stack (f.pc + 1))) : PgZ N root D i M.stack s 1 m fu ((cM M T tl x fu).throw v) := by
  obtain ⟨k, ht, hk⟩ := h.hk
  have em : mS m i t f fs t.stack (f.pc + 1) = { m with ths := m.ths.set i { t with stack := t.stack.take (t.stack.length - 0), frames := fs.reverse ++ [{ f with pc := f.pc + 1 }] } } := by
    simp [mS, tS]
  rw [em] at hc
  have R := h.toOp.thr ht (by omega) (n := 0) (y := f.pc + 1) (fu1 := fu - 1) (v := v) (by rw [h.ins, hc]) (by
    unfold roundP
    rw [h.ins, hc]
    simp only [h.fu0, and_false, if_false, if_true]
    unfold thrD
    rfl) (Nat.zero_le _) (V := T.vals.take (T.vals.length - (x + 1))) (h.lowT h.c1)
  exact R
theorem CalS.trap (h : CalS N root D S K m fu s M P i t T f fs F tl seg x) {e : Nat} {m1 : VMD} (hc : callP m i x = (.inl (.inr e), m1)) (ho : m1.out = m.out) : PgZ N root D i M.stack s 1 m fu ((cM M T tl x fu).finish e [45]) := by
  have W := h.rel.w i
  refine PgZ.trap (e := e) (fu' := fu - 1) (m1 := m1) ?_ ?_
  · unfold roundP
    rw [h.ins, hc]
    simp only [h.fu0, and_false, if_false, if_true]
    rfl
  · show some (AnD.mk e (fu - 1) M.first M.out [45]) = _
    rw [W.first, W.out, ho]
theorem CalS.go (h : CalS N root D S K m fu s M P i t T f fs F tl seg x) {m1 : VMD} (hc : callP m i x = (.inr ev0, m1)) : roundP fu m i = .inl (fu - 1, m1) := by
  unfold roundP
  rw [h.ins, hc]
  simp only [h.fu0, and_false, if_false, if_true]
  rfl
theorem CalS.evt (h : CalS N root D S K m fu s M P i t T f fs F tl seg x) {ev : EvD} {m1 : VMD} (hc : callP m i x = (.inr ev, m1)) (hk : ev.k ≠ 0) : roundP fu m i = .inr (ev, fu - 1, m1) := by
  unfold roundP
  rw [h.ins, hc]
  simp only [h.fu0, and_false, if_false, if_true]
  rw [if_neg hk]
/-- two results at once -/
theorem CalS.two (h : CalS N root D S K m fu s M P i t T f fs F tl seg x) {a b : Vl} {out : Bs} (hc : callP m i x = (.inr ev0, push (cut { mS m i t f fs t.stack (f.pc + 1) with out := out } i (t.stack.length - x - 1)) i [a, b])) : PgZ N root D i M.stack s 1 m fu (({ cM M T tl x fu with out := out } : MD).push [a, b]) := by
  have W := h.rel.w i
  have hr := h.go hc
  have hi2 : ({ mS m i t f fs t.stack (f.pc + 1) with out := out } : VMD).ths[i]? = some (tS t f fs t.stack (f.pc + 1)) := List.getElem?_set_self h.il
  rw [cut_is hi2, push_is (setTh_get hi2), setTh_setTh] at hr
  have hr : roundP fu m i = .inl (fu - 1, { m with ths := m.ths.set i { t with stack := t.stack.take (t.stack.length - (x + 1)) ++ [a, b], frames := fs.reverse ++ [{ f with pc := f.pc + 1 }] }, tabs := m.tabs, out := out }) := by
    rw [hr, show t.stack.length - x - 1 = t.stack.length - (x + 1) by omega]
    simp [VMD.setTh, mS, tS]
  have O := h.ops (fu' := fu - 1) (s' := s) (tabs := m.tabs) (out := out) (ts := tl) (seg := seg) (vs := [a, b]) (pc := f.pc + 1) (k := x + 1) h.c1 h.e1 h.e2 h.c3 (itm_new (vs := [a, b]) h.le h.c1 h.it)
  refine PgZ.round hr (PgZ.rel (P := P) ?_ ?_ ?_)
  · have R := O.rel
    have eM : ({ M.st { T with tasks := tl, vals := T.vals.take (T.vals.length - (x + 1)) ++ [a, b] } with fuel := fu - 1, first := s, tabs := m.tabs, out := out } : MD) = (({ cM M T tl x fu with out := out } : MD).push [a, b]) := by
      have e := st_push (M := { M with fuel := fu - 1, out := out }) (T := cTZ T tl x) h.cl [a, b]
      refine Eq.trans ?_ e.symm
      rw [← W.first, ← W.tabs]
      rfl
    rw [eM] at R
    exact R
  · have e := st_push (M := { M with fuel := fu - 1, out := out }) (T := cTZ T tl x) h.cl [a, b]
    exact (congrArg MD.cur e).trans h.cu
  · have e := st_push (M := { M with fuel := fu - 1, out := out }) (T := cTZ T tl x) h.cl [a, b]
    have e2 := congrArg MD.stack e
    exact e2
/-- a function is called -/
theorem CalS.ent (h : CalS N root D S K m fu s M P i t T f fs F tl seg x) {c : Nat} {args : List Vl} {prot : Bool} (hcl : c < m.clos.length) (hc : callP m i x = (.inr ev0, enter (mS m i t f fs t.stack (f.pc + 1)) i c args (t.stack.length - x - 1) prot)) : PgZ N root D i M.stack s 1 m fu ((cM M T tl x fu).enter N root c args (if prot then 1 else 0)) := by
  have W := h.rel.w i
  have hle := h.le
  have ho : oO D m t f = t.stack.length - (f.base + (D.fn (gO m f)).nslots) := rfl
  have hc1 := h.c1
  have hr := h.go hc
  rw [show t.stack.length - x - 1 = t.stack.length - (x + 1) by omega, enter_is (mS_get h.il), mS_setTh] at hr
  have FR := h.frC h.c1 h.c3 h.it h.e1 h.e2
  obtain ⟨W2, KP⟩ := h.popG (fu1 := fu - 1) (n := x + 1) h.c1 (t2 := tS t f fs t.stack (f.pc + 1)) (List.take_prefix _ _) (cTZ T tl x)
  have hpl : (m.clos.getD c cl0).p < m.protos.length := by
    obtain ⟨q, p, k1, k2, _⟩ := h.rt.at_.vi.proto (c := c) (by rw [← h.rt.at_.vi.kc]; exact hcl)
    have eq : m.clos.getD c cl0 = q := by simp [k1]
    rw [eq]
    exact (List.getElem?_eq_some_iff.1 k2).1
  obtain ⟨E', e', P', b1, b2⟩ := W2.enter (c := c) (ret := t.stack.length - (x + 1)) (prot := prot) (args := args) (t := tS t f fs t.stack (f.pc + 1)) (T := cTZ T tl x) (ts := tl) (vs := T.vals.take (T.vals.length - (x + 1))) h.cu (List.getElem?_set_self h.il) (by show (M.ths.set M.cur _)[i]? = _; rw [h.cu, List.getElem?_set_self (by rw [W.tl]; exact h.il)]) h.tfn hcl hpl (by show t.stack.length - (x + 1) ≤ t.stack.length; omega) (by
    show FrsR _ (fs.reverse ++ [{ f with pc := f.pc + 1 }]).reverse _ _ _ _
    rw [List.reverse_append, List.reverse_reverse]
    exact FR.keep KP) (fun z => by simp at z) (fun n q hq => by
    rcases h.place hq with z | ⟨j, s', j1, _, j3⟩
    · omega
    · have := (List.getElem?_eq_some_iff.1 j1).1
      have hL : F.L.length ≤ (D.fn (gO m f)).nslots := h.fo.ns
      omega)
  have b1 : bindA N 4 (N.getD (M.clos.getD c (0, none)).1 nd0).a args M.envs (M.clos.getD c (0, none)).2 = (E', e') := b1
  have em : ({ ({ m with ths := m.ths.set i (tS t f fs t.stack (f.pc + 1)) } : VMD) with ths := ({ m with ths := m.ths.set i (tS t f fs t.stack (f.pc + 1)) } : VMD).ths.set i { tS t f fs t.stack (f.pc + 1) with st := 4, stack := (tS t f fs t.stack (f.pc + 1)).stack ++ (List.range (({ m with ths := m.ths.set i (tS t f fs t.stack (f.pc + 1)) } : VMD).proto c).ns).map (fun j => if j < (({ m with ths := m.ths.set i (tS t f fs t.stack (f.pc + 1)) } : VMD).proto c).np then args.getD j nilV else nilV), frames := (tS t f fs t.stack (f.pc + 1)).frames ++ [⟨c, 0, (tS t f fs t.stack (f.pc + 1)).stack.length, t.stack.length - (x + 1), prot⟩] } } : VMD) = m.setTh i { tS t f fs t.stack (f.pc + 1) with stack := (tS t f fs t.stack (f.pc + 1)).stack ++ (List.range ((mS m i t f fs t.stack (f.pc + 1)).proto c).ns).map (fun j => if j < ((mS m i t f fs t.stack (f.pc + 1)).proto c).np then args.getD j nilV else nilV), frames := (tS t f fs t.stack (f.pc + 1)).frames ++ [⟨c, 0, (tS t f fs t.stack (f.pc + 1)).stack.length, t.stack.length - (x + 1), prot⟩] } := by
    have h4 := h.st4
    simp only [VMD.setTh, List.set_set]
    congr 2
    show ThD.mk 4 _ _ _ _ = ThD.mk t.st _ _ _ _
    rw [h4]
  rw [em] at b2
  have eM : (cM M T tl x fu).enter N root c args (if prot then 1 else 0) = { ({ M.st (cTZ T tl x) with fuel := fu - 1 } : MD).st { cTZ T tl x with st := 4, depth := (tS t f fs t.stack (f.pc + 1)).frames.length + 1, tasks := ⟨1, if (M.clos.getD c (0, none)).1 = 0 then root else (N.getD (M.clos.getD c (0, none)).1 nd0).b, 0, e'⟩ :: ⟨3, if prot then 1 else 0, (T.vals.take (T.vals.length - (x + 1))).length, none⟩ :: tl, vals := T.vals.take (T.vals.length - (x + 1)) } with envs := E' } := by
    unfold MD.enter
    have e0 : (cM M T tl x fu).clos = M.clos := rfl
    have e00 : (cM M T tl x fu).envs = M.envs := rfl
    rw [e0, e00]
    dsimp only
    rw [b1]
    have e := st_up (M := { M with fuel := fu - 1 }) (T := cTZ T tl x) h.cl (fun t => { t with depth := t.depth + 1, tasks := ⟨1, if (M.clos.getD c (0, none)).1 = 0 then root else (N.getD (M.clos.getD c (0, none)).1 nd0).b, 0, e'⟩ :: ⟨3, if prot then 1 else 0, t.vals.length, none⟩ :: t.tasks })
    rw [e]
    have hd : T.depth = (fs.reverse ++ [{ f with pc := f.pc + 1 }]).length := by rw [h.tdp]; simp
    have hst := h.tst
    simp only [MD.st, List.set_set]
    rw [← hd, ← hst]
  rw [eM]
  refine PgZ.round hr (PgZ.rel (P := P') ?_ h.cu rfl)
  exact b2
end
end Go.Proofs.Qxb6500574aGreatDoor
