/-
  moon: A FUNCTION IS ENTERED. Plain; no memory, no walk.
-/
import Derived.Test.Qxb6500574aGreatDoorZM36
namespace Go.Proofs.Qxb6500574aGreatDoor
set_option linter.unusedVariables false
set_option linter.unusedSimpArgs false
/-- the body of closure c: its parameters, its code -/
structure BdI (N : List Nd) (D : CmD) (root n g : Nat) (r : En) (l : List Nat) (s1 : List In) : Prop where
  ch : Chain N (N.getD n nd0).a l
  le : l.length ≤ 4
  nm : ∀ x ∈ l, (N.getD x nd0).s ≠ []
  st : StCZ N (if n = 0 then root else (N.getD n nd0).b) false
  ly : Lay N D 3 ((g, l.map fun x => (N.getD x nd0).s) :: r) (if n = 0 then root else (N.getD n nd0).b) 0 s1 (l.map fun x => (N.getD x nd0).s) 0 0
  cd : (D.fn g).code = s1 ++ [(2, 0), (2, 0), (27, 0)]
  np : (D.fn g).np = l.length
  ns : l.length ≤ (D.fn g).nslots
theorem ClI.body {N : List Nd} {root : Nat} {D : CmD} {m : VMD} {E : List EnD} {MC : List (Nat × Option Nat)} {P : List (Option Lc)} {c n : Nat} {r : En} {lc : List Nat} (h : ClI N D m E MC P c n r lc) (tx : TxtZ N root D m) : ∃ l s1, BdI N D root n (m.clos.getD c cl0).p r l s1 := by
  rcases h.fn with ⟨h1, h2, h3⟩ | ⟨h1, h2, h3, h4, f, L, r', h5, h6⟩
  · obtain ⟨l, s1, a1, a2, a3, a4, a5, a6⟩ := tx.main
    refine ⟨[], s1, ?_⟩
    rw [h1, h2, h3]
    exact ⟨tx.za, by simp, (fun x hx => by cases hx), by rw [if_pos rfl]; exact ⟨l, a1, a2⟩, by rw [if_pos rfl]; exact a3, a4, a5, Nat.zero_le _⟩
  · obtain ⟨l, s1, a1, a2, a3, a4, a5, a6, a7, a8, ⟨a9, _⟩, _⟩ := h6
    obtain ⟨l', l2, b1, b2, b3, b4, b5⟩ := h2.out.k20 h3
    have : l' = l := b1.uniq a1
    subst this
    rw [h4] at a2 a3 a4 a9
    refine ⟨l', s1, a1, by omega, b3, by rw [if_neg h1]; exact ⟨l2, b4, b5⟩, ?_, a3, a4, a9⟩
    rw [if_neg h1, h5]
    exact a2
section
variable {N : List Nd} {root : Nat} {D : CmD} {S : Nat → Nat → Ty → Prop} {K : Cx} {m m1 : VMD} {fu s fu' s' : Nat} {M M' : MD} {P P' : List (Option Lc)} {i c : Nat} {t t' : ThD} {T T' : MTh} {f f' : FmD} {fs : List FmD} {F F' : FrIZ} {k : TkD} {tl : List TkD} {stk A : List Vl} {pc : Nat} {v w : Vl}
/-- parameters are bound -/
theorem bind_dc {base ret hi : Nat} {E0 : List EnD} {P0 : List (Option Lc)} {lc : List Nat} (hr : ret ≤ base) (h2 : hi = (m.th i).stack.length) : ∀ (l : List Nat) {k p : Nat} {args : List Vl} {E : List EnD} {e : Option Nat} {P : List (Option Lc)} {L : List Bs} {lf : List Nat}, Chain N p l → l.length ≤ k → (∀ x ∈ l, (N.getD x nd0).s ≠ []) → Dc m i base ret hi E0 P0 E P L lf → Chn E (lf ++ lc) e → base + L.length + l.length ≤ hi →
    (∀ j, j < l.length → (m.th i).stack.getD (base + L.length + j) nilV = args.getD j nilV) → ∃ E' e' P' lf', bindA N k p args E e = (E', e') ∧ Dc m i base ret hi E0 P0 E' P' (L ++ l.map fun x => (N.getD x nd0).s) lf' ∧ Chn E' (lf' ++ lc) e' := by
  intro l
  induction l with
  | nil =>
    intro k p args E e P L lf hc _ _ dc he _ _
    have hc : p = 0 := hc
    subst hc
    refine ⟨E, e, P, lf, ?_, by simpa using dc, he⟩
    cases k with
    | zero => rfl
    | succ k => unfold bindA; rw [if_pos rfl]
  | cons x l ih =>
    intro k p args E e P L lf hc hk hn dc he hl hv
    obtain ⟨rfl, c2, c3⟩ := hc
    simp only [List.length_cons] at hk hl
    cases k with
    | zero => omega
    | succ k =>
      have hs := hn p (by simp)
      have v0 := hv 0 (by simp)
      have eh : args.headD nilV = args.getD 0 nilV := by cases args <;> rfl
      have dc1 := dc.new hs (e := e) he.head hr (by omega) h2 (v := args.headD nilV) (by rw [eh, ← v0, Nat.add_zero])
      have he1 := chn_new he (N.getD p nd0).s (args.headD nilV)
      obtain ⟨E', e', P', lf', b1, b2, b3⟩ := ih (k := k) (args := args.tail) (lf := E.length :: lf) c3 (by omega) (fun y hy => hn y (by simp [hy])) dc1 he1 (by simp only [List.length_append, List.length_singleton]; omega) (fun j hj => by
        have := hv (j + 1) (by simp; omega)
        rw [show base + (L ++ [(N.getD p nd0).s]).length + j = base + L.length + (j + 1) by simp; omega, this]
        cases args <;> simp)
      refine ⟨E', e', P', lf', ?_, ?_, b3⟩
      · unfold bindA
        rw [if_neg c2]
        exact b1
      · simpa using b2
theorem hidV_names {st : List Vl} : ∀ {L : List Bs} {b : Nat}, (∀ s ∈ L, s ≠ []) → hidV st b L = []
  | [], _, _ => rfl
  | s :: L, b, h => by
    unfold hidV
    rw [if_neg (h s (by simp))]
    exact hidV_names fun x hx => h x (by simp [hx])
/-- A FUNCTION IS ENTERED by thread i -/
theorem RelW.enter (R : RelW N root D m fu s M P i) (hc : M.cur = i) (hi : m.ths[i]? = some t) (hT : M.ths[i]? = some T) (hfn : T.fn = t.fn) {c ret : Nat} {prot : Bool} {args : List Vl} (hcl : c < m.clos.length) (hpl : (m.clos.getD c cl0).p < m.protos.length) (hr : ret ≤ t.stack.length) {ts : List TkD} {vs : List Vl}
    (fr : FrsR (Zo N D m M P i t) t.frames.reverse ts vs ret 2) (bo : t.frames = [] → prot = false ∧ ret = 0) (hp : ∀ n q : Nat, P[n]? = some (some (.inl (i, q))) → q < ret) :
    ∃ E' e' P', bindA N 4 (N.getD (M.clos.getD c (0, none)).1 nd0).a args M.envs (M.clos.getD c (0, none)).2 = (E', e') ∧
      Rel N root D { m with ths := m.ths.set i { t with st := 4, stack := t.stack ++ (List.range (m.proto c).ns).map (fun j => if j < (m.proto c).np then args.getD j nilV else nilV), frames := t.frames ++ [⟨c, 0, t.stack.length, ret, prot⟩] } } fu s { M.st { T with st := 4, depth := t.frames.length + 1, tasks := ⟨1, if (M.clos.getD c (0, none)).1 = 0 then root else (N.getD (M.clos.getD c (0, none)).1 nd0).b, 0, e'⟩ :: ⟨3, if prot then 1 else 0, vs.length, none⟩ :: ts, vals := vs } with envs := E' } P' := by
  obtain ⟨n, r, lc, CI⟩ := R.ci c hcl
  obtain ⟨e0, mc1, mc2⟩ := CI.mc
  have hmc : M.clos.getD c (0, none) = (n, e0) := by rw [List.getD_eq_getElem?_getD, mc1]; rfl
  rw [hmc]
  dsimp only
  obtain ⟨l, s1, B⟩ := CI.body R.tx
  have il := (List.getElem?_eq_some_iff.1 hi).1
  -- the function's sizes
  have FX := R.tx.fx _ hpl
  have hns : (m.proto c).ns = (D.fn (m.clos.getD c cl0).p).nslots := congrArg Fx.ns FX.1
  have hnp : (m.proto c).np = l.length := FX.2.trans B.np
  generalize hg : (m.clos.getD c cl0).p = g at B hns hnp
  have hbn := B.ns
  generalize hxs : (List.range (m.proto c).ns).map (fun j => if j < (m.proto c).np then args.getD j nilV else nilV) = xs
  have hxl : xs.length = (D.fn g).nslots := by rw [← hxs, List.length_map, List.length_range, hns]
  generalize ht2 : ({ t with st := 4, stack := t.stack ++ xs, frames := t.frames ++ [⟨c, 0, t.stack.length, ret, prot⟩] } : ThD) = t2
  have ht2s : t2.stack = t.stack ++ xs := by rw [← ht2]
  have th : ∀ j, ({ m with ths := m.ths.set i t2 } : VMD).th j = if j = i then t2 else m.th j := fun j => th_set hi
  have hth : ({ m with ths := m.ths.set i t2 } : VMD).th i = t2 := by rw [th, if_pos rfl]
  -- the variables
  have dc0 : Dc { m with ths := m.ths.set i t2 } i t.stack.length ret (t.stack ++ xs).length M.envs P M.envs P [] [] := by
    refine ⟨R.vr.keep (fun a x hx => ?_) rfl, R.ac, EGr.refl _, List.prefix_refl _, fun a j q hq => .inl hq, ⟨rfl, fun j s' hj => by simp at hj⟩, (fun a ha => by cases ha), fun a q hq q1 q2 => ?_⟩
    · rw [th]
      have h1 := R.vr.st a x hx
      by_cases e : x.1 = i
      · rw [if_pos e, ht2s]
        rw [e, th_get hi] at h1 ⊢
        rw [List.length_append, gd_app h1]
        exact ⟨by omega, rfl⟩
      · rw [if_neg e]
        exact ⟨h1, rfl⟩
    · have := hp a q hq
      omega
  obtain ⟨E', e', P', lf', b1, b2, b3⟩ := bind_dc (N := N) (lc := lc) (args := args) hr (by rw [hth, ht2s]) l (k := 4) B.ch B.le B.nm dc0 mc2 (by rw [List.length_append, hxl]; simp; omega) (fun j hj => by
    rw [hth, ht2s]
    show (t.stack ++ xs).getD (t.stack.length + 0 + j) nilV = _
    rw [List.getD_eq_getElem?_getD, List.getElem?_append_right (by omega), ← hxs, show t.stack.length + 0 + j - t.stack.length = j by omega, List.getElem?_map, List.getElem?_range (by rw [hns]; omega)]
    simp only [Option.map_some, Option.getD_some]
    rw [if_pos (by rw [hnp]; exact hj)])
  rw [List.nil_append] at b2
  refine ⟨E', e', P', b1, ?_⟩
  generalize hLp : (l.map fun x => (N.getD x nd0).s) = Lp at b2
  have hLn : ∀ s' ∈ Lp, s' ≠ [] := fun s' hs' => by
    rw [← hLp] at hs'
    obtain ⟨x, hx, rfl⟩ := List.mem_map.1 hs'
    exact B.nm x hx
  have hLl : Lp.length = l.length := by rw [← hLp, List.length_map]
  obtain ⟨Q, hQ⟩ := b2.pp
  have cm : ClM m { m with ths := m.ths.set i t2 } P P' := ⟨Nat.le_refl _, fun _ _ => rfl, Nat.le_refl _, fun _ _ => rfl, fun c n _ hc => by rw [← hQ]; exact (hc.more Q).keep rfl, Nat.le_refl _⟩
  have up : ∀ (n : Nat) (q : Option Lc), P[n]? = some q → P'[n]? = some q := fun n q hq => by
    rw [← hQ, List.getElem?_append_left (List.getElem?_eq_some_iff.1 hq).1]
    exact hq
  generalize hT2 : ({ T with st := 4, depth := t.frames.length + 1, tasks := ⟨1, if n = 0 then root else (N.getD n nd0).b, 0, e'⟩ :: ⟨3, if prot then 1 else 0, vs.length, none⟩ :: ts, vals := vs } : MTh) = T2
  have MV : MvW N D m { m with ths := m.ths.set i t2 } M { M.st T2 with envs := E' } P P' i := by
    refine ⟨R.out, R.tabs, R.done, rfl, rfl, ⟨rfl, rfl, rfl, rfl, fun _ _ => rfl, Nat.le_refl _⟩, ⟨T2, by simp only [MD.st, hc]⟩, by simp, fun j u hj hu => ?_, cm, b2.eg, List.prefix_refl _, R.cl, fun c h1 h2 => absurd h2 (by simp only; omega), b2.vr, b2.ac, fun j q n hj => ⟨fun z => ?_, fun z => up _ _ z⟩⟩
    · have hu : (m.ths.set i t2)[j]? = some u := hu
      rw [List.getElem?_set_ne (fun e => hj e.symm)] at hu
      exact ⟨u, hu, rfl, rfl, rfl, rfl, fun _ _ => rfl⟩
    · rcases b2.hn n j q z with z | z
      · exact z
      · exact absurd z.1 hj
  have KP : KpR (Zo N D m M P i t) ⟨N, D, { m with ths := m.ths.set i t2 }, E', M.clos, P', i, t.stack ++ xs⟩ ret := by
    refine ⟨rfl, rfl, rfl, cm, b2.eg, List.prefix_refl _, hr, by show ret ≤ (t.stack ++ xs).length; rw [List.length_append]; omega, fun q hq _ => ?_, fun q hq n => ⟨fun z => ?_, fun z => up _ _ z⟩⟩
    · show (t.stack ++ xs).getD q nilV = t.stack.getD q nilV
      rw [gd_app (by omega)]
    · rcases b2.hn n i q z with z | z
      · exact z
      · have := z.2
        omega
  have hT2t : T2.tasks = ⟨1, if n = 0 then root else (N.getD n nd0).b, 0, e'⟩ :: ⟨3, if prot then 1 else 0, vs.length, none⟩ :: ts ∧ T2.vals = vs ∧ T2.st = 4 ∧ T2.fn = T.fn ∧ T2.depth = t.frames.length + 1 := by rw [← hT2]; exact ⟨rfl, rfl, rfl, rfl, rfl⟩
  have ht2t : t2.st = 4 ∧ t2.fn = t.fn ∧ t2.frames = t.frames ++ [⟨c, 0, t.stack.length, ret, prot⟩] := by rw [← ht2]; exact ⟨rfl, rfl, rfl⟩
  refine (R.move hc MV R.fuel R.first).rel (List.getElem?_set_self il) (T := T2) (by show (M.ths.set M.cur T2)[i]? = _; rw [hc, List.getElem?_set_self (List.getElem?_eq_some_iff.1 hT).1]) ⟨by rw [hT2t.2.2.1, ht2t.1], by rw [hT2t.2.2.2.1, ht2t.2.1]; exact hfn, by rw [hT2t.2.2.2.2, ht2t.2.2]; simp, ?_⟩
  rw [ht2t.1, ht2t.2.2, List.reverse_append, hT2t.1, hT2t.2.1, ht2s, if_pos rfl]
  have hgg : ({ m with ths := m.ths.set i t2 } : VMD).clos.getD c cl0 = m.clos.getD c cl0 := rfl
  have hsz : (t.stack ++ xs).length = t.stack.length + (D.fn g).nslots := by rw [List.length_append, hxl]
  show FrsR _ (⟨c, 0, t.stack.length, ret, prot⟩ :: t.frames.reverse) _ _ _ _
  refine ⟨⟨n, r, lc, Lp, lf', [⟨1, if n = 0 then root else (N.getD n nd0).b, 0, e'⟩], ts, vs⟩, ⟨⟨CI.keep cm b2.eg (List.prefix_refl _), rfl, (fun t ht => by simp at ht; rw [ht]; show (1 : Nat) ≠ 3; decide), hr, ?_, List.prefix_refl _, fun a q h1 h2 h3 => ?_⟩, ?_, ?_, ?_, b2.fe, b2.ll, ?_, b2.pn⟩, fr.keep KP, fun z => bo (by simpa using z)⟩
  · show t.stack.length + (D.fn (m.clos.getD c cl0).p).nslots ≤ (t.stack ++ xs).length
    rw [hg, hsz]
    exact Nat.le_refl _
  · obtain ⟨j, s', _, _, j3⟩ := b2.pn a q h1 h2 h3
    show t.stack.length ≤ q
    omega
  · show Cb ⟨N, D, (m.clos.getD c cl0).p, r, E', lc, vs.length⟩ _ false 0 ((t.stack ++ xs).length - (t.stack.length + (D.fn (m.clos.getD c cl0).p).nslots) + 0) Lp lf'
    rw [hg, hsz, show t.stack.length + (D.fn g).nslots - (t.stack.length + (D.fn g).nslots) + 0 = 0 by omega]
    have hly := B.ly
    rw [hLp] at hly
    refine Cb_blk b3 ⟨Lp, false, 0, 0, 0 + s1.length, Sub0.refl _, blk_at hly B.st ⟨[], [(2, 0), (2, 0), (27, 0)], by show (D.fn g).code = _; rw [B.cd]; rfl, rfl, by simp⟩ (fun z => by cases z), .inl ?_, fun z => by cases z⟩
    unfold Cb
    simp (config := { decide := true }) only [if_true, if_false]
    exact ⟨trivial, s1, B.cd, by simp⟩
  · show Itm _ _ _ _
    refine Itm_blk ?_
    unfold Itm
    simp (config := { decide := true }) only [if_true, if_false]
  · show Lp.length ≤ (D.fn (m.clos.getD c cl0).p).nslots
    rw [hg]
    omega
  · show vs = vs ++ hidV (t.stack ++ xs) t.stack.length Lp ++ ((t.stack ++ xs).take (t.stack ++ xs).length).drop (t.stack.length + (D.fn (m.clos.getD c cl0).p).nslots)
    rw [hidV_names hLn, hg, List.take_length, List.drop_of_length_le (by rw [hsz]; exact Nat.le_refl _)]
    simp
end
end Go.Proofs.Qxb6500574aGreatDoor
