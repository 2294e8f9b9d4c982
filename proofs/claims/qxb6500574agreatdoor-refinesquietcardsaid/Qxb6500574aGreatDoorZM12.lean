/-
  moon: A THREAD'S END; results handed on; errors that fly. Plain; no memory, no walk.
-/
import Derived.Test.Qxb6500574aGreatDoorZM11
namespace Go.Proofs.Qxb6500574aGreatDoor
set_option linter.unusedVariables false
set_option linter.unusedSimpArgs false
theorem FrsR.more {Z : Zx} {fs : List FmD} {ts : List TkD} {vs : List Vl} {hi : Nat} (h : FrsR Z fs ts vs hi 2) (ne : fs ≠ []) {A : List Vl} {a b : Vl} (hs : Z.stk = A ++ [a, b]) (hA : A.length = hi) (hp : ∀ n q : Nat, Z.P[n]? = some (some (.inl (Z.i, q))) → q < hi) : FrsR Z fs ts (vs ++ [a, b]) (hi + 2) 0 := by
  cases fs with
  | nil => exact absurd rfl ne
  | cons f fs =>
    obtain ⟨F, h1, h2, h3⟩ := h
    exact ⟨F, h1.more hs hA hp, h2, h3⟩
section
variable {N : List Nd} {root : Nat} {D : CmD} {S : Nat → Nat → Ty → Prop} {K : Cx} {m m' : VMD} {fu s fu' s' : Nat} {M M' : MD} {P P' : List (Option Lc)} {i c : Nat} {t t' : ThD} {T T' : MTh} {f f' : FmD} {fs : List FmD} {F F' : FrIZ}
/-- thread i is over -/
theorem RelW.kill (R : RelW N root D m fu s M P i) (hc : M.cur = i) (V : VI K m) (hi : m.ths[i]? = some t) (hT : M.ths[i]? = some T) (s3 : T.fn = t.fn) :
    Rel N root D (Go.Proofs.Qxb6500574aGreatDoor.kill m i) fu s (M.st { T with tasks := [], vals := [], depth := 0, st := 5 }) (P.map (cloL m i 0)) := by
  have C := closeFrom_inv V hi 0
  obtain ⟨k, hk⟩ := C.th
  have ek : Go.Proofs.Qxb6500574aGreatDoor.kill m i = (closeFrom m i 0).setTh i { t with opn := t.opn.take k, stack := [], frames := [], st := 5 } := by
    unfold Go.Proofs.Qxb6500574aGreatDoor.kill
    dsimp only
    rw [th_get hk]
  rw [ek]
  have MV := mv_close R hc V hi 0 (t2 := { t with opn := t.opn.take k, stack := [], frames := [], st := 5 }) (T2 := { T with tasks := [], vals := [], depth := 0, st := 5 }) (fun n q hq hqb => by omega)
  refine (R.move hc MV R.fuel R.first).rel (setTh_get hk) (T := { T with tasks := [], vals := [], depth := 0, st := 5 }) (by show (M.ths.set M.cur _)[i]? = _; rw [hc, List.getElem?_set_self (List.getElem?_eq_some_iff.1 hT).1]) ⟨rfl, s3, rfl, ⟨rfl, rfl⟩⟩
/-- thread c goes on -/
theorem RelW.go (R : RelW N root D m fu s M P c) (hc : m.ths[c]? = some t) (hT : M.ths[c]? = some T) {r : List Nat} (hp : t.stack <+: t'.stack) (nd : (c :: r).Nodup) (la : (c :: r).getLast? = some 0) (wt : ∀ d ∈ r, (m.th d).st = 3 ∧ d < m.ths.length) :
    RelW N root D (m.setTh c t') fu s' { M with ths := M.ths.set c T', cur := c, stack := r, first := s' } P c := by
  have cm : ClM m (m.setTh c t') P P := ClM.same rfl rfl rfl
  have th : ∀ j, (m.setTh c t').th j = if j = c then t' else m.th j := fun j => th_set hc
  refine ⟨R.fuel, rfl, R.out, R.tabs, R.done, R.tx.keep (TxtT.setTh _ _ _), by simp [VMD.setTh, R.tl], R.vr.keep (fun n x hx => ?_) rfl, R.ac, R.cl, fun d hd => ?_, nd, la, fun d hd => ?_, fun j u hj hu => ?_⟩
  · rw [th]
    have h1 := R.vr.st n x hx
    by_cases e : x.1 = c
    · rw [if_pos e]
      rw [e, th_get hc] at h1 ⊢
      obtain ⟨k, hk⟩ := hp
      rw [← hk, List.length_append, gd_app h1]
      exact ⟨by omega, rfl⟩
    · rw [if_neg e]
      exact ⟨h1, rfl⟩
  · obtain ⟨n, r, lc, z⟩ := R.ci d hd
    exact ⟨n, r, lc, z.keep cm (EGr.refl _) (List.prefix_refl _)⟩
  · have : d ≠ c := fun e => (List.nodup_cons.1 nd).1 (e ▸ hd)
    rw [th, if_neg this]
    exact ⟨(wt d hd).1, by simp only [VMD.setTh, List.length_set]; exact (wt d hd).2⟩
  · have hu : (m.ths.set c t')[j]? = some u := hu
    rw [List.getElem?_set_ne (fun e => hj e.symm)] at hu
    obtain ⟨T0, z1, z2⟩ := R.th j u hj hu
    exact ⟨T0, by show (M.ths.set c T')[j]? = _; rw [List.getElem?_set_ne (fun e => hj e.symm)]; exact z1, z2.keep ⟨rfl, rfl, rfl, cm, EGr.refl _, List.prefix_refl _, Nat.le_refl _, Nat.le_refl _, fun _ _ _ => rfl, fun _ _ _ => Iff.rfl⟩ rfl rfl rfl rfl⟩
/-- thread c, which waited, gets two values -/
theorem Rel.wake (R : Rel N root D m fu s M P) (hc : m.ths[c]? = some t) (h1 : t.st ≠ 1) (h4 : t.st ≠ 4) (ne : t.frames ≠ []) {r : List Nat} (nd : (c :: r).Nodup) (la : (c :: r).getLast? = some 0) (wt : ∀ d ∈ r, (m.th d).st = 3 ∧ d < m.ths.length) (a b : Vl) {T : MTh} (hT : M.ths[c]? = some T) :
    Rel N root D (startP m c a b) fu s { M with ths := M.ths.set c { T with st := 4, vals := T.vals ++ [a, b] }, cur := c, stack := r } P := by
  have hs : startP m c a b = m.setTh c { t with stack := t.stack ++ [a, b], st := 4 } := by
    unfold startP
    dsimp only
    rw [th_get hc, if_neg h1]
  rw [hs]
  obtain ⟨T0, z1, z2⟩ := R.th c t hc
  rw [hT] at z1
  cases z1
  have W := (R.w c).go (s' := s) (t' := { t with stack := t.stack ++ [a, b], st := 4 }) (T' := { T with st := 4, vals := T.vals ++ [a, b] }) hc hT (List.prefix_append _ _) nd la wt
  have e : ({ M with ths := M.ths.set c { T with st := 4, vals := T.vals ++ [a, b] }, cur := c, stack := r } : MD) = { M with ths := M.ths.set c { T with st := 4, vals := T.vals ++ [a, b] }, cur := c, stack := r, first := s } := by
    rw [← (R.w c).first]
  rw [e]
  have cl := (List.getElem?_eq_some_iff.1 hT).1
  refine W.rel (setTh_get hc) (T := { T with st := 4, vals := T.vals ++ [a, b] }) (List.getElem?_set_self cl) ⟨rfl, z2.fn, z2.dp, ?_⟩
  have z3 := z2.fr
  rw [if_neg h4] at z3
  have cm : ClM m (m.setTh c { t with stack := t.stack ++ [a, b], st := 4 }) P P := ClM.same rfl rfl rfl
  show FrsR _ t.frames.reverse T.tasks (T.vals ++ [a, b]) (t.stack ++ [a, b]).length 0
  rw [List.length_append]
  have KP : KpR (Zo N D m M P c t) ⟨N, D, m.setTh c { t with stack := t.stack ++ [a, b], st := 4 }, M.envs, M.clos, P, c, t.stack ++ [a, b]⟩ t.stack.length := ⟨rfl, rfl, rfl, cm, EGr.refl _, List.prefix_refl _, Nat.le_refl _, by show t.stack.length ≤ (t.stack ++ [a, b]).length; simp, fun q hq _ => gd_app hq, fun _ _ _ => Iff.rfl⟩
  refine FrsR.more (A := t.stack) (z3.keep KP) (by simpa using ne) rfl rfl (fun n q hq => ?_)
  have := (R.w c).vr.st n (c, q) hq
  rw [th_get hc] at this
  exact this
/-- a result is handed on -/
theorem Rel.deliver (R : Rel N root D m fu s M P) (V : VI K m) (ok : Bool) (v : Vl) : Dlv N root D M.stack s fu m ok v (M.back ok v) := by
  unfold Dlv MD.back
  have W := R.w M.cur
  cases hs : M.stack with
  | nil =>
    show some (AnD.mk _ M.fuel M.first M.out _) = _
    rw [W.fuel, W.first, W.out]
  | cons c r =>
    have hw := W.wt c (by rw [hs]; simp)
    obtain ⟨t, hc⟩ : ∃ t, m.ths[c]? = some t := ⟨_, List.getElem?_eq_getElem hw.2⟩
    have st3 : t.st = 3 := by have := hw.1; rw [th_get hc] at this; exact this
    obtain ⟨T, hT, R1⟩ := R.th c t hc
    have cl := (List.getElem?_eq_some_iff.1 hT).1
    have nd := W.nd
    rw [hs] at nd
    have la := W.la
    rw [hs] at la
    have ne : t.frames ≠ [] := fun e => by
      have := (V.th c t hc).al.1 e
      omega
    have := R.wake (c := c) (r := r) hc (by omega) (by omega) ne (List.nodup_cons.1 nd).2 (by simpa using la) (fun d hd => W.wt d (by rw [hs]; simp [hd])) (boolV ok) v hT
    refine ⟨⟨P, ?_⟩, rfl, rfl⟩
    have e : ((({ M with stack := r, cur := c } : MD).upT fun t => { t with st := 4 }).push [boolV ok, v]) = { M with ths := M.ths.set c { T with st := 4, vals := T.vals ++ [boolV ok, v] }, cur := c, stack := r } := by
      have e1 : ({ M with stack := r, cur := c } : MD) = ({ M with stack := r, cur := c } : MD).st T := (st_self (M := { M with stack := r, cur := c }) hT).symm
      rw [e1, st_up (M := { M with stack := r, cur := c }) cl, st_push (M := { M with stack := r, cur := c }) cl]
      rfl
    dsimp only
    rw [e]
    exact this
/-! ### errors -/
theorem thrT_seg : ∀ {seg tl : List TkD} {d : Nat}, (∀ t ∈ seg, t.k ≠ 3) → thrT (seg ++ tl) d = thrT tl d
  | [], _, _, _ => rfl
  | a :: seg, tl, d, h => by
    rw [List.cons_append, thrT, if_neg (h a (by simp))]
    exact thrT_seg fun t ht => h t (by simp [ht])
/-- who catches -/
theorem thr_find {Z : Zx} : ∀ (fs : List FmD) (f : FmD) (F : FrIZ) (ts : List TkD) (vs : List Vl) (hi : Nat), FrB Z f F ts vs hi → FrsR Z fs F.rest F.low f.ret 2 → (fs = [] → f.prot = false ∧ f.ret = 0) →
    (∃ pre g gs G vs' ts' hi' d', f :: fs = pre ++ g :: gs ∧ g.prot = true ∧ (∀ x ∈ pre, x.prot = false) ∧ gs ≠ [] ∧ FrB Z g G ts' vs' hi' ∧ hi' ≤ hi ∧ FrsR Z gs G.rest G.low g.ret 2 ∧ G.low <+: vs ∧ thrT ts (fs.length + 1) = (some (G.rest, G.low.length, gs.length), d')) ∨
    ((∀ x ∈ f :: fs, x.prot = false) ∧ thrT ts (fs.length + 1) = (none, 0)) := by
  intro fs
  induction fs with
  | nil =>
    intro f F ts vs hi h lo bo
    obtain ⟨b1, _⟩ := bo rfl
    refine .inr ⟨fun x hx => by simp at hx; rw [hx]; exact b1, ?_⟩
    rw [h.te, thrT_seg h.sg, b1]
    obtain ⟨l1, _⟩ := lo
    rw [l1]
    simp [thrT]
  | cons g fs ih =>
    intro f F ts vs hi h lo bo
    cases hp : f.prot with
    | true =>
      refine .inl ⟨[], f, g :: fs, F, vs, ts, hi, fs.length + 1, rfl, hp, (fun x hx => by cases hx), by simp, h, Nat.le_refl _, lo, h.lv, ?_⟩
      rw [h.te, thrT_seg h.sg, hp]
      simp [thrT]
    | false =>
      obtain ⟨G, g1, g2, g3⟩ := lo
      have e : thrT ts ((g :: fs).length + 1) = thrT F.rest (fs.length + 1) := by
        rw [h.te, thrT_seg h.sg, hp]
        simp [thrT]
      rcases ih g G F.rest F.low f.ret g1.toFrB g2 g3 with ⟨pre, x, gs, X, vs', ts', hi', d', a1, a2, a3, a4, a5, a6, a7, a8, a9⟩ | ⟨a1, a2⟩
      · refine .inl ⟨f :: pre, x, gs, X, vs', ts', hi', d', by rw [a1]; rfl, a2, fun y hy => ?_, a4, a5, ?_, a7, a8.trans h.lv, by rw [e]; exact a9⟩
        · rcases List.mem_cons.1 hy with rfl | hy
          · exact hp
          · exact a3 y hy
        · have := h.ret
          have := h.le
          omega
      · refine .inr ⟨fun y hy => ?_, by rw [e]; exact a2⟩
        rcases List.mem_cons.1 hy with rfl | hy
        · exact hp
        · exact a1 y hy
theorem unwind_no (i : Nat) (v : Vl) : ∀ (n : Nat) (m : VMD), (∀ x ∈ (m.th i).frames, x.prot = false) → unwindN n m i v = none := by
  intro n
  induction n with
  | zero => intro m _; rfl
  | succ n ih =>
    intro m h
    unfold unwindN
    dsimp only
    have : ((m.th i).frames.getD (n + 1) fm0).prot = false := by
      rw [List.getD_eq_getElem?_getD]
      cases hg : (m.th i).frames[n + 1]? with
      | none => rfl
      | some x => exact h x (List.mem_of_getElem? hg)
    rw [if_neg (by rw [this]; decide)]
    exact ih m h
theorem unwind_at (i : Nat) (v : Vl) (hi : m.ths[i]? = some t) {g : FmD} {lo up : List FmD} (hf : t.frames = lo ++ g :: up) (hg : g.prot = true) (hu : ∀ x ∈ up, x.prot = false) (ne : lo ≠ []) {k : Nat} (hk : (closeFrom m i g.base).ths[i]? = some { t with opn := t.opn.take k }) :
    ∀ n, lo.length ≤ n → n < t.frames.length → unwindN n m i v = some ((closeFrom m i g.base).setTh i { t with opn := t.opn.take k, stack := t.stack.take g.ret ++ [boolV false, v], frames := lo }) := by
  intro n
  induction n with
  | zero =>
    intro h1 _
    exact absurd (List.eq_nil_of_length_eq_zero (Nat.le_zero.1 h1)) ne
  | succ n ih =>
    intro h1 h2
    unfold unwindN
    dsimp only
    rw [th_get hi]
    by_cases e : lo.length = n + 1
    · have hgf : t.frames.getD (n + 1) fm0 = g := by rw [hf, ← e]; simp
      rw [hgf, if_pos hg, cut_is hk, th_get (setTh_get hk), setTh_setTh, push_is (setTh_get hk), setTh_setTh]
      have : t.frames.take (n + 1) = lo := by rw [hf, ← e]; simp
      dsimp only
      rw [this]
    · have hgf : (t.frames.getD (n + 1) fm0).prot = false := by
        rw [List.getD_eq_getElem?_getD, List.getElem?_eq_getElem h2]
        refine hu _ ?_
        have e2 : t.frames[n + 1]? = up[n + 1 - lo.length - 1]? := by
          rw [hf, List.getElem?_append_right (by omega)]
          have : n + 1 - lo.length = (n + 1 - lo.length - 1) + 1 := by omega
          rw [this, List.getElem?_cons_succ]
          rfl
        rw [List.getElem?_eq_getElem h2] at e2
        exact List.mem_of_getElem? e2.symm
      rw [if_neg (by rw [hgf]; decide)]
      exact ih (by omega) (by omega)
/-- AN ERROR FLIES: m: the machine where it begins; M: the interpreter -/
theorem RelW.throw (R : RelW N root D m fu s M P i) (hc : M.cur = i) (V : VI K m) (hi : m.ths[i]? = some t) (hT : M.ths[i]? = some T) (s1 : t.st = 4) (s2 : T.st = 4) (s3 : T.fn = t.fn) (hd : T.depth = fs.length + 1) (hf : t.frames = fs.reverse ++ [f])
    (fb : FrB (Zo N D m M P i t) f F T.tasks T.vals t.stack.length) (lo : FrsR (Zo N D m M P i t) fs F.rest F.low f.ret 2) (bo : fs = [] → f.prot = false ∧ f.ret = 0) (v : Vl) {m0 : VMD} {fu0 : Nat} (hr : roundP fu0 m0 i = thrD fu m i v) (hV : ∀ ev fu1, roundP fu0 m0 i = .inr (ev, fu1, Go.Proofs.Qxb6500574aGreatDoor.kill m i) → ∃ K, VI K (Go.Proofs.Qxb6500574aGreatDoor.kill m i)) :
    PgZ N root D i M.stack s 1 m0 fu0 (M.throw v) := by
  have cl : M.cur < M.ths.length := by rw [hc]; exact (List.getElem?_eq_some_iff.1 hT).1
  have hth : M.th = T := by unfold MD.th; rw [hc, List.getD_eq_getElem?_getD, hT]; rfl
  have hup : ∀ g : MTh → MTh, M.upT g = M.st (g T) := fun g => by
    have h1 := st_up (T := T) cl g
    rw [st_self (by rw [hc]; exact hT)] at h1
    exact h1
  unfold MD.throw
  rw [hth, hd]
  rcases thr_find fs f F T.tasks T.vals _ fb lo bo with ⟨pre, g, gs, G, vs', ts', hi', d', a1, a2, a3, a4, a5, a6, a7, a8, a9⟩ | ⟨a1, a2⟩
  · rw [a9]
    dsimp only
    obtain ⟨k, hk⟩ := (closeFrom_inv V hi g.base).th
    have hfr : t.frames = gs.reverse ++ g :: pre.reverse := by
      have : (f :: fs).reverse = (pre ++ g :: gs).reverse := by rw [a1]
      rw [hf]
      simpa using this
    have hu := unwind_at i v hi hfr a2 (fun x hx => a3 x (by simpa using hx)) (by simpa using a4) hk (t.frames.length - 1) (by rw [hfr]; simp) (by rw [hfr]; simp)
    have hr1 : roundP fu0 m0 i = .inl (fu, (closeFrom m i g.base).setTh i { t with opn := t.opn.take k, stack := t.stack.take g.ret ++ [boolV false, v], frames := gs.reverse }) := by
      rw [hr]
      unfold thrD
      rw [th_get hi, hu]
    refine PgZ.round hr1 (PgZ.rel (P := P.map (cloL m i g.base)) ?_ (by rw [hup]; exact hc) (by rw [hup]; rfl))
    rw [hup]
    have hlow : T.vals.take G.low.length ++ [boolV false, v] = G.low ++ [boolV false, v] := by
      obtain ⟨z, hz⟩ := a8
      rw [← hz]
      simp
    rw [hlow]
    exact R.drop hc V hi hT s1 s2 s3 a5 a6 a7 a4 hk (boolV false) v
  · rw [a2]
    dsimp only
    have hu := unwind_no i v (t.frames.length - 1) m (fun x hx => by
      rw [th_get hi, hf] at hx
      refine a1 x ?_
      simp at hx ⊢
      exact hx.symm)
    have hr1 : roundP fu0 m0 i = .inr (⟨2, 0, 0, v, nilV⟩, fu, Go.Proofs.Qxb6500574aGreatDoor.kill m i) := by
      rw [hr]
      unfold thrD
      rw [th_get hi, hu]
    obtain ⟨K2, V2⟩ := hV _ _ hr1
    have RK := R.kill hc V hi hT s3
    rw [hup]
    refine PgZ.event hr1 ⟨(fun z => by cases z), (fun z => by cases z), (fun z => by rcases z with z | z <;> cases z), fun _ => ?_⟩
    exact RK.deliver V2 false v
end
end Go.Proofs.Qxb6500574aGreatDoor
