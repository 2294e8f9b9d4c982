/-
  moon: THE STATE OPENED at the thread at hand, and shut again. Plain; no memory, no walk.
-/
import Derived.Test.Qxb6500574aGreatDoorZM9
namespace Go.Proofs.Qxb6500574aGreatDoor
set_option linter.unusedVariables false
set_option linter.unusedSimpArgs false
structure Op0 (N : List Nd) (root : Nat) (D : CmD) (m : VMD) (fu s : Nat) (M : MD) (P : List (Option Lc)) (i : Nat) (t : ThD) (T : MTh) (f : FmD) (fs : List FmD) (F : FrIZ) : Prop where
  rel : Rel N root D m fu s M P
  cu : M.cur = i
  hi : m.ths[i]? = some t
  st4 : t.st = 4
  hT : M.ths[i]? = some T
  tst : T.st = 4
  tfn : T.fn = t.fn
  tdp : T.depth = fs.length + 1
  fr : t.frames = fs.reverse ++ [f]
  fo : FrOZ ⟨N, D, m, M.envs, M.clos, P, i, t.stack⟩ f F T.tasks T.vals t.stack.length 0
  lo : FrsR ⟨N, D, m, M.envs, M.clos, P, i, t.stack⟩ fs F.rest F.low f.ret 2
  bo : fs = [] → f.prot = false ∧ f.ret = 0
/-- and it runs -/
structure Op (N : List Nd) (root : Nat) (D : CmD) (S : Nat → Nat → Ty → Prop) (K : Cx) (m : VMD) (fu s : Nat) (M : MD) (P : List (Option Lc)) (i : Nat) (t : ThD) (T : MTh) (f : FmD) (fs : List FmD) (F : FrIZ) : Prop extends Op0 N root D m fu s M P i t T f fs F where
  rt : RunT S K m i t f
  rm : Room K 0 t
section
variable {N : List Nd} {root : Nat} {D : CmD} {S : Nat → Nat → Ty → Prop} {K : Cx} {m m' : VMD} {fu s fu' s' : Nat} {M M' : MD} {P P' : List (Option Lc)} {i : Nat} {t t' : ThD} {T T' : MTh} {f f' : FmD} {fs : List FmD} {F F' : FrIZ}
theorem Rel.op (R : Rel N root D m fu s M P) (hc : M.cur = i) (G : Gd1 S m i) : ∃ K t T f fs F, Op N root D S K m fu s M P i t T f fs F := by
  obtain ⟨K, t, f, rt, rm⟩ := G
  obtain ⟨T, hT, R1⟩ := R.th i t rt.at_.hi
  have hf := rt.at_.hf
  have ne := rt.at_.ne
  obtain ⟨ys, hfr⟩ : ∃ ys, t.frames = ys ++ [f] := by
    rw [← List.getLast?_eq_getElem?] at hf
    exact List.getLast?_eq_some_iff.1 hf
  have hr : t.frames.reverse = f :: ys.reverse := by rw [hfr]; simp
  have h4 := R1.fr
  rw [hr, if_pos rt.at_.st] at h4
  obtain ⟨F, h5, h6, h7⟩ := h4
  exact ⟨K, t, T, f, ys.reverse, F, ⟨R, hc, rt.at_.hi, rt.at_.st, hT, by rw [R1.st]; exact rt.at_.st, R1.fn, by rw [R1.dp, hfr]; simp, by simpa using hfr, h5, h6, by simpa using h7⟩, rt, rm⟩
/-- the same state, opened -/
abbrev Zo (N : List Nd) (D : CmD) (m : VMD) (M : MD) (P : List (Option Lc)) (i : Nat) (t : ThD) : Zx := ⟨N, D, m, M.envs, M.clos, P, i, t.stack⟩
theorem Op0.cl (h : Op0 N root D m fu s M P i t T f fs F) : M.cur < M.ths.length := by rw [h.cu]; exact (List.getElem?_eq_some_iff.1 h.hT).1
theorem Op0.il (h : Op0 N root D m fu s M P i t T f fs F) : i < m.ths.length := (List.getElem?_eq_some_iff.1 h.hi).1
theorem Op0.self (h : Op0 N root D m fu s M P i t T f fs F) : M.st T = M := st_self (by rw [h.cu]; exact h.hT)
theorem Op.code (h : Op N root D S K m fu s M P i t T f fs F) : fxOf m (m.clos.getD f.clo cl0).p = fxD D (m.clos.getD f.clo cl0).p := by
  obtain ⟨q, p, k1, k2, k3, k4, k5, _⟩ := h.rt.at_.vi.proto h.rt.at_.clo
  have e1 : m.clos.getD f.clo cl0 = q := by simp [k1]
  rw [e1]
  exact ((h.rel.w 0).tx.fx q.p (List.getElem?_eq_some_iff.1 k2).1).1
/-- the slots of the frame -/
theorem Op.nsK (h : Op N root D S K m fu s M P i t T f fs F) : (D.fn (m.clos.getD f.clo cl0).p).nslots = K.ns f.clo := by
  have := h.code
  obtain ⟨a, r⟩ := h.rt.run
  rw [← r.fx.ns, this]
  rfl
/-- the instruction at hand -/
theorem Op.at_ (h : Op N root D S K m fu s M P i t T f fs F) {op x : Nat} {r : List In} (hc : AtC (D.fn (m.clos.getD f.clo cl0).p).code f.pc ((op, x) :: r)) : (fxOf m (m.clos.getD f.clo cl0).p).code[f.pc]? = some (op, x) := by
  rw [h.code]
  exact hc.head.1
/-- the thread's tasks: the first one, the others up to the frame's foot -/
theorem FrB.tail {Z : Zx} {ts : List TkD} {vs : List Vl} {hi : Nat} {k : TkD} {tl : List TkD} (h : FrB Z f F (k :: tl) vs hi) (hk : k.k ≠ 3) : ∃ seg, tl = seg ++ ⟨3, if f.prot then 1 else 0, F.low.length, none⟩ :: F.rest ∧ ∀ t ∈ seg, t.k ≠ 3 := by
  have e := h.te
  have g := h.sg
  cases hs : F.seg with
  | nil =>
    rw [hs] at e
    simp only [List.nil_append, List.cons.injEq] at e
    rw [e.1] at hk
    exact absurd rfl hk
  | cons a seg =>
    rw [hs] at e g
    simp only [List.cons_append, List.cons.injEq] at e
    exact ⟨seg, e.2, fun t ht => g t (by simp [ht])⟩
/-- SHUT AGAIN: frames as many as before -/
theorem Op0.put (h : Op0 N root D m fu s M P i t T f fs F) (V : MvW N D m m' M M' P P' i) (e1 : M'.fuel = fu') (e2 : M'.first = s') (tl : M'.ths = M.ths.set i T') (hi' : m'.ths[i]? = some t')
    (t1 : t'.st = 4) (t2 : t'.fn = t.fn) (t3 : t'.frames = fs.reverse ++ [f']) (t4 : f'.ret = f.ret ∧ f'.prot = f.prot)
    (u1 : T'.st = 4) (u2 : T'.fn = T.fn) (u3 : T'.depth = T.depth) (r1 : F'.rest = F.rest) (r2 : F'.low = F.low)
    (fo : FrOZ (Zo N D m' M' P' i t') f' F' T'.tasks T'.vals t'.stack.length 0) (kp : KpR (Zo N D m M P i t) (Zo N D m' M' P' i t') f.ret) : Op0 N root D m' fu' s' M' P' i t' T' f' fs F' := by
  have hT' : M'.ths[i]? = some T' := by rw [tl, List.getElem?_set_self (by rw [(h.rel.w i).tl]; exact h.il)]
  have lo' : FrsR (Zo N D m' M' P' i t') fs F'.rest F'.low f'.ret 2 := by rw [r1, r2, t4.1]; exact h.lo.keep kp
  have bo' : fs = [] → f'.prot = false ∧ f'.ret = 0 := by rw [t4.1, t4.2]; exact h.bo
  refine ⟨?_, by rw [V.cur]; exact h.cu, hi', t1, hT', u1, by rw [u2, t2]; exact h.tfn, by rw [u3]; exact h.tdp, t3, fo, lo', bo'⟩
  refine ((h.rel.w i).move h.cu V e1 e2).rel hi' (T := T') hT' ⟨by rw [u1, t1], by rw [u2, t2]; exact h.tfn, by rw [u3, h.tdp, t3]; simp, ?_⟩
  rw [t3, t1]
  simp only [List.reverse_append, List.reverse_cons, List.reverse_nil, List.nil_append, List.reverse_reverse, List.singleton_append, if_true]
  exact ⟨F', fo, lo', bo'⟩
/-- the same variables, closures and cells; only the thread at hand moves -/
theorem Op0.putS (h : Op0 N root D m fu s M P i t T f fs F) {tabs : List TabD} {out : Bs} {ts : List TkD} {vs : List Vl} {stk : List Vl} {pc : Nat}
    (hs : ∀ q, (∃ n : Nat, P[n]? = some (some (.inl (i, q)))) → q < stk.length ∧ stk.getD q nilV = t.stack.getD q nilV) (hb : ∀ q, q < f.base → stk.getD q nilV = t.stack.getD q nilV) (hl : f.base ≤ stk.length)
    (r1 : F'.rest = F.rest) (r2 : F'.low = F.low)
    (fo : FrOZ ⟨N, D, { m with ths := m.ths.set i { t with stack := stk, frames := fs.reverse ++ [{ f with pc := pc }] }, tabs := tabs, out := out }, M.envs, M.clos, P, i, stk⟩ { f with pc := pc } F' ts vs stk.length 0) :
    Op0 N root D { m with ths := m.ths.set i { t with stack := stk, frames := fs.reverse ++ [{ f with pc := pc }] }, tabs := tabs, out := out } fu' s' { M.st { T with tasks := ts, vals := vs } with fuel := fu', first := s', tabs := tabs, out := out } P i { t with stack := stk, frames := fs.reverse ++ [{ f with pc := pc }] } { T with tasks := ts, vals := vs } { f with pc := pc } fs F' := by
  have R := h.rel
  have il := h.il
  have hret := h.fo.ret
  have hle := h.fo.le
  have ce : ClM m { m with ths := m.ths.set i { t with stack := stk, frames := fs.reverse ++ [{ f with pc := pc }] }, tabs := tabs, out := out } P P := ClM.same rfl rfl rfl
  have th : ∀ j, ({ m with ths := m.ths.set i { t with stack := stk, frames := fs.reverse ++ [{ f with pc := pc }] }, tabs := tabs, out := out } : VMD).th j = if j = i then { t with stack := stk, frames := fs.reverse ++ [{ f with pc := pc }] } else m.th j := fun j => th_set (m := { m with tabs := tabs, out := out }) h.hi
  refine h.put (t' := { t with stack := stk, frames := fs.reverse ++ [{ f with pc := pc }] }) (T' := { T with tasks := ts, vals := vs }) (F' := F') (f' := { f with pc := pc }) ⟨rfl, rfl, (R.w i).done, rfl, rfl, ⟨rfl, rfl, rfl, rfl, fun _ _ => rfl, Nat.le_refl _⟩, ⟨_, by simp only [MD.st, h.cu]; rfl⟩, by simp, fun j u hj hu => ?_, ce, EGr.refl _, List.prefix_refl _, (R.w i).cl, fun c h1 h2 => absurd h2 (by simp only; omega), (R.w i).vr.keep (fun n x hx => ?_) rfl, (R.w i).ac, fun _ _ _ _ => Iff.rfl⟩ rfl rfl (by simp only [MD.st, h.cu]) (List.getElem?_set_self il) h.st4 rfl rfl ⟨rfl, rfl⟩ h.tst rfl rfl r1 r2 fo ⟨rfl, rfl, rfl, ce, EGr.refl _, List.prefix_refl _, by show f.ret ≤ t.stack.length; omega, by show f.ret ≤ stk.length; omega, fun q hq _ => hb q (by omega), fun _ _ _ => Iff.rfl⟩
  · have hu : (m.ths.set i { t with stack := stk, frames := fs.reverse ++ [{ f with pc := pc }] })[j]? = some u := hu
    rw [List.getElem?_set_ne (fun e => hj e.symm)] at hu
    exact ⟨u, hu, rfl, rfl, rfl, rfl, fun _ _ => rfl⟩
  · rw [th]
    by_cases e : x.1 = i
    · rw [if_pos e]
      have hx' : P[n]? = some (some (.inl (i, x.2))) := by rw [← e]; exact hx
      have := hs x.2 ⟨n, hx'⟩
      rw [e, th_get h.hi]
      exact this
    · rw [if_neg e]
      exact ⟨(R.w i).vr.st n x hx, rfl⟩
theorem vals_take {V A st : List Vl} {b k : Nat} (hv : V = A ++ (st.take st.length).drop b) (hb : b ≤ st.length) (hk : k ≤ st.length - b) (vs : List Vl) : V.take (V.length - k) ++ vs = A ++ ((st.take (st.length - k) ++ vs).take (st.take (st.length - k) ++ vs).length).drop b := by
  rw [List.take_length] at hv ⊢
  rw [List.drop_append_of_le_length (by simp; omega), List.drop_take, ← List.append_assoc]
  congr 1
  have e : V.length - k = A.length + (st.length - k - b) := by rw [hv]; simp; omega
  rw [e, hv, List.take_length_add_append]
theorem itm_new {st vs : List Vl} {b n : Nat} {ts : List TkD} (hb : b ≤ st.length) (hn : n ≤ st.length - b) (it : Itm (st.drop b) ts (st.length - b - n + vs.length) (st.length - b - n)) : Itm ((st.take (st.length - n) ++ vs).drop b) ts (st.length - b - n + vs.length) (st.length - b - n + vs.length) := by
  refine it.mono (by omega) fun q hq => ?_
  rw [List.drop_append_of_le_length (by simp; omega), List.getD_eq_getElem?_getD, List.getElem?_append_left (by simp; omega), List.getElem?_drop, List.getElem?_take_of_lt (by omega), List.getD_eq_getElem?_getD, List.getElem?_drop]
/-- ONLY OPERANDS MOVE: k go, vs come -/
theorem Op0.ops (h : Op0 N root D m fu s M P i t T f fs F) {tabs : List TabD} {out : Bs} {ts seg : List TkD} {vs : List Vl} {pc k : Nat}
    (hk : k ≤ t.stack.length - (f.base + (D.fn (m.clos.getD f.clo cl0).p).nslots))
    (te : ts = seg ++ ⟨3, if f.prot then 1 else 0, F.low.length, none⟩ :: F.rest) (sg : ∀ t ∈ seg, t.k ≠ 3)
    (cb : Cb ⟨N, D, (m.clos.getD f.clo cl0).p, F.r, M.envs, F.lc, F.low.length⟩ ts false pc (t.stack.length - (f.base + (D.fn (m.clos.getD f.clo cl0).p).nslots) - k + vs.length) F.L F.lf)
    (it : Itm ((t.stack.take (t.stack.length - k) ++ vs).drop (f.base + (D.fn (m.clos.getD f.clo cl0).p).nslots)) ts (t.stack.length - (f.base + (D.fn (m.clos.getD f.clo cl0).p).nslots) - k + vs.length) (t.stack.length - (f.base + (D.fn (m.clos.getD f.clo cl0).p).nslots) - k + vs.length)) :
    Op0 N root D { m with ths := m.ths.set i { t with stack := t.stack.take (t.stack.length - k) ++ vs, frames := fs.reverse ++ [{ f with pc := pc }] }, tabs := tabs, out := out } fu' s' { M.st { T with tasks := ts, vals := T.vals.take (T.vals.length - k) ++ vs } with fuel := fu', first := s', tabs := tabs, out := out } P i { t with stack := t.stack.take (t.stack.length - k) ++ vs, frames := fs.reverse ++ [{ f with pc := pc }] } { T with tasks := ts, vals := T.vals.take (T.vals.length - k) ++ vs } { f with pc := pc } fs { F with seg := seg } := by
  have fo := h.fo
  have hle : f.base + (D.fn (m.clos.getD f.clo cl0).p).nslots ≤ t.stack.length := fo.le
  have hL : F.L.length ≤ (D.fn (m.clos.getD f.clo cl0).p).nslots := fo.ns
  have hret := fo.ret
  generalize hns : (D.fn (m.clos.getD f.clo cl0).p).nslots = ns at hk cb hle hL it
  have below : ∀ q, q < f.base + ns → (t.stack.take (t.stack.length - k) ++ vs).getD q nilV = t.stack.getD q nilV := fun q hq => by
    rw [gd_app (by simp; omega), gd_take (by omega)]
  have places : ∀ (n q : Nat), P[n]? = some (some (.inl (i, q))) → q < f.base + ns := fun n q hq => by
    by_cases hr : f.ret ≤ q
    · obtain ⟨j, s, j1, j2, j3⟩ := fo.pn n q hq hr ((h.rel.w i).vr.st n (i, q) hq |> fun z => by rw [th_get h.hi] at z; exact z)
      have := (List.getElem?_eq_some_iff.1 j1).1
      omega
    · omega
  have hvv : T.vals.take (T.vals.length - k) ++ vs = F.low ++ hidV t.stack f.base F.L ++ ((t.stack.take (t.stack.length - k) ++ vs).take (t.stack.take (t.stack.length - k) ++ vs).length).drop (f.base + ns) := by
    have hv := fo.vv
    have hv : T.vals = F.low ++ hidV t.stack f.base F.L ++ (t.stack.take t.stack.length).drop (f.base + (D.fn (m.clos.getD f.clo cl0).p).nslots) := hv
    rw [hns] at hv
    exact vals_take hv hle hk vs
  refine h.putS (F' := { F with seg := seg }) (fun q ⟨n, hq⟩ => ?_) (fun q hq => below q (by omega)) (by simp; omega) rfl rfl ⟨⟨fo.ci.keep (ClM.same rfl rfl rfl) (EGr.refl _) (List.prefix_refl _), te, sg, hret, ?_, ?_, fun n q h1 h2 h3 => ?_⟩, ?_, ?_, ?_, ⟨fo.fe.nm, fo.fe.at_⟩, fo.ll, ?_, fun n q h1 h2 h3 => ?_⟩
  · have hp := places n q hq
    refine ⟨?_, below q hp⟩
    rw [List.length_append, List.length_take]
    omega
  · show f.base + (D.fn (m.clos.getD f.clo cl0).p).nslots ≤ _
    rw [hns]
    simp only [List.length_append, List.length_take]
    omega
  · rw [hvv, List.append_assoc]
    exact List.prefix_append _ _
  · have h3 : q < (t.stack.take (t.stack.length - k) ++ vs).length := h3
    exact fo.pl n q h1 h2 (by have := places n q h1; omega)
  · show Cb _ _ _ _ ((t.stack.take (t.stack.length - k) ++ vs).length - (f.base + (D.fn (m.clos.getD f.clo cl0).p).nslots) + 0) _ _
    have e : (t.stack.take (t.stack.length - k) ++ vs).length - (f.base + (D.fn (m.clos.getD f.clo cl0).p).nslots) + 0 = t.stack.length - (f.base + ns) - k + vs.length := by
      rw [hns]
      simp only [List.length_append, List.length_take]
      omega
    rw [e]
    exact cb
  · show Itm (((t.stack.take (t.stack.length - k) ++ vs).take _).drop (f.base + (D.fn (m.clos.getD f.clo cl0).p).nslots)) ts ((t.stack.take (t.stack.length - k) ++ vs).length - (f.base + (D.fn (m.clos.getD f.clo cl0).p).nslots) + 0) ((t.stack.take (t.stack.length - k) ++ vs).length - (f.base + (D.fn (m.clos.getD f.clo cl0).p).nslots))
    have e : (t.stack.take (t.stack.length - k) ++ vs).length - (f.base + (D.fn (m.clos.getD f.clo cl0).p).nslots) = t.stack.length - (f.base + ns) - k + vs.length := by
      rw [hns]
      simp only [List.length_append, List.length_take]
      omega
    rw [e, hns, List.take_length]
    exact it
  · show F.L.length ≤ (D.fn (m.clos.getD f.clo cl0).p).nslots
    rw [hns]; exact hL
  · show _ = F.low ++ hidV (t.stack.take (t.stack.length - k) ++ vs) f.base F.L ++ ((t.stack.take (t.stack.length - k) ++ vs).take _).drop (f.base + (D.fn (m.clos.getD f.clo cl0).p).nslots)
    rw [hvv, hns]
    congr 2
    exact (hidV_congr fun j hj => below _ (by have := (List.getElem?_eq_some_iff.1 hj).1; omega)).symm
  · exact fo.pn n q h1 h2 (by have := places n q h1; omega)
end
end Go.Proofs.Qxb6500574aGreatDoor
