/-
  moon: INSTRUCTIONS THAT MOVE ONLY OPERANDS: the machine's and the interpreter's. Plain; no memory, no walk.
-/
import Derived.Test.Qxb6500574aGreatDoorZM12
namespace Go.Proofs.Qxb6500574aGreatDoor
set_option linter.unusedVariables false
set_option linter.unusedSimpArgs false
/-- one step: m: the interpreter without its first task k -/
def stK (N : List Nd) (root : Nat) (m0 m : MD) (k : TkD) : MD :=
    let d := N.getD k.n nd0
    let h := m.th.vals.length
    if k.k = 1 then (if k.n ≠ 0 then m.stmt N k.n k.e else m)
    else if k.k = 2 then m.eval N k.n k.x k.e
    else if k.k = 3 then m0.ret nilV nilV
    else if k.k = 4 then m
    else if k.k = 5 then m.pops 1
    else if k.k = 6 then { (m.pops 1).todo [⟨1, d.next, 0, some m.envs.length⟩] with envs := m.envs ++ [⟨d.s, m.topM 0, k.e⟩] }
    else if k.k = 7 then
      let n1 := N.getD d.a nd0
      { (m.pops 2).todo [⟨1, d.next, 0, some (m.envs.length + 1)⟩] with envs := m.envs ++ [⟨n1.s, m.topM 1, k.e⟩, ⟨(N.getD n1.next nd0).s, m.topM 0, some m.envs.length⟩] }
    else if k.k = 8 then
      let i := k.e.getD 0
      { (m.pops 1).todo [⟨1, d.next, 0, k.e⟩] with envs := m.envs.set i { m.envs.getD i en0 with v := m.topM 0 } }
    else if k.k = 9 then
      match m.find k.e d.s with
      | some i => { m.pops 1 with envs := m.envs.set i { m.envs.getD i en0 with v := m.topM 0 } }
      | none => (m.pops 1).setT ⟨4, 0, []⟩ (strV d.s) (m.topM 0)
    else if k.k = 10 then (m.pops 3).setT (m.topM 2) (m.topM 1) (m.topM 0)
    else if k.k = 11 then (m.pops 1).todo [⟨1, if truthy (m.topM 0) then d.b else d.c, 0, k.e⟩]
    else if k.k = 12 then m.todo [⟨2, d.a, 0, k.e⟩, ⟨13, k.n, 0, k.e⟩]
    else if k.k = 13 then (if truthy (m.topM 0) then (m.pops 1).todo [⟨1, d.b, 0, k.e⟩, ⟨14, k.n, 0, k.e⟩] else m.pops 1)
    else if k.k = 14 then m.burn fun m => m.todo [⟨12, k.n, 0, k.e⟩]
    else if k.k = 15 then
      (if (m.topM 2).t ≠ 2 ∨ (m.topM 1).t ≠ 2 ∨ (m.topM 0).t ≠ 2 then m.raise mFor
       else if !(cmpN 5 (m.topM 0).n 0) && !(cmpN 3 (m.topM 0).n 0) then m.raise mFor
       else m.todo [⟨16, k.n, 0, k.e⟩])
    else if k.k = 16 then
      (if cmpN (if cmpN 5 (m.topM 0).n 0 then 4 else 6) (m.topM 2).n (m.topM 1).n then
         { m.todo [⟨1, d.b, 0, some m.envs.length⟩, ⟨17, k.n, 0, k.e⟩] with envs := m.envs ++ [⟨d.s, m.topM 2, k.e⟩] }
       else m.pops 3)
    else if k.k = 17 then
      (m.upT fun t => { t with vals := t.vals.set (h - 3) { m.topM 2 with n := arithN 1 (m.topM 2).n (m.topM 0).n } }).burn fun m => m.todo [⟨16, k.n, 0, k.e⟩]
    else if k.k = 18 then (if (m.topM 0).t ≠ 4 then m.raise mFor else (m.push [nilV]).todo [⟨19, k.n, 0, k.e⟩])
    else if k.k = 19 then
      let kv := ((m.tabs.getD (m.topM 1).n tab0).next (m.topM 0)).getD (nilV, nilV)
      (if kv.1.t = 0 then m.pops 2
       else
         let n1 := N.getD d.a nd0
         { (m.upT fun t => { t with vals := t.vals.set (h - 1) kv.1 }).todo [⟨1, d.c, 0, some (m.envs.length + 1)⟩, ⟨20, k.n, 0, k.e⟩] with envs := m.envs ++ [⟨n1.s, kv.1, k.e⟩, ⟨(N.getD n1.next nd0).s, kv.2, some m.envs.length⟩] })
    else if k.k = 20 then m.burn fun m => m.todo [⟨19, k.n, 0, k.e⟩]
    else if k.k = 21 then (m.pops 2).ret (m.topM 1) (m.topM 0)
    else if k.k = 22 then m.apply N root k.x
    else if k.k = 23 then
      let m1 := (m.pops 1).setT (m.topM 1) (numV (fromIntN k.x)) (m.topM 0)
      if m1.done.isSome then m1 else m1.items d.next (k.x + 1) k.e
    else if k.k = 24 then (m.pops 2).bin d.n (m.topM 1) (m.topM 0)
    else if k.k = 25 then (m.pops 1).un d.n (m.topM 0)
    else if k.k = 26 then (if truthy (m.topM 0) then (m.pops 1).todo [⟨2, d.b, 0, k.e⟩] else m)
    else if k.k = 27 then (if truthy (m.topM 0) then m else (m.pops 1).todo [⟨2, d.b, 0, k.e⟩])
    else if k.k = 28 then (if (m.topM 1).t ≠ 4 then (m.pops 2).raise mIndex else (m.pops 2).push [(m.tabs.getD (m.topM 1).n tab0).get (m.topM 0)])
    else m
theorem step_is {N : List Nd} {root : Nat} {M : MD} {T : MTh} {k : TkD} {tl : List TkD} (h : M.ths[M.cur]? = some T) (ht : T.tasks = k :: tl) : M.step N root = stK N root M (M.st { T with tasks := tl }) k := by
  have hl := (List.getElem?_eq_some_iff.1 h).1
  have hth : M.th = T := by unfold MD.th; rw [List.getD_eq_getElem?_getD, h]; rfl
  have hu : (M.upT fun t => { t with tasks := tl }) = M.st { T with tasks := tl } := by
    have := st_up (T := T) hl (fun t => { t with tasks := tl })
    rw [st_self h] at this
    exact this
  unfold MD.step
  rw [hth, ht]
  dsimp only
  rw [hu]
  rfl
section
variable {N : List Nd} {root : Nat} {D : CmD} {S : Nat → Nat → Ty → Prop} {K : Cx} {m m1 : VMD} {fu s fu' s' : Nat} {M M' : MD} {P P' : List (Option Lc)} {i c : Nat} {t t' : ThD} {T T' : MTh} {f f' : FmD} {fs : List FmD} {F F' : FrIZ} {k : TkD} {tl : List TkD}
theorem Op.step (h : Op N root D S K m fu s M P i t T f fs F) (ht : T.tasks = k :: tl) : M.step N root = stK N root M (M.st { T with tasks := tl }) k := step_is (by rw [h.cu]; exact h.hT) ht
/-- the frame's function, its slots, its operands -/
abbrev gO (m : VMD) (f : FmD) : Nat := (m.clos.getD f.clo cl0).p
abbrev oO (D : CmD) (m : VMD) (t : ThD) (f : FmD) : Nat := t.stack.length - (f.base + (D.fn (gO m f)).nslots)
theorem Op.le (h : Op N root D S K m fu s M P i t T f fs F) : f.base + (D.fn (gO m f)).nslots ≤ t.stack.length := h.fo.le
theorem Op.vlen (h : Op N root D S K m fu s M P i t T f fs F) : T.vals.length = F.low.length + hidc F.L + oO D m t f := by
  have := h.fo.vv
  rw [this]
  have hle := h.le
  simp only [List.length_append, List.length_drop, List.length_take, hidV_len]
  show _ + (min t.stack.length t.stack.length - (f.base + (D.fn (gO m f)).nslots)) = _ + (t.stack.length - (f.base + (D.fn (gO m f)).nslots))
  rw [Nat.min_self]
/-- the values at the top are the same -/
theorem Op.top (h : Op N root D S K m fu s M P i t T f fs F) {n : Nat} (hn : n < oO D m t f) : T.vals.getD (T.vals.length - 1 - n) nilV = topV m i n := by
  have hv := h.fo.vv
  have hle := h.le
  have hl := h.vlen
  have ho : oO D m t f = t.stack.length - (f.base + (D.fn (gO m f)).nslots) := rfl
  unfold topV
  rw [th_get h.hi, hl]
  rw [hv]
  rw [List.getD_eq_getElem?_getD, List.getElem?_append_right (by simp only [List.length_append, hidV_len]; omega), List.getElem?_drop, List.take_length, ← List.getD_eq_getElem?_getD]
  congr 1
  simp only [List.length_append, hidV_len]
  show f.base + (D.fn (gO m f)).nslots + _ = _
  omega
theorem Op.top' (h : Op N root D S K m fu s M P i t T f fs F) {n : Nat} (hn : n < oO D m t f) : (M.st { T with tasks := tl }).topM n = topV m i n := by
  rw [st_top h.cl]
  exact h.top hn
theorem Op.ev (h : Op N root D S K m fu s M P i t T f fs F) {ev : EvD} {fu0 fu1 : Nat} {m1 : VMD} (e : roundP fu0 m i = .inr (ev, fu1, m1)) : ∃ K, VI K m1 := by
  rcases round_ok h.rt.at_ h.rm fu0 with ⟨fu2, m2, K2, t2, f2, e2, _⟩ | ⟨ev2, fu2, m2, e2, _, ⟨K2, t2, _, V, _⟩, _⟩
  · rw [e] at e2; cases e2
  · rw [e] at e2; cases e2; exact ⟨K2, V⟩
theorem Op.npu (h : Op N root D S K m fu s M P i t T f fs F) (vs : List Vl) : push m i vs = { m with ths := m.ths.set i { t with stack := t.stack.take (t.stack.length - 0) ++ vs } } := by
  rw [push_is h.hi]
  simp [VMD.setTh]
theorem Op.np (h : Op N root D S K m fu s M P i t T f fs F) (k : Nat) : pops m i k = { m with ths := m.ths.set i { t with stack := t.stack.take (t.stack.length - k) ++ [] } } := by
  rw [pops_is h.hi]
  simp [VMD.setTh]
theorem Op.npp (h : Op N root D S K m fu s M P i t T f fs F) (k : Nat) (vs : List Vl) : push (pops m i k) i vs = { m with ths := m.ths.set i { t with stack := t.stack.take (t.stack.length - k) ++ vs } } := by
  rw [pops_is h.hi, push_is (setTh_get h.hi), setTh_setTh]
  rfl
theorem setPc_nf {m1 : VMD} {t1 : ThD} (hi : m1.ths[i]? = some t1) (hf : t1.frames = fs.reverse ++ [f]) (y : Nat) : setPc m1 i y = m1.setTh i { t1 with frames := fs.reverse ++ [{ f with pc := y }] } := by
  unfold setPc
  dsimp only
  rw [th_get hi, hf]
  simp
theorem topF_nf {m1 : VMD} {t1 : ThD} (hi : m1.ths[i]? = some t1) (hf : t1.frames = fs.reverse ++ [f]) : topF m1 i = f := by
  unfold topF
  rw [th_get hi, hf]
  simp
/-- a plain instruction that comes to its end -/
theorem Op.rd (h : Op N root D S K m fu s M P i t T f fs F) {op x : Nat} {r : List In} (hc : AtC (D.fn (gO m f)).code f.pc ((op, x) :: r)) (ho : op ≠ 21 ∧ op ≠ 22 ∧ op ≠ 23 ∧ op ≠ 24 ∧ op ≠ 26 ∧ op ≠ 27) {t1 : ThD} (hp : plainP m i op x = (.inr (), m1)) (h1 : m1.ths[i]? = some t1) (hf : t1.frames = t.frames) :
    roundP fu m i = .inl (fu, m1.setTh i { t1 with frames := fs.reverse ++ [{ f with pc := f.pc + 1 }] }) := by
  rw [h.rt.rdp (h.at_ hc) ho, hp]
  unfold rdP
  dsimp only
  have hf1 : t1.frames = fs.reverse ++ [f] := by rw [hf, h.fr]
  rw [topF_nf h1 hf1, setPc_nf h1 hf1]
/-- ONLY OPERANDS MOVE, in one round and one step -/
theorem Op.pp (h : Op N root D S K m fu s M P i t T f fs F) (ht : T.tasks = k :: tl) (h3 : k.k ≠ 3) {op x n : Nat} {r : List In} (hc : AtC (D.fn (gO m f)).code f.pc ((op, x) :: r)) (ho : op ≠ 21 ∧ op ≠ 22 ∧ op ≠ 23 ∧ op ≠ 24 ∧ op ≠ 26 ∧ op ≠ 27) {vs : List Vl} {tabs : List TabD} {new : List TkD}
    (hp : plainP m i op x = (.inr (), { m with ths := m.ths.set i { t with stack := t.stack.take (t.stack.length - n) ++ vs }, tabs := tabs })) (hn : n ≤ oO D m t f) (hnew : ∀ t ∈ new, t.k ≠ 3)
    (hM : M.step N root = { M.st { T with tasks := new ++ tl, vals := T.vals.take (T.vals.length - n) ++ vs } with tabs := tabs })
    (cb : Cb ⟨N, D, gO m f, F.r, M.envs, F.lc, F.low.length⟩ (new ++ tl) false (f.pc + 1) (oO D m t f - n + vs.length) F.L F.lf)
    (it : Itm (t.stack.drop (f.base + (D.fn (gO m f)).nslots)) (new ++ tl) (oO D m t f - n + vs.length) (oO D m t f - n)) : PgZ N root D i M.stack s 1 m fu M := by
  refine PgZ.step (h.rel.w i).done ?_
  rw [hM]
  have hr := h.rd hc ho hp (List.getElem?_set_self h.il) rfl
  have hb : FrB (Zo N D m M P i t) f F (k :: tl) T.vals t.stack.length := by rw [← ht]; exact h.fo.toFrB
  obtain ⟨seg, e1, e2⟩ := hb.tail (ts := []) h3
  have R := (h.ops (fu' := fu) (s' := s) (tabs := tabs) (out := m.out) (ts := new ++ tl) (seg := new ++ seg) (vs := vs) (pc := f.pc + 1) (k := n) hn (by rw [e1, List.append_assoc]) (fun t ht => by rcases List.mem_append.1 ht with z | z; exact hnew t z; exact e2 t z) cb (itm_new h.le hn it)).rel
  refine PgZ.round hr (PgZ.rel (P := P) ?_ h.cu rfl)
  have eM : ({ M.st { T with tasks := new ++ tl, vals := T.vals.take (T.vals.length - n) ++ vs } with fuel := fu, first := s, tabs := tabs, out := m.out } : MD) = { M.st { T with tasks := new ++ tl, vals := T.vals.take (T.vals.length - n) ++ vs } with tabs := tabs } := by
    rw [← (h.rel.w i).fuel, ← (h.rel.w i).first, ← (h.rel.w i).out]
    rfl
  rw [eM] at R
  have em : (({ m with ths := m.ths.set i { t with stack := t.stack.take (t.stack.length - n) ++ vs }, tabs := tabs } : VMD).setTh i { t with stack := t.stack.take (t.stack.length - n) ++ vs, frames := fs.reverse ++ [{ f with pc := f.pc + 1 }] }) = { m with ths := m.ths.set i { t with stack := t.stack.take (t.stack.length - n) ++ vs, frames := fs.reverse ++ [{ f with pc := f.pc + 1 }] }, tabs := tabs, out := m.out } := by
    simp [VMD.setTh]
  show Rel N root D (({ m with ths := m.ths.set i { t with stack := t.stack.take (t.stack.length - n) ++ vs }, tabs := tabs } : VMD).setTh i { t with stack := t.stack.take (t.stack.length - n) ++ vs, frames := fs.reverse ++ [{ f with pc := f.pc + 1 }] }) fu s _ P
  rw [em]
  exact R
/-- AN ERROR: n operands are gone -/
theorem Op.thr (h : Op N root D S K m fu s M P i t T f fs F) (ht : T.tasks = k :: tl) (h3 : k.k ≠ 3) {n y fu1 : Nat} {v : Vl} (hI : (instrP m i).2 = (.inl (.inl v), { m with ths := m.ths.set i { t with stack := t.stack.take (t.stack.length - n), frames := fs.reverse ++ [{ f with pc := y }] } }))
    (hr : roundP fu m i = thrD fu1 { m with ths := m.ths.set i { t with stack := t.stack.take (t.stack.length - n), frames := fs.reverse ++ [{ f with pc := y }] } } i v) (hn : n ≤ oO D m t f) {V : List Vl} (hV : F.low <+: V) :
    PgZ N root D i M.stack s 1 m fu (({ M.st { T with tasks := tl, vals := V } with fuel := fu1 } : MD).throw v) := by
  obtain ⟨K', t', l, V1, U, R, hi, hs1, g1, g2⟩ := instr_ok h.rt.at_ h.rm
  rw [hI] at V1
  dsimp only at V1
  have hb : FrB (Zo N D m M P i t) f F (k :: tl) T.vals t.stack.length := by rw [← ht]; exact h.fo.toFrB
  obtain ⟨seg, e1, e2⟩ := hb.tail (ts := []) h3
  have fo := h.fo
  have hle := h.le
  have ho : oO D m t f = t.stack.length - (f.base + (D.fn (gO m f)).nslots) := rfl
  have hret := fo.ret
  have hL : F.L.length ≤ (D.fn (gO m f)).nslots := fo.ns
  have W := h.rel.w i
  have hst : ∀ a q : Nat, P[a]? = some (some (.inl (i, q))) → q < t.stack.length := fun a q hq => by
    have := W.vr.st a (i, q) hq
    rw [th_get h.hi] at this
    exact this
  have places : ∀ a q : Nat, P[a]? = some (some (.inl (i, q))) → q < f.base + (D.fn (gO m f)).nslots := fun a q hq => by
    by_cases hr : f.ret ≤ q
    · obtain ⟨j, s, j1, j2, j3⟩ := fo.pn a q hq hr (hst a q hq)
      have := (List.getElem?_eq_some_iff.1 j1).1
      omega
    · omega
  have ce : ClM m { m with ths := m.ths.set i { t with stack := t.stack.take (t.stack.length - n), frames := fs.reverse ++ [{ f with pc := y }] } } P P := ClM.same rfl rfl rfl
  have th : ∀ j, ({ m with ths := m.ths.set i { t with stack := t.stack.take (t.stack.length - n), frames := fs.reverse ++ [{ f with pc := y }] } } : VMD).th j = if j = i then { t with stack := t.stack.take (t.stack.length - n), frames := fs.reverse ++ [{ f with pc := y }] } else m.th j := fun j => th_set h.hi
  have gd : ∀ q, q < f.base + (D.fn (gO m f)).nslots → (t.stack.take (t.stack.length - n)).getD q nilV = t.stack.getD q nilV := fun q hq => gd_take (by omega)
  have MV : MvW N D m { m with ths := m.ths.set i { t with stack := t.stack.take (t.stack.length - n), frames := fs.reverse ++ [{ f with pc := y }] } } M { M.st { T with tasks := tl, vals := V } with fuel := fu1 } P P i :=
    ⟨W.out, W.tabs, W.done, rfl, rfl, ⟨rfl, rfl, rfl, rfl, fun _ _ => rfl, Nat.le_refl _⟩, ⟨{ T with tasks := tl, vals := V }, by simp only [MD.st, h.cu]⟩, by simp, fun j u hj hu => by
      have hu : (m.ths.set i { t with stack := t.stack.take (t.stack.length - n), frames := fs.reverse ++ [{ f with pc := y }] })[j]? = some u := hu
      rw [List.getElem?_set_ne (fun e => hj e.symm)] at hu
      exact ⟨u, hu, rfl, rfl, rfl, rfl, fun _ _ => rfl⟩, ce, EGr.refl _, List.prefix_refl _, W.cl, fun c h1 h2 => absurd h2 (by simp only; omega), W.vr.keep (fun a x hx => by
      rw [th]
      by_cases e : x.1 = i
      · rw [if_pos e, e, th_get h.hi]
        have hx' : P[a]? = some (some (.inl (i, x.2))) := by rw [← e]; exact hx
        have := places a x.2 hx'
        exact ⟨by simp only [List.length_take]; omega, gd _ this⟩
      · rw [if_neg e]
        exact ⟨W.vr.st a x hx, rfl⟩) rfl, W.ac, fun _ _ _ _ => Iff.rfl⟩
  have W1 := W.move h.cu MV (fu' := fu1) (s' := s) rfl W.first
  have KP : KpR (Zo N D m M P i t) (Zo N D { m with ths := m.ths.set i { t with stack := t.stack.take (t.stack.length - n), frames := fs.reverse ++ [{ f with pc := y }] } } { M.st { T with tasks := tl, vals := V } with fuel := fu1 } P i { t with stack := t.stack.take (t.stack.length - n), frames := fs.reverse ++ [{ f with pc := y }] }) f.ret :=
    ⟨rfl, rfl, rfl, ce, EGr.refl _, List.prefix_refl _, by show f.ret ≤ t.stack.length; omega, by show f.ret ≤ (t.stack.take _).length; rw [List.length_take]; omega, fun q hq _ => gd q (by omega), fun _ _ _ => Iff.rfl⟩
  refine RelW.throw (t := { t with stack := t.stack.take (t.stack.length - n), frames := fs.reverse ++ [{ f with pc := y }] }) (T := { T with tasks := tl, vals := V }) (f := { f with pc := y }) (fs := fs) (F := { F with seg := seg }) W1 h.cu V1 (List.getElem?_set_self h.il) (by show (M.ths.set M.cur _)[i]? = _; rw [h.cu, List.getElem?_set_self (by rw [W.tl]; exact h.il)]) h.rt.at_.st h.tst h.tfn h.tdp rfl ⟨fo.ci.keep ce (EGr.refl _) (List.prefix_refl _), e1, e2, hret, ?_, hV, fun a q h1 h2 h3 => ?_⟩ (h.lo.keep KP) h.bo v hr (fun ev fu2 e => h.ev e)
  · show f.base + (D.fn (gO m f)).nslots ≤ (t.stack.take _).length
    rw [List.length_take]
    omega
  · exact fo.pl a q h1 h2 (hst a q h1)
end
end Go.Proofs.Qxb6500574aGreatDoor
