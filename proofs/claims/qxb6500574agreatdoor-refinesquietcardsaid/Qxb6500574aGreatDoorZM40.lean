/-
  moon: COROUTINES: yield, resume, create. Plain; no memory, no walk.
-/
import Derived.Test.Qxb6500574aGreatDoorZM39
namespace Go.Proofs.Qxb6500574aGreatDoor
set_option linter.unusedVariables false
set_option linter.unusedSimpArgs false
section
variable {N : List Nd} {root : Nat} {D : CmD} {S : Nat → Nat → Ty → Prop} {K : Cx} {m m1 : VMD} {fu s fu' s' : Nat} {M M' : MD} {P P' : List (Option Lc)} {i c : Nat} {t t' : ThD} {T T' : MTh} {f f' : FmD} {fs : List FmD} {F F' : FrIZ} {k : TkD} {tl : List TkD} {stk A : List Vl} {pc x : Nat} {v w : Vl} {seg : List TkD}
/-- yield -/
theorem CalS.yld (h : CalS N root D S K m fu s M P i t T f fs F tl seg x) {a : Vl} (h0 : i ≠ 0) (hc : callP m i x = (.inr ⟨3, 0, 0, a, nilV⟩, { m with ths := m.ths.set i { t with st := 2, stack := t.stack.take (t.stack.length - (x + 1)), frames := fs.reverse ++ [{ f with pc := f.pc + 1 }] } })) :
    PgZ N root D i M.stack s 1 m fu (match (cM M T tl x fu).stack with
       | [] => cM M T tl x fu
       | c :: r => (({ ((cM M T tl x fu).upT fun t => { t with st := 2 }) with stack := r, cur := c } : MD).upT fun t => { t with st := 4 }).push [boolV true, a]) := by
  have W := h.rel.w i
  have hr := h.evt hc (by show (3 : Nat) ≠ 0; decide)
  obtain ⟨K2, V2⟩ := h.ev hr
  have R := h.sleep (fu1 := fu - 1) (z := 2) h.c1 h.c3 h.it h.e1 h.e2 (by decide)
  have Dl := R.deliver V2 true a
  have hsk : (cM M T tl x fu).stack = M.stack := rfl
  rw [hsk]
  cases hs : M.stack with
  | nil =>
    exfalso
    have la := W.la
    rw [hs, h.cu] at la
    simp at la
    exact h0 la
  | cons c r =>
    refine PgZ.event hr ⟨(fun z => by cases z), (fun z => by cases z), fun _ => ?_, (fun z => by cases z)⟩
    have e : ((cM M T tl x fu).upT fun t => { t with st := 2 }) = ({ M.st { T with st := 2, tasks := tl, vals := T.vals.take (T.vals.length - (x + 1)) } with fuel := fu - 1 } : MD) := st_up (M := { M with fuel := fu - 1 }) (T := cTZ T tl x) h.cl _
    rw [e]
    have hs2 : ({ M.st { T with st := 2, tasks := tl, vals := T.vals.take (T.vals.length - (x + 1)) } with fuel := fu - 1 } : MD).stack = c :: r := hs
    have hb : ({ M.st { T with st := 2, tasks := tl, vals := T.vals.take (T.vals.length - (x + 1)) } with fuel := fu - 1 } : MD).back true a = (({ ({ M.st { T with st := 2, tasks := tl, vals := T.vals.take (T.vals.length - (x + 1)) } with fuel := fu - 1 } : MD) with stack := r, cur := c } : MD).upT fun t => { t with st := 4 }).push [boolV true, a] := by
      unfold MD.back
      rw [hs2]
    rw [hb, hs2] at Dl
    exact Dl
/-- resume -/
theorem CalS.res (h : CalS N root D S K m fu s M P i t T f fs F tl seg x) {j : Nat} {a : Vl} (hj : j < m.ths.length) (hst : (m.th j).st = 1 ∨ (m.th j).st = 2) (hc : callP m i x = (.inr ⟨4, j, 0, a, nilV⟩, { m with ths := m.ths.set i { t with st := 3, stack := t.stack.take (t.stack.length - (x + 1)), frames := fs.reverse ++ [{ f with pc := f.pc + 1 }] } })) :
    PgZ N root D i M.stack s 1 m fu (if ((cM M T tl x fu).ths.getD j mt0).st = 1 then ({ (({ ((cM M T tl x fu).upT fun t => { t with st := 3 }) with stack := (cM M T tl x fu).cur :: (cM M T tl x fu).stack, cur := j } : MD).upT fun t => { t with st := 4 }) with first := (cM M T tl x fu).first + 1 } : MD).enter N root ((cM M T tl x fu).ths.getD j mt0).fn [a] 0 else (({ ((cM M T tl x fu).upT fun t => { t with st := 3 }) with stack := (cM M T tl x fu).cur :: (cM M T tl x fu).stack, cur := j } : MD).upT fun t => { t with st := 4 }).push [a, nilV]) := by
  have W := h.rel.w i
  have hr := h.evt hc (by show (4 : Nat) ≠ 0; decide)
  have V := h.rt.at_.vi
  have R := h.sleep (fu1 := fu - 1) (z := 3) h.c1 h.c3 h.it h.e1 h.e2 (by decide)
  have hji : j ≠ i := fun e => by
    rw [e, th_get h.hi, h.st4] at hst
    omega
  obtain ⟨tj, htj⟩ : ∃ tj, m.ths[j]? = some tj := ⟨_, List.getElem?_eq_getElem hj⟩
  have hthj : m.th j = tj := th_get htj
  rw [hthj] at hst
  generalize hm3 : ({ m with ths := m.ths.set i { t with st := 3, stack := t.stack.take (t.stack.length - (x + 1)), frames := fs.reverse ++ [{ f with pc := f.pc + 1 }] } } : VMD) = m3 at hr R
  have h3j : m3.ths[j]? = some tj := by
    rw [← hm3]
    show (m.ths.set i _)[j]? = _
    rw [List.getElem?_set_ne (fun e => hji e.symm)]
    exact htj
  have h3th : ∀ d, m3.th d = if d = i then { t with st := 3, stack := t.stack.take (t.stack.length - (x + 1)), frames := fs.reverse ++ [{ f with pc := f.pc + 1 }] } else m.th d := fun d => by rw [← hm3]; exact th_set h.hi
  have h3l : m3.ths.length = m.ths.length := by rw [← hm3]; simp
  have e3 : ((cM M T tl x fu).upT fun t => { t with st := 3 }) = ({ M.st { T with st := 3, tasks := tl, vals := T.vals.take (T.vals.length - (x + 1)) } with fuel := fu - 1 } : MD) := st_up (M := { M with fuel := fu - 1 }) (T := cTZ T tl x) h.cl _
  rw [e3]
  have hths : (cM M T tl x fu).ths.getD j mt0 = ({ M.st { T with st := 3, tasks := tl, vals := T.vals.take (T.vals.length - (x + 1)) } with fuel := fu - 1 } : MD).ths.getD j mt0 := by
    show (M.ths.set M.cur _).getD j mt0 = (M.ths.set M.cur _).getD j mt0
    rw [h.cu, List.getD_eq_getElem?_getD, List.getD_eq_getElem?_getD, List.getElem?_set_ne (fun e => hji e.symm), List.getElem?_set_ne (fun e => hji e.symm)]
  rw [hths]
  have hcur : (cM M T tl x fu).cur = i := h.cu
  have hsk : (cM M T tl x fu).stack = M.stack := rfl
  have hfi : (cM M T tl x fu).first = s := W.first
  rw [hcur, hsk, hfi]
  have hM3c : ({ M.st { T with st := 3, tasks := tl, vals := T.vals.take (T.vals.length - (x + 1)) } with fuel := fu - 1 } : MD).clos = M.clos := rfl
  generalize hMM : ({ M.st { T with st := 3, tasks := tl, vals := T.vals.take (T.vals.length - (x + 1)) } with fuel := fu - 1 } : MD) = M3 at R hths hM3c ⊢
  obtain ⟨Tj, hTj, RT⟩ := R.th j tj h3j
  have hTjl := (List.getElem?_eq_some_iff.1 hTj).1
  have hgd : M3.ths.getD j mt0 = Tj := by rw [List.getD_eq_getElem?_getD, hTj]; rfl
  rw [hgd]
  have hTst := RT.st
  have nd : (j :: i :: M.stack).Nodup := by
    have q := W.nd
    rw [h.cu] at q
    refine List.nodup_cons.2 ⟨fun z => ?_, q⟩
    rcases List.mem_cons.1 z with z | z
    · exact hji z
    · have := (W.wt j z).1
      rw [hthj] at this
      omega
  have la : (j :: i :: M.stack).getLast? = some 0 := by
    have q := W.la
    rw [h.cu] at q
    simpa using q
  have wt : ∀ d ∈ i :: M.stack, (m3.th d).st = 3 ∧ d < m3.ths.length := fun d hd => by
    rw [h3th, h3l]
    by_cases e : d = i
    · rw [if_pos e, e]
      exact ⟨rfl, h.il⟩
    · rw [if_neg e]
      rcases List.mem_cons.1 hd with z | z
      · exact absurd z e
      · exact W.wt d z
  have hthj3 : m3.th j = tj := th_get h3j
  have hMj : ({ M3 with stack := i :: M.stack, cur := j } : MD).ths[({ M3 with stack := i :: M.stack, cur := j } : MD).cur]? = some Tj := hTj
  have eu : (({ M3 with stack := i :: M.stack, cur := j } : MD).upT fun t => { t with st := 4 }) = ({ M3 with stack := i :: M.stack, cur := j } : MD).st { Tj with st := 4 } := by
    have z := st_up (M := { M3 with stack := i :: M.stack, cur := j }) (T := Tj) hTjl (fun t => { t with st := 4 })
    rw [st_self hMj] at z
    exact z
  rw [eu]
  refine PgZ.event hr ⟨(fun z => by cases z), fun _ => ?_, (fun z => by rcases z with z | z <;> cases z), (fun z => by cases z)⟩
  show (∃ P, Rel N root D (startP m3 j a nilV) (fu - 1) (if (m3.th j).st = 1 then s + 1 else s) _ P) ∧ _ = j ∧ _ = i :: M.stack
  rw [hthj3]
  rcases hst with h1 | h2
  · rw [if_pos h1, if_pos (by rw [hTst]; exact h1)]
    have ok := V.th j tj htj
    have hf0 : tj.frames = [] := ok.al.2 (.inl h1)
    have hs0 : tj.stack = [] := ok.em hf0
    have hfr := RT.fr
    rw [hf0] at hfr
    obtain ⟨q1, q2⟩ := hfr
    have hfn := RT.fn
    have W3 := (R.w j).go (s' := s + 1) (t' := tj) (T' := Tj) (r := i :: M.stack) h3j hTj (List.prefix_refl _) nd la wt
    have em3 : m3.setTh j tj = m3 := by
      show ({ m3 with ths := m3.ths.set j tj } : VMD) = m3
      rw [set_self h3j]
    rw [em3, set_self hTj] at W3
    have hcl3 : m3.clos = m.clos := by rw [← hm3]
    have hpr3 : m3.protos = m.protos := by rw [← hm3]
    have hfl : tj.fn < m.clos.length := by rw [V.kc]; exact ok.fn
    obtain ⟨q, p, k1, k2, _⟩ := V.proto (c := tj.fn) ok.fn
    have hpl : (m3.clos.getD tj.fn cl0).p < m3.protos.length := by
      rw [hcl3, hpr3]
      have eq : m.clos.getD tj.fn cl0 = q := by simp [k1]
      rw [eq]
      exact (List.getElem?_eq_some_iff.1 k2).1
    obtain ⟨E', e', P', b1, b2⟩ := W3.enter (c := tj.fn) (ret := 0) (prot := false) (args := [a]) (t := tj) (T := Tj) (ts := []) (vs := []) rfl h3j hTj hfn (by rw [hcl3]; exact hfl) hpl (Nat.zero_le _) (by rw [hf0]; exact ⟨rfl, rfl⟩) (fun _ => ⟨rfl, rfl⟩) (fun n q hq => by
      have := (R.w j).vr.st n (j, q) hq
      rw [hthj3, hs0] at this
      simp at this)
    have b1 : bindA N 4 (N.getD (M3.clos.getD tj.fn (0, none)).1 nd0).a [a] M3.envs (M3.clos.getD tj.fn (0, none)).2 = (E', e') := b1
    refine ⟨⟨P', ?_⟩, rfl, rfl⟩
    have em : startP m3 j a nilV = { m3 with ths := m3.ths.set j { tj with st := 4, stack := tj.stack ++ (List.range (m3.proto tj.fn).ns).map (fun q => if q < (m3.proto tj.fn).np then [a].getD q nilV else nilV), frames := tj.frames ++ [⟨tj.fn, 0, tj.stack.length, 0, false⟩] } } := by
      unfold startP
      dsimp only
      rw [hthj3, if_pos h1, enter_is h3j, th_get (setTh_get h3j), setTh_setTh]
      rfl
    rw [em]
    have eM : ({ ({ M3 with stack := i :: M.stack, cur := j } : MD).st { Tj with st := 4 } with first := s + 1 } : MD).enter N root Tj.fn [a] 0 = { ({ M3 with cur := j, stack := i :: M.stack, first := s + 1 } : MD).st { Tj with st := 4, depth := tj.frames.length + 1, tasks := ⟨1, if (M3.clos.getD tj.fn (0, none)).1 = 0 then root else (N.getD (M3.clos.getD tj.fn (0, none)).1 nd0).b, 0, e'⟩ :: ⟨3, if false then 1 else 0, ([] : List Vl).length, none⟩ :: [], vals := [] } with envs := E' } := by
      have hcf : M3.clos.getD Tj.fn (0, none) = M3.clos.getD tj.fn (0, none) := by rw [hfn]
      unfold MD.enter
      have e0 : ({ ({ M3 with stack := i :: M.stack, cur := j } : MD).st { Tj with st := 4 } with first := s + 1 } : MD).clos = M3.clos := rfl
      have e00 : ({ ({ M3 with stack := i :: M.stack, cur := j } : MD).st { Tj with st := 4 } with first := s + 1 } : MD).envs = M3.envs := rfl
      rw [e0, e00]
      dsimp only
      rw [hcf, b1]
      have e := st_up (M := { M3 with stack := i :: M.stack, cur := j, first := s + 1 }) (T := { Tj with st := 4 }) hTjl (fun t => { t with depth := t.depth + 1, tasks := ⟨1, if (M3.clos.getD tj.fn (0, none)).1 = 0 then root else (N.getD (M3.clos.getD tj.fn (0, none)).1 nd0).b, 0, e'⟩ :: ⟨3, 0, t.vals.length, none⟩ :: t.tasks })
      refine (congrArg (fun Q : MD => { Q with envs := E' }) e).trans ?_
      have hd := RT.dp
      rw [hf0] at hd
      rw [q1, q2, hd, hf0]
      rfl
    rw [eM]
    exact b2
  · rw [if_neg (by omega), if_neg (by rw [hTst]; omega)]
    have ne : tj.frames ≠ [] := fun z => by
      have := (V.th j tj htj).al.1 z
      omega
    have R2 := R.wake (c := j) (r := i :: M.stack) h3j (by omega) (by omega) ne nd la wt a nilV hTj
    have e := st_push (M := { M3 with stack := i :: M.stack, cur := j }) (T := { Tj with st := 4 }) hTjl [a, nilV]
    rw [e]
    exact ⟨⟨P, R2⟩, rfl, rfl⟩
end
end Go.Proofs.Qxb6500574aGreatDoor
