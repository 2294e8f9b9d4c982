/-
  moon: INSTRUCTIONS, one by one: stores, jumps, unary operators. Plain; no memory, no walk.
-/
import Derived.Test.Qxb6500574aGreatDoorZM14
namespace Go.Proofs.Qxb6500574aGreatDoor
set_option linter.unusedVariables false
set_option linter.unusedSimpArgs false
section
variable {N : List Nd} {root : Nat} {D : CmD} {S : Nat → Nat → Ty → Prop} {K : Cx} {m m1 : VMD} {fu s fu' s' : Nat} {M M' : MD} {P P' : List (Option Lc)} {i c : Nat} {t t' : ThD} {T T' : MTh} {f f' : FmD} {fs : List FmD} {F F' : FrIZ} {k : TkD} {tl : List TkD}
/-- A ROUND AND A STEP that move operands only -/
theorem Op.finN (h : Op N root D S K m fu s M P i t T f fs F) (ht : T.tasks = k :: tl) (h3 : k.k ≠ 3) {n y fu1 : Nat} {vs : List Vl} {tabs : List TabD} {out : Bs} {new : List TkD}
    (hr : roundP fu m i = .inl (fu1, { m with ths := m.ths.set i { t with stack := t.stack.take (t.stack.length - n) ++ vs, frames := fs.reverse ++ [{ f with pc := y }] }, tabs := tabs, out := out })) (hn : n ≤ oO D m t f) (hnew : ∀ t ∈ new, t.k ≠ 3)
    (hM : M.step N root = { M.st { T with tasks := new ++ tl, vals := T.vals.take (T.vals.length - n) ++ vs } with fuel := fu1, tabs := tabs, out := out })
    (cb : Cb ⟨N, D, gO m f, F.r, M.envs, F.lc, F.low.length⟩ (new ++ tl) false y (oO D m t f - n + vs.length) F.L F.lf)
    (it : Itm ((t.stack.take (t.stack.length - n) ++ vs).drop (f.base + (D.fn (gO m f)).nslots)) (new ++ tl) (oO D m t f - n + vs.length) (oO D m t f - n + vs.length)) : PgZ N root D i M.stack s 1 m fu M := by
  refine PgZ.step (h.rel.w i).done ?_
  rw [hM]
  have hb : FrB (Zo N D m M P i t) f F (k :: tl) T.vals t.stack.length := by rw [← ht]; exact h.fo.toFrB
  obtain ⟨seg, e1, e2⟩ := hb.tail (ts := []) h3
  have R := (h.ops (fu' := fu1) (s' := s) (tabs := tabs) (out := out) (ts := new ++ tl) (seg := new ++ seg) (vs := vs) (pc := y) (k := n) hn (by rw [e1, List.append_assoc]) (fun t ht => by rcases List.mem_append.1 ht with z | z; exact hnew t z; exact e2 t z) cb it).rel
  refine PgZ.round hr (PgZ.rel (P := P) ?_ h.cu rfl)
  have eM : ({ M.st { T with tasks := new ++ tl, vals := T.vals.take (T.vals.length - n) ++ vs } with fuel := fu1, first := s, tabs := tabs, out := out } : MD) = { M.st { T with tasks := new ++ tl, vals := T.vals.take (T.vals.length - n) ++ vs } with fuel := fu1, tabs := tabs, out := out } := by
    rw [← (h.rel.w i).first]
    rfl
  rw [eM] at R
  exact R
theorem Op.fin (h : Op N root D S K m fu s M P i t T f fs F) (ht : T.tasks = k :: tl) (h3 : k.k ≠ 3) {n y fu1 : Nat} {vs : List Vl} {tabs : List TabD} {out : Bs} {new : List TkD}
    (hr : roundP fu m i = .inl (fu1, { m with ths := m.ths.set i { t with stack := t.stack.take (t.stack.length - n) ++ vs, frames := fs.reverse ++ [{ f with pc := y }] }, tabs := tabs, out := out })) (hn : n ≤ oO D m t f) (hnew : ∀ t ∈ new, t.k ≠ 3)
    (hM : M.step N root = { M.st { T with tasks := new ++ tl, vals := T.vals.take (T.vals.length - n) ++ vs } with fuel := fu1, tabs := tabs, out := out })
    (cb : Cb ⟨N, D, gO m f, F.r, M.envs, F.lc, F.low.length⟩ (new ++ tl) false y (oO D m t f - n + vs.length) F.L F.lf)
    (it : Itm (t.stack.drop (f.base + (D.fn (gO m f)).nslots)) (new ++ tl) (oO D m t f - n + vs.length) (oO D m t f - n)) : PgZ N root D i M.stack s 1 m fu M :=
  h.finN ht h3 hr hn hnew hM cb (itm_new h.le hn it)
theorem Op.fin0 (h : Op N root D S K m fu s M P i t T f fs F) (ht : T.tasks = k :: tl) (h3 : k.k ≠ 3) {n y : Nat} {vs : List Vl} {new : List TkD}
    (hr : roundP fu m i = .inl (fu, { m with ths := m.ths.set i { t with stack := t.stack.take (t.stack.length - n) ++ vs, frames := fs.reverse ++ [{ f with pc := y }] } })) (hn : n ≤ oO D m t f) (hnew : ∀ t ∈ new, t.k ≠ 3)
    (hM : M.step N root = M.st { T with tasks := new ++ tl, vals := T.vals.take (T.vals.length - n) ++ vs })
    (cb : Cb ⟨N, D, gO m f, F.r, M.envs, F.lc, F.low.length⟩ (new ++ tl) false y (oO D m t f - n + vs.length) F.L F.lf)
    (it : Itm (t.stack.drop (f.base + (D.fn (gO m f)).nslots)) (new ++ tl) (oO D m t f - n + vs.length) (oO D m t f - n)) : PgZ N root D i M.stack s 1 m fu M :=
  h.fin ht h3 (tabs := m.tabs) (out := m.out) hr hn hnew (by rw [hM, ← (h.rel.w i).fuel, ← (h.rel.w i).tabs, ← (h.rel.w i).out]; rfl) cb it
/-- a trap -/
theorem Op.ptrap (h : Op N root D S K m fu s M P i t T f fs F) {op x e : Nat} {r : List In} (hc : AtC (D.fn (gO m f)).code f.pc ((op, x) :: r)) (ho : op ≠ 21 ∧ op ≠ 22 ∧ op ≠ 23 ∧ op ≠ 24 ∧ op ≠ 26 ∧ op ≠ 27) (hp : plainP m i op x = (.inl (.inr e), m1)) (hout : m1.out = m.out) {T1 : MTh} (hM : M.step N root = (M.st T1).finish e [45]) : PgZ N root D i M.stack s 1 m fu M := by
  refine PgZ.step (h.rel.w i).done ?_
  rw [hM]
  refine PgZ.trap (e := e) (fu' := fu) (m1 := m1) ?_ ?_
  · rw [h.rt.rdp (h.at_ hc) ho, hp]
    rfl
  · show some (AnD.mk e M.fuel M.first M.out [45]) = _
    rw [(h.rel.w i).fuel, (h.rel.w i).first, (h.rel.w i).out, hout]
/-- setPc and pops together -/
theorem Op.spc (h : Op N root D S K m fu s M P i t T f fs F) (y : Nat) : setPc m i y = { m with ths := m.ths.set i { t with stack := t.stack.take (t.stack.length - 0) ++ [], frames := fs.reverse ++ [{ f with pc := y }] } } := by
  rw [setPc_nf h.hi h.fr]
  simp [VMD.setTh]
theorem Op.spp (h : Op N root D S K m fu s M P i t T f fs F) (n y : Nat) : setPc (pops m i n) i y = { m with ths := m.ths.set i { t with stack := t.stack.take (t.stack.length - n) ++ [], frames := fs.reverse ++ [{ f with pc := y }] } } := by
  rw [pops_is h.hi, setPc_nf (t1 := { t with stack := t.stack.take (t.stack.length - n) }) (fs := fs) (f := f) (setTh_get h.hi) h.fr]
  simp [VMD.setTh]
/-- 21: a jump forward -/
theorem Op.r21 (h : Op N root D S K m fu s M P i t T f fs F) {x : Nat} {r : List In} (hc : AtC (D.fn (gO m f)).code f.pc ((21, x) :: r)) (hx : f.pc < x) : roundP fu m i = .inl (fu, { m with ths := m.ths.set i { t with stack := t.stack.take (t.stack.length - 0) ++ [], frames := fs.reverse ++ [{ f with pc := x }] } }) := by
  rw [h.rt.rdj (h.at_ hc) (b := false) (m1 := setPc m i x) (by unfold disP; simp; omega), h.spc]
  simp
/-- 21: a jump back -/
theorem Op.r21b (h : Op N root D S K m fu s M P i t T f fs F) {x : Nat} {r : List In} (hc : AtC (D.fn (gO m f)).code f.pc ((21, x) :: r)) (hx : x ≤ f.pc) : roundP fu m i = if fu = 0 then .inr (⟨5, 0, 9, nilV, nilV⟩, fu, m) else .inl (fu - 1, { m with ths := m.ths.set i { t with stack := t.stack.take (t.stack.length - 0) ++ [], frames := fs.reverse ++ [{ f with pc := x }] } }) := by
  rw [h.rt.rdj (h.at_ hc) (b := true) (m1 := setPc m i x) (by unfold disP; simp; omega), h.spc]
  simp
/-- 22 -/
theorem Op.r22 (h : Op N root D S K m fu s M P i t T f fs F) {x : Nat} {r : List In} (hc : AtC (D.fn (gO m f)).code f.pc ((22, x) :: r)) (hx : f.pc < x) : roundP fu m i = .inl (fu, { m with ths := m.ths.set i { t with stack := t.stack.take (t.stack.length - 1) ++ [], frames := fs.reverse ++ [{ f with pc := if truthy (topV m i 0) then f.pc + 1 else x }] } }) := by
  rw [h.rt.rdj (h.at_ hc) (b := false) (m1 := setPc (pops m i 1) i (if truthy (topV m i 0) then f.pc + 1 else x)) (by
    unfold disP
    simp (config := { decide := true }) only [if_true, if_false]
    by_cases z : truthy (topV m i 0)
    · rw [if_pos z, if_pos z]
    · rw [if_neg z, if_neg z]
      simp only [Prod.mk.injEq, decide_eq_false_iff_not, and_true]
      omega), h.spp]
  simp
/-- 23, 24 -/
theorem Op.r23 (h : Op N root D S K m fu s M P i t T f fs F) {x : Nat} {b : Bool} {r : List In} (hc : AtC (D.fn (gO m f)).code f.pc ((if b then 24 else 23, x) :: r)) (hx : f.pc < x) : roundP fu m i = .inl (fu, if truthy (topV m i 0) = b then { m with ths := m.ths.set i { t with stack := t.stack.take (t.stack.length - 0) ++ [], frames := fs.reverse ++ [{ f with pc := x }] } } else { m with ths := m.ths.set i { t with stack := t.stack.take (t.stack.length - 1) ++ [], frames := fs.reverse ++ [{ f with pc := f.pc + 1 }] } }) := by
  have hd : disP m i f (if b then 24 else 23) x = (false, (.inr ev0, if truthy (topV m i 0) = b then setPc m i x else setPc (pops m i 1) i (f.pc + 1))) := by
    unfold disP
    have hx : ¬ (x ≤ f.pc) := by omega
    cases b
    · simp (config := { decide := true }) only [if_true, if_false, Bool.false_eq_true, decide_false, hx]
      by_cases z : truthy (topV m i 0) = false
      · rw [if_pos z, if_pos z]
      · rw [if_neg z, if_neg z]
    · simp (config := { decide := true }) only [if_true, if_false, decide_false, decide_true, hx]
      by_cases z : truthy (topV m i 0) = true
      · rw [if_pos z, if_pos z]
      · rw [if_neg z, if_neg z]
  rw [h.rt.rdj (h.at_ hc) (b := false) hd, h.spc, h.spp]
  simp
theorem Op.k5 (h : Op N root D S K m fu s M P i t T f fs F) (ht : T.tasks = k :: tl) (hk : k.k = 5) : PgZ N root D i M.stack s 1 m fu M := by
  have cb := h.cb ht
  unfold Cb at cb
  simp (config := { decide := true }) only [hk, if_true, if_false] at cb
  obtain ⟨c1, c2, c3⟩ := cb
  have it := h.it ht
  unfold Itm at it
  simp (config := { decide := true }) only [hk, if_true, if_false] at it
  rw [Nat.min_eq_right (by omega)] at it
  have hM := h.step ht
  unfold stK at hM
  simp (config := { decide := true }) only [hk, if_true, if_false] at hM
  rw [st_pops h.cl] at hM
  have hp : plainP m i 25 0 = (.inr (), pops m i 1) := by unfold plainP; simp (config := { decide := true }) only [if_true, if_false]
  rw [h.np] at hp
  exact h.pp0 (new := []) ht (by omega) c2 (by decide) hp c1 (by simp) (by rw [hM]; simp) c3 it
theorem Op.k25 (h : Op N root D S K m fu s M P i t T f fs F) (ht : T.tasks = k :: tl) (hk : k.k = 25) : PgZ N root D i M.stack s 1 m fu M := by
  have cb := h.cb ht
  unfold Cb at cb
  simp (config := { decide := true }) only [hk, if_true, if_false] at cb
  obtain ⟨c1, c2, c3, c3', c4⟩ := cb
  have it := h.it ht
  unfold Itm at it
  simp (config := { decide := true }) only [hk, if_true, if_false] at it
  rw [Nat.min_eq_right (by omega)] at it
  have hM := h.step ht
  unfold stK at hM
  simp (config := { decide := true }) only [hk, if_true, if_false] at hM
  rw [h.top' (by omega), st_pops h.cl] at hM
  have h3 : k.k ≠ 3 := by omega
  have hlow := h.lowT c1
  have e1 : oO D m t f - 1 + 1 = oO D m t f := by omega
  unfold MD.un at hM
  generalize hd : (N.getD k.n nd0).n = op at c2 c3 c3' hM
  have c2 : AtC (D.fn (gO m f)).code f.pc [unI op] := c2
  have c3 : 1 ≤ op := c3
  have c3' : op ≤ 3 := c3'
  have ok : ∀ v : Vl, (∃ o, unI op = (o, 0) ∧ (o ≠ 21 ∧ o ≠ 22 ∧ o ≠ 23 ∧ o ≠ 24 ∧ o ≠ 26 ∧ o ≠ 27) ∧ plainP m i o 0 = (.inr (), push (pops m i 1) i [v])) → M.step N root = (M.st { T with tasks := tl, vals := T.vals.take (T.vals.length - 1) }).push [v] → PgZ N root D i M.stack s 1 m fu M := fun v ⟨o, o1, o2, o3⟩ g => by
    rw [o1] at c2
    rw [h.npp] at o3
    rw [st_push h.cl] at g
    exact h.pp0 (new := []) ht h3 c2 o2 o3 c1 (by simp) g (by rw [← e1] at c4; exact c4) (by rw [← e1] at it; exact it)
  have bad : ∀ v : Vl, (∃ o, unI op = (o, 0) ∧ (o ≠ 21 ∧ o ≠ 22 ∧ o ≠ 23 ∧ o ≠ 24 ∧ o ≠ 26 ∧ o ≠ 27) ∧ plainP m i o 0 = (.inl (.inl v), pops m i 1)) → M.step N root = (M.st { T with tasks := tl, vals := T.vals.take (T.vals.length - 1) }).throw v → PgZ N root D i M.stack s 1 m fu M := fun v ⟨o, o1, o2, o3⟩ g => by
    rw [o1] at c2
    rw [h.np] at o3
    simp only [List.append_nil] at o3
    exact h.pthr ht h3 c2 o2 o3 c1 hlow g
  by_cases e2 : op = 2
  · subst e2
    exact ok _ ⟨18, rfl, by decide, by unfold plainP operP; simp (config := { decide := true }) only [if_true, if_false]⟩ hM
  rw [if_neg e2] at hM
  by_cases e1' : op = 1
  · subst e1'
    rw [if_pos rfl] at hM
    by_cases z : (topV m i 0).t ≠ 2
    · rw [if_pos z] at hM
      exact bad _ ⟨19, rfl, by decide, by unfold plainP operP; simp (config := { decide := true }) only [if_true, if_false, if_pos z]; rfl⟩ hM
    · rw [if_neg z] at hM
      exact ok _ ⟨19, rfl, by decide, by unfold plainP operP; simp (config := { decide := true }) only [if_true, if_false, if_neg z]⟩ hM
  rw [if_neg e1'] at hM
  have e3 : op = 3 := by omega
  subst e3
  rw [if_pos rfl] at hM
  by_cases z4 : (topV m i 0).t = 4
  · rw [if_pos z4] at hM
    have z3 : ¬ ((topV m i 0).t = 3) := by omega
    have z4' : ¬ ((topV m i 0).t ≠ 4) := fun z => z z4
    refine ok (numV (fromIntN (m.tabs.getD (topV m i 0).n tab0).len)) ⟨20, rfl, by decide, by unfold plainP operP; simp (config := { decide := true }) only [if_true, if_false, if_neg z3, if_neg z4']⟩ ?_
    rw [hM, ← (h.rel.w i).tabs]
    rfl
  · rw [if_neg z4] at hM
    by_cases z3 : (topV m i 0).t = 3
    · rw [if_neg (fun z => z z3)] at hM
      exact ok _ ⟨20, rfl, by decide, by unfold plainP operP; simp (config := { decide := true }) only [if_true, if_false, if_pos z3]⟩ hM
    · rw [if_pos z3] at hM
      exact bad _ ⟨20, rfl, by decide, by unfold plainP operP; simp (config := { decide := true }) only [if_true, if_false, if_neg z3, if_pos z4]; rfl⟩ hM
theorem Op.k28 (h : Op N root D S K m fu s M P i t T f fs F) (ht : T.tasks = k :: tl) (hk : k.k = 28) : PgZ N root D i M.stack s 1 m fu M := by
  have cb := h.cb ht
  unfold Cb at cb
  simp (config := { decide := true }) only [hk, if_true, if_false] at cb
  obtain ⟨c1, c2, c4⟩ := cb
  have it := h.it ht
  unfold Itm at it
  simp (config := { decide := true }) only [hk, if_true, if_false] at it
  rw [Nat.min_eq_right (by omega)] at it
  have hM := h.step ht
  unfold stK at hM
  simp (config := { decide := true }) only [hk, if_true, if_false] at hM
  rw [h.top' (by omega), h.top' (by omega), st_pops h.cl] at hM
  have h3 : k.k ≠ 3 := by omega
  have hlow := h.lowT c1
  have e1 : oO D m t f - 2 + 1 = oO D m t f - 1 := by omega
  by_cases z : (topV m i 1).t ≠ 4
  · rw [if_pos z] at hM
    have hp : plainP m i 11 0 = (.inl (.inl (strV mIndex)), pops m i 2) := by unfold plainP; simp (config := { decide := true }) only [if_true, if_false, if_pos z]; rfl
    rw [h.np] at hp
    simp only [List.append_nil] at hp
    exact h.pthr ht h3 c2 (by decide) hp c1 hlow hM
  · rw [if_neg z] at hM
    have hp : plainP m i 11 0 = (.inr (), push (pops m i 2) i [(m.tabs.getD (topV m i 1).n tab0).get (topV m i 0)]) := by unfold plainP; simp (config := { decide := true }) only [if_true, if_false, if_neg z]
    rw [h.npp] at hp
    rw [st_push h.cl] at hM
    refine h.pp0 (new := []) ht h3 c2 (by decide) hp c1 (by simp) ?_ (by rw [← e1] at c4; exact c4) (by rw [← e1] at it; exact it)
    rw [hM, ← (h.rel.w i).tabs]
    rfl
end
end Go.Proofs.Qxb6500574aGreatDoor
