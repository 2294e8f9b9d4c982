/-
  moon: THE MACHINE'S ROUNDS ALONE; hidden slots are filled. Plain; no memory, no walk.
-/
import Derived.Test.Qxb6500574aGreatDoorZM21
namespace Go.Proofs.Qxb6500574aGreatDoor
set_option linter.unusedVariables false
set_option linter.unusedSimpArgs false
/-- the thread with another stack and pc -/
abbrev tS (t : ThD) (f : FmD) (fs : List FmD) (stk : List Vl) (pc : Nat) : ThD := { t with stack := stk, frames := fs.reverse ++ [{ f with pc := pc }] }
abbrev mS (m : VMD) (i : Nat) (t : ThD) (f : FmD) (fs : List FmD) (stk : List Vl) (pc : Nat) : VMD := { m with ths := m.ths.set i (tS t f fs stk pc) }
/-- thread i of m runs, with this stack, at this pc -/
structure LnZ (D : CmD) (S : Nat → Nat → Ty → Prop) (m : VMD) (i : Nat) (t : ThD) (f : FmD) (fs : List FmD) (stk : List Vl) (pc : Nat) : Prop where
  hi : i < m.ths.length
  g : Gd1 S (mS m i t f fs stk pc) i
  cd : fxOf m (gO m f) = fxD D (gO m f)
section
variable {N : List Nd} {root : Nat} {D : CmD} {S : Nat → Nat → Ty → Prop} {K : Cx} {m m1 : VMD} {fu s fu' s' : Nat} {M M' : MD} {P P' : List (Option Lc)} {i c : Nat} {t t' : ThD} {T T' : MTh} {f f' : FmD} {fs : List FmD} {F F' : FrIZ} {k : TkD} {tl : List TkD} {stk A : List Vl} {pc op x : Nat} {r : List In} {a b v : Vl}
theorem mS_get (hi : i < m.ths.length) : (mS m i t f fs stk pc).ths[i]? = some (tS t f fs stk pc) := List.getElem?_set_self hi
theorem mS_th (hi : i < m.ths.length) : (mS m i t f fs stk pc).th i = tS t f fs stk pc := th_get (mS_get hi)
theorem mS_topF (hi : i < m.ths.length) : topF (mS m i t f fs stk pc) i = { f with pc := pc } := topF_nf (fs := fs) (mS_get hi) rfl
theorem mS_topV (hi : i < m.ths.length) (n : Nat) : topV (mS m i t f fs stk pc) i n = stk.getD (stk.length - 1 - n) nilV := by unfold topV; rw [mS_th hi]
theorem mS_mS (m : VMD) (i : Nat) (t : ThD) (f : FmD) (fs : List FmD) (stk stk' : List Vl) (pc pc' : Nat) : mS (mS m i t f fs stk pc) i (tS t f fs stk pc) f fs stk' pc' = mS m i t f fs stk' pc' := by
  simp [mS, tS]
theorem mS_setTh (m : VMD) (i : Nat) (t : ThD) (f : FmD) (fs : List FmD) (stk : List Vl) (pc : Nat) (u : ThD) : (mS m i t f fs stk pc).setTh i u = m.setTh i u := by simp [mS, VMD.setTh]
theorem LnZ.rt (h : LnZ D S m i t f fs stk pc) : ∃ K, RunT S K (mS m i t f fs stk pc) i (tS t f fs stk pc) { f with pc := pc } ∧ Room K 0 (tS t f fs stk pc) := by
  obtain ⟨K, t', f', R, rm⟩ := h.g
  have h1 := R.at_.hi
  rw [mS_get h.hi] at h1
  cases h1
  have h2 := R.at_.topF
  rw [mS_topF h.hi] at h2
  subst h2
  exact ⟨K, R, rm⟩
theorem LnZ.at_ (h : LnZ D S m i t f fs stk pc) (hc : AtC (D.fn (gO m f)).code pc ((op, x) :: r)) : (fxOf (mS m i t f fs stk pc) ((mS m i t f fs stk pc).clos.getD f.clo cl0).p).code[pc]? = some (op, x) := by
  show (fxOf m (gO m f)).code[pc]? = _
  rw [h.cd]
  exact hc.head.1
/-- the state at hand runs -/
theorem Op.ln (h : Op N root D S K m fu s M P i t T f fs F) : LnZ D S m i t f fs t.stack f.pc := by
  refine ⟨h.il, ?_, h.code⟩
  have e : mS m i t f fs t.stack f.pc = m := by
    have : tS t f fs t.stack f.pc = t := by
      have hf : fs.reverse ++ [{ f with pc := f.pc }] = t.frames := h.fr.symm
      show ({ t with stack := t.stack, frames := fs.reverse ++ [{ f with pc := f.pc }] } : ThD) = t
      rw [hf]
    show ({ m with ths := m.ths.set i (tS t f fs t.stack f.pc) } : VMD) = m
    rw [this, set_self h.hi]
  rw [e]
  exact ⟨K, t, f, h.rt, h.rm⟩
theorem Op.mS_self (h : Op N root D S K m fu s M P i t T f fs F) : mS m i t f fs t.stack f.pc = m := by
  have : tS t f fs t.stack f.pc = t := by
    have hf : fs.reverse ++ [{ f with pc := f.pc }] = t.frames := h.fr.symm
    show ({ t with stack := t.stack, frames := fs.reverse ++ [{ f with pc := f.pc }] } : ThD) = t
    rw [hf]
  show ({ m with ths := m.ths.set i (tS t f fs t.stack f.pc) } : VMD) = m
  rw [this, set_self h.hi]
/-- a plain instruction that moves the stack only -/
theorem LnZ.plain (h : LnZ D S m i t f fs stk pc) (hc : AtC (D.fn (gO m f)).code pc ((op, x) :: r)) (ho : op ≠ 21 ∧ op ≠ 22 ∧ op ≠ 23 ∧ op ≠ 24 ∧ op ≠ 26 ∧ op ≠ 27) {st' : List Vl} (hp : plainP (mS m i t f fs stk pc) i op x = (.inr (), mS m i t f fs st' pc)) (fu : Nat) :
    roundP fu (mS m i t f fs stk pc) i = .inl (fu, mS m i t f fs st' (pc + 1)) ∧ LnZ D S m i t f fs st' (pc + 1) := by
  obtain ⟨K, R, rm⟩ := h.rt
  have hr : roundP fu (mS m i t f fs stk pc) i = .inl (fu, mS m i t f fs st' (pc + 1)) := by
    rw [R.rdp (h.at_ hc) ho, hp]
    unfold rdP
    dsimp only
    rw [mS_topF h.hi, setPc_nf (fs := fs) (f := { f with pc := pc }) (mS_get h.hi) rfl, mS_setTh]
    rfl
  exact ⟨hr, h.hi, h.g.round hr, h.cd⟩
theorem LnZ.g6 (h : LnZ D S m i t f fs (A ++ [v]) pc) (hc : AtC (D.fn (gO m f)).code pc ((6, x) :: r)) (fu : Nat) : roundP fu (mS m i t f fs (A ++ [v]) pc) i = .inl (fu, mS m i t f fs (A.set (f.base + x) v) (pc + 1)) ∧ LnZ D S m i t f fs (A.set (f.base + x) v) (pc + 1) := by
  refine h.plain hc (by decide) ?_ fu
  unfold plainP
  rw [mS_topF h.hi, mS_th h.hi, mS_topV h.hi]
  simp (config := { decide := true }) only [if_true, if_false]
  rw [mS_setTh]
  have e : (A ++ [v]).getD ((A ++ [v]).length - 1 - 0) nilV = v := by
    rw [List.getD_eq_getElem?_getD, List.getElem?_append_right (by simp)]
    simp
  rw [e, show (A ++ [v]).take ((A ++ [v]).length - 1) = A by simp]
  rfl
theorem LnZ.g5 (h : LnZ D S m i t f fs A pc) (hc : AtC (D.fn (gO m f)).code pc ((5, x) :: r)) (fu : Nat) : roundP fu (mS m i t f fs A pc) i = .inl (fu, mS m i t f fs (A ++ [A.getD (f.base + x) nilV]) (pc + 1)) ∧ LnZ D S m i t f fs (A ++ [A.getD (f.base + x) nilV]) (pc + 1) := by
  refine h.plain hc (by decide) ?_ fu
  unfold plainP
  rw [mS_topF h.hi, mS_th h.hi]
  simp (config := { decide := true }) only [if_true, if_false]
  rw [push_is (mS_get h.hi), mS_setTh]
  rfl
theorem LnZ.g2 (h : LnZ D S m i t f fs A pc) (hc : AtC (D.fn (gO m f)).code pc ((2, x) :: r)) (fu : Nat) : roundP fu (mS m i t f fs A pc) i = .inl (fu, mS m i t f fs (A ++ [nilV]) (pc + 1)) ∧ LnZ D S m i t f fs (A ++ [nilV]) (pc + 1) := by
  refine h.plain hc (by decide) ?_ fu
  unfold plainP
  simp (config := { decide := true }) only [if_true, if_false]
  rw [push_is (mS_get h.hi), mS_setTh]
  rfl
theorem LnZ.g15 (h : LnZ D S m i t f fs (A ++ [a, b]) pc) (hc : AtC (D.fn (gO m f)).code pc ((15, 1) :: r)) (ha : a.t = 2) (hb : b.t = 2) (fu : Nat) : roundP fu (mS m i t f fs (A ++ [a, b]) pc) i = .inl (fu, mS m i t f fs (A ++ [numV (arithN 1 a.n b.n)]) (pc + 1)) ∧ LnZ D S m i t f fs (A ++ [numV (arithN 1 a.n b.n)]) (pc + 1) := by
  refine h.plain hc (by decide) ?_ fu
  unfold plainP operP
  rw [mS_topV h.hi, mS_topV h.hi]
  simp (config := { decide := true }) only [if_true, if_false]
  have e0 : (A ++ [a, b]).getD ((A ++ [a, b]).length - 1 - 0) nilV = b := by
    rw [List.getD_eq_getElem?_getD, List.getElem?_append_right (by simp)]
    simp
  have e1 : (A ++ [a, b]).getD ((A ++ [a, b]).length - 1 - 1) nilV = a := by
    rw [List.getD_eq_getElem?_getD, List.getElem?_append_right (by simp)]
    simp
  rw [e0, e1, if_neg (by simp [ha, hb]), pops_is (mS_get h.hi), push_is (m := VMD.setTh _ _ _) (setTh_get (mS_get h.hi)), setTh_setTh, mS_setTh, show (A ++ [a, b]).take ((A ++ [a, b]).length - 2) = A by simp]
  rfl
theorem LnZ.g31 (h : LnZ D S m i t f fs A pc) (hc : AtC (D.fn (gO m f)).code pc ((31, x) :: r)) (fu : Nat) : roundP fu (mS m i t f fs A pc) i = .inl (fu, mS m i t f fs (A ++ [boolV (cmpN (if cmpN 5 (A.getD (f.base + x + 2) nilV).n 0 then 4 else 6) (A.getD (f.base + x) nilV).n (A.getD (f.base + x + 1) nilV).n)]) (pc + 1)) ∧ LnZ D S m i t f fs (A ++ [boolV (cmpN (if cmpN 5 (A.getD (f.base + x + 2) nilV).n 0 then 4 else 6) (A.getD (f.base + x) nilV).n (A.getD (f.base + x + 1) nilV).n)]) (pc + 1) := by
  refine h.plain hc (by decide) ?_ fu
  unfold plainP forP
  rw [mS_topF h.hi, mS_th h.hi]
  simp (config := { decide := true }) only [if_true, if_false]
  rw [push_is (mS_get h.hi), mS_setTh]
  rfl
theorem LnZ.g32 (h : LnZ D S m i t f fs A pc) (hc : AtC (D.fn (gO m f)).code pc ((32, x) :: r)) (h4 : (A.getD (f.base + x) nilV).t = 4) {kv : Vl × Vl} (hn : (m.tabs.getD (A.getD (f.base + x) nilV).n tab0).next (A.getD (f.base + x + 1) nilV) = some kv) (fu : Nat) :
    roundP fu (mS m i t f fs A pc) i = .inl (fu, mS m i t f fs (((A.set (f.base + x + 1) kv.1).set (f.base + x + 2) kv.1).set (f.base + x + 3) kv.2 ++ [boolV (kv.1.t ≠ 0)]) (pc + 1)) ∧ LnZ D S m i t f fs (((A.set (f.base + x + 1) kv.1).set (f.base + x + 2) kv.1).set (f.base + x + 3) kv.2 ++ [boolV (kv.1.t ≠ 0)]) (pc + 1) := by
  refine h.plain hc (by decide) ?_ fu
  unfold plainP forP
  rw [mS_topF h.hi, mS_th h.hi]
  simp (config := { decide := true }) only [if_true, if_false]
  have hn2 : ((mS m i t f fs A pc).tabs.getD (A.getD (f.base + x) nilV).n tab0).next (A.getD (f.base + x + 1) nilV) = some kv := hn
  rw [if_neg (fun z => z h4), hn2]
  dsimp only
  rw [mS_setTh, push_is (m := VMD.setTh _ _ _) (List.getElem?_set_self h.hi), setTh_setTh]
  rfl
/-- 22 -/
theorem LnZ.g22 (h : LnZ D S m i t f fs (A ++ [v]) pc) (hc : AtC (D.fn (gO m f)).code pc ((22, x) :: r)) (hx : pc < x) (fu : Nat) : roundP fu (mS m i t f fs (A ++ [v]) pc) i = .inl (fu, mS m i t f fs A (if truthy v then pc + 1 else x)) ∧ LnZ D S m i t f fs A (if truthy v then pc + 1 else x) := by
  obtain ⟨K, R, rm⟩ := h.rt
  have e0 : topV (mS m i t f fs (A ++ [v]) pc) i 0 = v := by
    rw [mS_topV h.hi, List.getD_eq_getElem?_getD, List.getElem?_append_right (by simp)]
    simp
  have hs : ∀ y, setPc (pops (mS m i t f fs (A ++ [v]) pc) i 1) i y = mS m i t f fs A y := fun y => by
    rw [pops_is (mS_get h.hi), setPc_nf (fs := fs) (f := { f with pc := pc }) (setTh_get (mS_get h.hi)) rfl, setTh_setTh, mS_setTh]
    show ({ m with ths := m.ths.set i { t with stack := (A ++ [v]).take ((A ++ [v]).length - 1), frames := fs.reverse ++ [{ f with pc := y }] } } : VMD) = _
    rw [show (A ++ [v]).take ((A ++ [v]).length - 1) = A by simp]
  have hr : roundP fu (mS m i t f fs (A ++ [v]) pc) i = .inl (fu, mS m i t f fs A (if truthy v then pc + 1 else x)) := by
    rw [R.rdj (h.at_ hc) (b := false) (m1 := mS m i t f fs A (if truthy v then pc + 1 else x)) (by
      unfold disP
      simp (config := { decide := true }) only [if_true, if_false]
      rw [e0]
      by_cases z : truthy v
      · rw [if_pos z, if_pos z, hs]
      · rw [if_neg z, if_neg z, hs]
        simp only [Prod.mk.injEq, decide_eq_false_iff_not, and_true]
        omega)]
    simp
  exact ⟨hr, h.hi, h.g.round hr, h.cd⟩
/-- 21 back -/
theorem LnZ.g21b (h : LnZ D S m i t f fs A pc) (hc : AtC (D.fn (gO m f)).code pc ((21, x) :: r)) (hx : x ≤ pc) (fu : Nat) : roundP fu (mS m i t f fs A pc) i = (if fu = 0 then .inr (⟨5, 0, 9, nilV, nilV⟩, fu, mS m i t f fs A pc) else .inl (fu - 1, mS m i t f fs A x)) := by
  obtain ⟨K, R, rm⟩ := h.rt
  have hs : setPc (mS m i t f fs A pc) i x = mS m i t f fs A x := by
    rw [setPc_nf (fs := fs) (f := { f with pc := pc }) (mS_get h.hi) rfl, mS_setTh]
    rfl
  rw [R.rdj (h.at_ hc) (b := true) (m1 := mS m i t f fs A x) (by unfold disP; simp; rw [hs]; simp; omega)]
  simp
/-- 21 forward -/
theorem LnZ.g21 (h : LnZ D S m i t f fs A pc) (hc : AtC (D.fn (gO m f)).code pc ((21, x) :: r)) (hx : pc < x) (fu : Nat) : roundP fu (mS m i t f fs A pc) i = .inl (fu, mS m i t f fs A x) ∧ LnZ D S m i t f fs A x := by
  obtain ⟨K, R, rm⟩ := h.rt
  have hs : setPc (mS m i t f fs A pc) i x = mS m i t f fs A x := by
    rw [setPc_nf (fs := fs) (f := { f with pc := pc }) (mS_get h.hi) rfl, mS_setTh]
    rfl
  have hr : roundP fu (mS m i t f fs A pc) i = .inl (fu, mS m i t f fs A x) := by
    rw [R.rdj (h.at_ hc) (b := false) (m1 := mS m i t f fs A x) (by unfold disP; simp; rw [hs]; simp; omega)]
    simp
  exact ⟨hr, h.hi, h.g.round hr, h.cd⟩
/-- 29: closing -/
theorem LnZ.g29 (h : LnZ D S m i t f fs A pc) (hc : AtC (D.fn (gO m f)).code pc ((29, x) :: r)) (fu : Nat) {m1 : VMD} {t1 : ThD} (hm : closeFrom (mS m i t f fs A pc) i (f.base + x) = m1) (h1 : m1.ths[i]? = some t1) (h2 : t1.stack = A) (h3 : t1.frames = fs.reverse ++ [{ f with pc := pc }]) (hcl : m1.clos = m.clos) :
    roundP fu (mS m i t f fs A pc) i = .inl (fu, mS m1 i t1 f fs A (pc + 1)) ∧ LnZ D S m1 i t1 f fs A (pc + 1) := by
  obtain ⟨K, R, rm⟩ := h.rt
  have hp : plainP (mS m i t f fs A pc) i 29 x = (.inr (), m1) := by
    unfold plainP
    rw [mS_topF h.hi]
    simp (config := { decide := true }) only [if_true, if_false]
    rw [hm]
  have hr : roundP fu (mS m i t f fs A pc) i = .inl (fu, mS m1 i t1 f fs A (pc + 1)) := by
    rw [R.rdp (h.at_ hc) (by decide), hp]
    unfold rdP
    dsimp only
    rw [topF_nf (fs := fs) (f := { f with pc := pc }) h1 h3, setPc_nf (fs := fs) (f := { f with pc := pc }) h1 h3]
    show Sum.inl (fu, ({ m1 with ths := m1.ths.set i { t1 with frames := fs.reverse ++ [{ f with pc := pc + 1 }] } } : VMD)) = _
    have : ({ t1 with frames := fs.reverse ++ [{ f with pc := pc + 1 }] } : ThD) = tS t1 f fs A (pc + 1) := by
      rw [← h2]
    rw [this]
  refine ⟨hr, (List.getElem?_eq_some_iff.1 h1).1, h.g.round hr, ?_⟩
  have tx : TxtT (mS m i t f fs A pc) m1 := by rw [← hm]; exact close_tx _ _ _
  have hg : gO m1 f = gO m f := by show (m1.clos.getD f.clo cl0).p = _; rw [hcl]
  rw [hg, tx.fx]
  exact h.cd
end
end Go.Proofs.Qxb6500574aGreatDoor
