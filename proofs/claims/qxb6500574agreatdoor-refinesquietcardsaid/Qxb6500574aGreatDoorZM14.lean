/-
  moon: OPERATORS: the machine's and the interpreter's. Plain; no memory, no walk.
-/
import Derived.Test.Qxb6500574aGreatDoorZM13
namespace Go.Proofs.Qxb6500574aGreatDoor
set_option linter.unusedVariables false
set_option linter.unusedSimpArgs false
section
variable {N : List Nd} {root : Nat} {D : CmD} {S : Nat → Nat → Ty → Prop} {K : Cx} {m m1 : VMD} {fu s fu' s' : Nat} {M M' : MD} {P P' : List (Option Lc)} {i c : Nat} {t t' : ThD} {T T' : MTh} {f f' : FmD} {fs : List FmD} {F F' : FrIZ} {k : TkD} {tl : List TkD}
/-- what the tasks say -/
theorem Op.cb (h : Op N root D S K m fu s M P i t T f fs F) (ht : T.tasks = k :: tl) : Cb ⟨N, D, gO m f, F.r, M.envs, F.lc, F.low.length⟩ (k :: tl) false f.pc (oO D m t f) F.L F.lf := by
  have cb := h.fo.cb
  rw [ht] at cb
  exact cb
/-- what tables are being filled -/
theorem Op.it (h : Op N root D S K m fu s M P i t T f fs F) (ht : T.tasks = k :: tl) : Itm (t.stack.drop (f.base + (D.fn (gO m f)).nslots)) (k :: tl) (oO D m t f) (oO D m t f) := by
  have it := h.fo.it
  rw [ht] at it
  have it : Itm ((t.stack.take t.stack.length).drop (f.base + (D.fn (gO m f)).nslots)) (k :: tl) (oO D m t f) (oO D m t f) := it
  rw [List.take_length] at it
  exact it
/-- a plain instruction's error -/
theorem Op.pthr (h : Op N root D S K m fu s M P i t T f fs F) (ht : T.tasks = k :: tl) (h3 : k.k ≠ 3) {op x n : Nat} {r : List In} (hc : AtC (D.fn (gO m f)).code f.pc ((op, x) :: r)) (ho : op ≠ 21 ∧ op ≠ 22 ∧ op ≠ 23 ∧ op ≠ 24 ∧ op ≠ 26 ∧ op ≠ 27) {v : Vl}
    (hp : plainP m i op x = (.inl (.inl v), { m with ths := m.ths.set i { t with stack := t.stack.take (t.stack.length - n) } })) (hn : n ≤ oO D m t f) {V : List Vl} (hV : F.low <+: V) (hM : M.step N root = (M.st { T with tasks := tl, vals := V }).throw v) : PgZ N root D i M.stack s 1 m fu M := by
  refine PgZ.step (h.rel.w i).done ?_
  rw [hM]
  obtain ⟨o1, o2, o3, o4, o5, o6⟩ := ho
  have o34 : ¬ (op = 23 ∨ op = 24) := fun z => z.elim o3 o4
  have em : ({ m with ths := m.ths.set i { t with stack := t.stack.take (t.stack.length - n) } } : VMD) = { m with ths := m.ths.set i { t with stack := t.stack.take (t.stack.length - n), frames := fs.reverse ++ [{ f with pc := f.pc }] } } := by
    have : t.frames = fs.reverse ++ [{ f with pc := f.pc }] := h.fr
    rw [← this]
  rw [em] at hp
  have hI : (instrP m i).2 = (.inl (.inl v), { m with ths := m.ths.set i { t with stack := t.stack.take (t.stack.length - n), frames := fs.reverse ++ [{ f with pc := f.pc }] } }) := by
    rw [h.rt.dis (h.at_ hc)]
    unfold disP
    rw [if_neg o1, if_neg o2, if_neg o34, if_neg o5, if_neg o6, hp]
    rfl
  have hr : roundP fu m i = thrD fu { m with ths := m.ths.set i { t with stack := t.stack.take (t.stack.length - n), frames := fs.reverse ++ [{ f with pc := f.pc }] } } i v := by
    rw [h.rt.rdp (h.at_ hc) ⟨o1, o2, o3, o4, o5, o6⟩, hp]
    rfl
  have R := h.thr ht h3 hI hr hn hV
  have eM : ({ M.st { T with tasks := tl, vals := V } with fuel := fu } : MD) = M.st { T with tasks := tl, vals := V } := by rw [← (h.rel.w i).fuel]; rfl
  rw [eM] at R
  exact R
/-- the low values stay when operands go -/
theorem Op.lowT (h : Op N root D S K m fu s M P i t T f fs F) {n : Nat} (hn : n ≤ oO D m t f) : F.low <+: T.vals.take (T.vals.length - n) := by
  have hl := h.vlen
  have h1 : F.low = T.vals.take F.low.length := by
    obtain ⟨z, hz⟩ := h.fo.lv
    rw [← hz]; simp
  have h2 : T.vals.take F.low.length = (T.vals.take (T.vals.length - n)).take F.low.length := by
    rw [List.take_take]
    congr 1
    omega
  rw [h1, h2]
  exact List.take_prefix _ _
theorem Op.pp0 (h : Op N root D S K m fu s M P i t T f fs F) (ht : T.tasks = k :: tl) (h3 : k.k ≠ 3) {op x n : Nat} {r : List In} (hc : AtC (D.fn (gO m f)).code f.pc ((op, x) :: r)) (ho : op ≠ 21 ∧ op ≠ 22 ∧ op ≠ 23 ∧ op ≠ 24 ∧ op ≠ 26 ∧ op ≠ 27) {vs : List Vl} {new : List TkD}
    (hp : plainP m i op x = (.inr (), { m with ths := m.ths.set i { t with stack := t.stack.take (t.stack.length - n) ++ vs } })) (hn : n ≤ oO D m t f) (hnew : ∀ t ∈ new, t.k ≠ 3)
    (hM : M.step N root = M.st { T with tasks := new ++ tl, vals := T.vals.take (T.vals.length - n) ++ vs })
    (cb : Cb ⟨N, D, gO m f, F.r, M.envs, F.lc, F.low.length⟩ (new ++ tl) false (f.pc + 1) (oO D m t f - n + vs.length) F.L F.lf)
    (it : Itm (t.stack.drop (f.base + (D.fn (gO m f)).nslots)) (new ++ tl) (oO D m t f - n + vs.length) (oO D m t f - n)) : PgZ N root D i M.stack s 1 m fu M :=
  h.pp ht h3 hc ho (tabs := m.tabs) hp hn hnew (by rw [hM, ← (h.rel.w i).tabs]; rfl) cb it
theorem Op.k24 (h : Op N root D S K m fu s M P i t T f fs F) (ht : T.tasks = k :: tl) (hk : k.k = 24) : PgZ N root D i M.stack s 1 m fu M := by
  have cb := h.cb ht
  unfold Cb at cb
  simp (config := { decide := true }) only [hk, if_true, if_false] at cb
  obtain ⟨c1, c2, c3, c4⟩ := cb
  have it := h.it ht
  unfold Itm at it
  simp (config := { decide := true }) only [hk, if_true, if_false] at it
  rw [Nat.min_eq_right (by omega)] at it
  have hM := h.step ht
  unfold stK at hM
  simp (config := { decide := true }) only [hk, if_true, if_false] at hM
  rw [h.top' (by omega), h.top' (by omega), st_pops h.cl] at hM
  unfold MD.bin at hM
  have h3 : k.k ≠ 3 := by omega
  have hlow := h.lowT c1
  have e1 : oO D m t f - 2 + 1 = oO D m t f - 1 := by omega
  generalize hd : (N.getD k.n nd0).n = op at c2 c3 hM
  have c2 : AtC (D.fn (gO m f)).code f.pc [binI op] := c2
  have c3 : opB op := c3
  have hop : op ≤ 20 := by unfold opB at c3; omega
  by_cases e20 : op = 20
  · subst e20
    have hb : binI 20 = (17, 0) := rfl
    rw [hb] at c2
    rw [if_pos rfl] at hM
    have hp : plainP m i 17 0 = operP m i 17 0 := by unfold plainP; simp (config := { decide := true }) only [if_true, if_false]
    unfold operP at hp
    simp (config := { decide := true }) only [if_true, if_false] at hp
    by_cases b1 : ((topV m i 1).t ≠ 3 ∧ (topV m i 1).t ≠ 2) ∨ ((topV m i 0).t ≠ 3 ∧ (topV m i 0).t ≠ 2)
    · rw [if_pos b1] at hp hM
      rw [h.np] at hp
      simp only [List.append_nil] at hp
      exact h.pthr ht h3 c2 (by decide) hp c1 hlow hM
    · rw [if_neg b1] at hp hM
      by_cases b2 : (textV (topV m i 1)).length + (textV (topV m i 0)).length > 40
      · rw [if_pos b2] at hp hM
        rw [h.np] at hp
        simp only [List.append_nil] at hp
        exact h.pthr ht h3 c2 (by decide) hp c1 hlow hM
      · rw [if_neg b2] at hp hM
        rw [h.npp] at hp
        rw [st_push h.cl] at hM
        exact h.pp0 (new := []) ht h3 c2 (by decide) hp c1 (by simp) hM (by rw [← e1] at c4; exact c4) (by rw [← e1] at it; exact it)
  · rw [if_neg e20] at hM
    by_cases e10 : op > 10
    · have hb : binI op = (16, op - 10) := by unfold binI; rw [if_neg e20, if_pos e10, Nat.mod_eq_of_lt (by omega)]
      rw [hb] at c2
      rw [if_pos e10] at hM
      have hp : plainP m i 16 (op - 10) = operP m i 16 (op - 10) := by unfold plainP; simp (config := { decide := true }) only [if_true, if_false]
      unfold operP at hp
      simp (config := { decide := true }) only [if_true, if_false] at hp
      cases hcm : compareP ((op - 10 : Nat) : Int) (topV m i 1) (topV m i 0) with
      | none =>
        rw [hcm] at hp hM
        dsimp only at hp hM
        rw [h.np] at hp
        simp only [List.append_nil] at hp
        exact h.pthr ht h3 c2 (by decide) hp c1 hlow hM
      | some b =>
        rw [hcm] at hp hM
        dsimp only at hp hM
        rw [h.npp] at hp
        rw [st_push h.cl] at hM
        exact h.pp0 (new := []) ht h3 c2 (by decide) hp c1 (by simp) hM (by rw [← e1] at c4; exact c4) (by rw [← e1] at it; exact it)
    · have hb : binI op = (15, op) := by unfold binI; rw [if_neg e20, if_neg e10, Nat.mod_eq_of_lt (by omega)]
      rw [hb] at c2
      rw [if_neg e10] at hM
      have hp : plainP m i 15 op = operP m i 15 op := by unfold plainP; simp (config := { decide := true }) only [if_true, if_false]
      unfold operP at hp
      simp (config := { decide := true }) only [if_true, if_false] at hp
      by_cases b1 : (topV m i 1).t ≠ 2 ∨ (topV m i 0).t ≠ 2
      · rw [if_pos b1] at hp hM
        rw [h.np] at hp
        simp only [List.append_nil] at hp
        exact h.pthr ht h3 c2 (by decide) hp c1 hlow hM
      · rw [if_neg b1] at hp hM
        rw [h.npp] at hp
        rw [st_push h.cl] at hM
        exact h.pp0 (new := []) ht h3 c2 (by decide) hp c1 (by simp) hM (by rw [← e1] at c4; exact c4) (by rw [← e1] at it; exact it)
end
end Go.Proofs.Qxb6500574aGreatDoor
