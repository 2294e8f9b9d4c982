/-
  moon: THE END OF A BLOCK; BREAK. Plain; no memory, no walk.
-/
import Derived.Test.Qxb6500574aGreatDoorZM30
namespace Go.Proofs.Qxb6500574aGreatDoor
set_option linter.unusedVariables false
set_option linter.unusedSimpArgs false
/-- where a break leads -/
theorem Cb.brkT {X : FX} {L : List Bs} {lf : List Nat} {ex lb : Nat} : ∀ {ts : List TkD}, Cb X ts true ex lb L lf → ∃ pre k r, ts = pre ++ k :: r ∧ k.k = 4 ∧ (∀ t ∈ pre, t.k ≠ 3) ∧ brkT ts = some (k.x, r) ∧ lb ≤ L.length ∧ k.x = X.low + hidc (L.take lb) ∧ ExitAt X (fun p => Cb X r false p 0 (L.take lb) (sfx lf L (L.take lb))) (L.take lb) ex
  | [], g => g.elim
  | k :: ts, g => by
    unfold Cb at g
    by_cases h3 : k.k = 3
    · rw [if_pos h3] at g
      exact g.elim
    rw [if_neg h3] at g
    by_cases h4 : k.k = 4
    · rw [if_pos h4] at g
      obtain ⟨g1, g2, g3⟩ := g
      exact ⟨[], k, ts, rfl, h4, (fun t ht => by cases ht), by unfold Go.Proofs.Qxb6500574aGreatDoor.brkT; rw [if_pos h4], g1, g2, g3⟩
    · rw [if_neg h4] at g
      obtain ⟨pre, k', r, a1, a2, a3, a4, a5⟩ := Cb.brkT g
      refine ⟨k :: pre, k', r, by rw [a1]; rfl, a2, fun t ht => ?_, by unfold Go.Proofs.Qxb6500574aGreatDoor.brkT; rw [if_neg h4]; exact a4, a5⟩
      rcases List.mem_cons.1 ht with rfl | ht
      · exact h3
      · exact a3 t ht
theorem Itm.skip {ops : List Vl} : ∀ {pre ts : List TkD} {h w : Nat}, (∀ t ∈ pre, t.k ≠ 3) → Itm ops (pre ++ ts) h w → ∃ h' w', w' ≤ w ∧ Itm ops ts h' w'
  | [], ts, h, w, _, g => ⟨h, w, Nat.le_refl _, g⟩
  | k :: pre, ts, h, w, hp, g => by
    have hp2 : ∀ t ∈ pre, t.k ≠ 3 := fun t ht => hp t (by simp [ht])
    rw [List.cons_append] at g
    unfold Itm at g
    rw [if_neg (hp k (by simp))] at g
    have fin : ∀ {h1 w1 : Nat}, w1 ≤ w → Itm ops (pre ++ ts) h1 w1 → ∃ h' w', w' ≤ w ∧ Itm ops ts h' w' := fun hw g => by
      obtain ⟨a, b, c, d⟩ := Itm.skip hp2 g
      exact ⟨a, b, by omega, d⟩
    by_cases h23 : k.k = 23
    · rw [if_pos h23] at g
      exact fin (by omega) g.2.2.2
    rw [if_neg h23] at g
    by_cases h2 : k.k = 2
    · rw [if_pos h2] at g
      exact fin (Nat.le_refl _) g
    rw [if_neg h2] at g
    by_cases h5 : k.k = 5
    · rw [if_pos h5] at g
      exact fin (by omega) g
    rw [if_neg h5] at g
    by_cases h22 : k.k = 22
    · rw [if_pos h22] at g
      exact fin (by omega) g
    rw [if_neg h22] at g
    by_cases h24 : k.k = 24 ∨ k.k = 28
    · rw [if_pos h24] at g
      exact fin (by omega) g
    rw [if_neg h24] at g
    by_cases h25 : k.k = 25 ∨ k.k = 26 ∨ k.k = 27
    · rw [if_pos h25] at g
      exact fin (by omega) g
    rw [if_neg h25] at g
    exact fin (by omega) g
section
variable {N : List Nd} {root : Nat} {D : CmD} {S : Nat → Nat → Ty → Prop} {K : Cx} {m m1 : VMD} {fu s fu' s' : Nat} {M M' : MD} {P P' : List (Option Lc)} {i c : Nat} {t t' : ThD} {T T' : MTh} {f f' : FmD} {fs : List FmD} {F F' : FrIZ} {k : TkD} {tl : List TkD} {stk : List Vl} {pc : Nat}
/-- nothing but the pc and the tasks move -/
theorem Op.jmp (h : Op N root D S K m fu s M P i t T f fs F) {ts seg : List TkD} {pc : Nat} (e1 : ts = seg ++ ⟨3, if f.prot then 1 else 0, F.low.length, none⟩ :: F.rest) (e2 : ∀ t ∈ seg, t.k ≠ 3) (cb : Cb ⟨N, D, gO m f, F.r, M.envs, F.lc, F.low.length⟩ ts false pc (oO D m t f) F.L F.lf) (it : Itm (t.stack.drop (f.base + (D.fn (gO m f)).nslots)) ts (oO D m t f) (oO D m t f)) :
    Op0 N root D (mS m i t f fs t.stack pc) fu s (M.st { T with tasks := ts }) P i (tS t f fs t.stack pc) { T with tasks := ts } { f with pc := pc } fs { F with seg := seg } := by
  have W := h.rel.w i
  have dc := h.toOp0.dc (stk := t.stack) (pc := pc) h.le (fun q _ => rfl)
  have R := h.dcl (fu' := fu) dc (fun q hq => rfl) h.le h.fo.ns (ts := ts) (seg := seg) e1 e2 cb it (vs := T.vals) h.vv
  have eM : ({ M.st { T with tasks := ts, vals := T.vals } with fuel := fu, envs := M.envs } : MD) = M.st { T with tasks := ts } := by rw [← W.fuel]; rfl
  rw [eM] at R
  exact R
/-- the end of a block -/
theorem Op.k1e (h : Op N root D S K m fu s M P i t T f fs F) (ht : T.tasks = k :: tl) (hk : k.k = 1) (hn : k.n = 0) : (∃ seg, Op N root D S K m fu s (M.st { T with tasks := tl }) P i t { T with tasks := tl } f fs { F with seg := seg }) ∨ PgZ N root D i M.stack s 1 m fu (M.st { T with tasks := tl }) := by
  have cb := h.cb ht
  unfold Cb at cb
  simp (config := { decide := true }) only [hk, if_true, if_false] at cb
  obtain ⟨ho, he, L0, lp, lb, ex, pc', h0, ⟨l, s1, L1, c, hs, q1, q2, st, ha, hpc, hex⟩, fw, br⟩ := cb
  have it := h.it ht
  unfold Itm at it
  simp (config := { decide := true }) only [hk, if_true, if_false] at it
  have h3 : k.k ≠ 3 := by omega
  obtain ⟨seg, e1, e2⟩ := h.seg ht h3
  have hl : l = [] := by
    cases l with
    | nil => rfl
    | cons x l =>
      have z : k.n = x := c.1
      exact absurd (z.symm.trans hn) c.2.1
  subst hl
  obtain ⟨rfl, rfl⟩ := st
  have ha : AtC (D.fn (gO m f)).code f.pc (clI L0 F.L) := ha
  have hpc : pc' = f.pc + (clI L0 F.L).length := hpc
  by_cases hlt : L0.length < F.L.length
  · right
    rw [show clI L0 F.L = [(29, L0.length)] from if_pos hlt] at ha hpc
    have hpc : pc' = f.pc + 1 := hpc
    subst hpc
    obtain ⟨kk, hk1, r1, L1, hg⟩ := h.g29 ha
    rcases fw with fw | ⟨x, a, lt, fw⟩
    · have O := h.closeR ho h0.1 hk1 (pc := f.pc + 1) e1 e2 fw it.any
      rw [← h.hidT ho h0] at O
      exact PgZ.round r1 (PgZ.rel O.rel h.cu rfl)
    · have a : AtC (D.fn (gO (closeFrom m i (f.base + L0.length)) f)).code (f.pc + 1) [(21, x)] := by rw [hg]; exact a
      obtain ⟨r2, _⟩ := L1.g21 a lt fu
      have O := h.closeR ho h0.1 hk1 (pc := x) e1 e2 fw it.any
      rw [← h.hidT ho h0] at O
      exact PgZ.round r1 (PgZ.weak (PgZ.round r2 (PgZ.rel O.rel h.cu rfl)))
  · rw [show clI L0 F.L = [] from if_neg hlt] at ha hpc
    have hpc : pc' = f.pc := hpc
    subst hpc
    have hL : L0 = F.L := by
      obtain ⟨B, hB⟩ := h0.1
      have : B = [] := by
        refine List.eq_nil_of_length_eq_zero ?_
        rw [← hB, List.length_append] at hlt
        omega
      rw [← hB, this, List.append_nil]
    subst hL
    have hsf : sfx F.lf F.L F.L = F.lf := by show F.lf.drop _ = _; rw [Nat.sub_self, List.drop_zero]
    rw [hsf] at fw
    rcases fw with fw | ⟨x, a, lt, fw⟩
    · exact .inl (h.exp ht h3 (new := []) (by simp) (by rw [ho]; exact fw) (by rw [ho]; exact it))
    · right
      obtain ⟨r1, _⟩ := h.ln.g21 a lt fu
      rw [h.mS_self] at r1
      exact PgZ.round r1 (PgZ.rel (h.jmp (pc := x) e1 e2 (by rw [ho]; exact fw) (by rw [ho]; exact it)).rel h.cu rfl)
end
end Go.Proofs.Qxb6500574aGreatDoor
