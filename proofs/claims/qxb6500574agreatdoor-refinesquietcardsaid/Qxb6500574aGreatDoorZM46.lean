/-
  moon: THE INTERPRETER's OWN VALUES: heights, loops' values. Plain; no memory, no walk.
-/
import Derived.Test.Qxb6500574aGreatDoorZM44
namespace Go.Proofs.Qxb6500574aGreatDoor
set_option linter.unusedVariables false
set_option linter.unusedSimpArgs false
/-- how many values a task takes, how many it leaves -/
def ar (k : TkD) : Nat × Nat :=
  if k.k = 2 then (0, 1)
  else if k.k = 5 ∨ k.k = 6 ∨ k.k = 8 ∨ k.k = 9 ∨ k.k = 11 ∨ k.k = 13 ∨ k.k = 18 ∨ k.k = 23 then (1, 0)
  else if k.k = 7 ∨ k.k = 19 ∨ k.k = 20 ∨ k.k = 21 then (2, 0)
  else if k.k = 10 ∨ k.k = 15 ∨ k.k = 16 ∨ k.k = 17 then (3, 0)
  else if k.k = 22 then (k.x + 1, 2)
  else if k.k = 24 ∨ k.k = 28 then (2, 1)
  else if k.k = 25 ∨ k.k = 26 ∨ k.k = 27 then (1, 1)
  else (0, 0)
/-- what a loop's values are -/
def Ext (tb : List TabD) (vs : List Vl) (k : TkD) (h w : Nat) : Prop :=
  (k.k = 16 ∨ k.k = 17 → h ≤ w ∧ (vs.getD (h - 3) nilV).t = 2 ∧ (vs.getD (h - 1) nilV).t = 2) ∧
  (k.k = 19 ∨ k.k = 20 → h ≤ w ∧ (vs.getD (h - 2) nilV).t = 4 ∧ (tb.getD (vs.getD (h - 2) nilV).n tab0).next (vs.getD (h - 1) nilV) ≠ none) ∧
  (k.k = 23 → h ≤ w + 1 ∧ 2 ≤ h ∧ (vs.getD (h - 2) nilV).t = 4)
/-- the tasks begin with h values, the first w of which are there -/
def HK (tb : List TabD) (vs : List Vl) : List TkD → Nat → Nat → Prop
  | [], _, _ => True
  | k :: ts, h, w =>
    if k.k = 3 then h = k.x ∧ k.x ≤ w ∧ HK tb vs ts (k.x + 2) k.x
    else if k.k = 4 then h = k.x ∧ k.x ≤ w ∧ HK tb vs ts k.x k.x
    else (ar k).1 ≤ h ∧ Ext tb vs k h w ∧ HK tb vs ts (h - (ar k).1 + (ar k).2) (min w (h - (ar k).1))
theorem HK.mono {tb tb' : List TabD} {vs vs' : List Vl} (ht : TabM tb tb') : ∀ {ts : List TkD} {h w w' : Nat}, HK tb vs ts h w → w ≤ w' → (∀ q, q < w → vs'.getD q nilV = vs.getD q nilV) → HK tb' vs' ts h w'
  | [], _, _, _, _, _, _ => trivial
  | k :: ts, h, w, w', g, hw, ho => by
    unfold HK at g ⊢
    by_cases h3 : k.k = 3
    · rw [if_pos h3] at g ⊢
      exact ⟨g.1, by omega, HK.mono ht g.2.2 (Nat.le_refl _) (fun q hq => ho q (by omega))⟩
    rw [if_neg h3] at g ⊢
    by_cases h4 : k.k = 4
    · rw [if_pos h4] at g ⊢
      exact ⟨g.1, by omega, HK.mono ht g.2.2 (Nat.le_refl _) (fun q hq => ho q (by omega))⟩
    rw [if_neg h4] at g ⊢
    obtain ⟨g1, ⟨g2, g3, g5⟩, g4⟩ := g
    have h16 : k.k = 16 ∨ k.k = 17 → 3 ≤ h := fun z => by
      have : (ar k).1 = 3 := by unfold ar; rcases z with z | z <;> rw [z] <;> rfl
      omega
    have h19 : k.k = 19 ∨ k.k = 20 → 2 ≤ h := fun z => by
      have : (ar k).1 = 2 := by unfold ar; rcases z with z | z <;> rw [z] <;> rfl
      omega
    refine ⟨g1, ⟨fun z => ?_, fun z => ?_, fun z => ?_⟩, HK.mono ht g4 (by omega) (fun q hq => ho q (by omega))⟩
    · obtain ⟨a, b, c⟩ := g2 z
      have := h16 z
      exact ⟨by omega, by rw [ho _ (by omega)]; exact b, by rw [ho _ (by omega)]; exact c⟩
    · obtain ⟨a, b, c⟩ := g3 z
      have := h19 z
      refine ⟨by omega, by rw [ho _ (by omega)]; exact b, ?_⟩
      rw [ho _ (by omega), ho _ (by omega)]
      exact ht _ _ c
    · obtain ⟨a, b, c⟩ := g5 z
      exact ⟨by omega, b, by rw [ho _ (by omega)]; exact c⟩
theorem HK.ret {tb : List TabD} {vs : List Vl} : ∀ {ts : List TkD} {h w : Nat} {k : TkD} {r : List TkD}, HK tb vs ts h w → retT ts = some (k, r) → k.x ≤ w ∧ HK tb vs r (k.x + 2) k.x
  | [], _, _, _, _, _, e => by cases e
  | a :: ts, h, w, k, r, g, e => by
    unfold HK at g
    unfold retT at e
    by_cases h3 : a.k = 3
    · rw [if_pos h3] at g e
      cases e
      exact g.2
    rw [if_neg h3] at g e
    by_cases h4 : a.k = 4
    · rw [if_pos h4] at g
      obtain ⟨x, y⟩ := HK.ret g.2.2 e
      exact ⟨by omega, y⟩
    · rw [if_neg h4] at g
      obtain ⟨x, y⟩ := HK.ret g.2.2 e
      exact ⟨by omega, y⟩
theorem HK.brk {tb : List TabD} {vs : List Vl} : ∀ {ts : List TkD} {h w x : Nat} {r : List TkD}, HK tb vs ts h w → brkT ts = some (x, r) → x ≤ w ∧ HK tb vs r x x
  | [], _, _, _, _, _, e => by cases e
  | a :: ts, h, w, x, r, g, e => by
    unfold HK at g
    unfold brkT at e
    by_cases h4 : a.k = 4
    · rw [if_pos h4] at e
      rw [if_neg (by omega), if_pos h4] at g
      cases e
      exact g.2
    rw [if_neg h4] at e
    by_cases h3 : a.k = 3
    · rw [if_pos h3] at g
      obtain ⟨p, q⟩ := HK.brk g.2.2 e
      exact ⟨by omega, q⟩
    · rw [if_neg h3, if_neg h4] at g
      obtain ⟨p, q⟩ := HK.brk g.2.2 e
      exact ⟨by omega, q⟩
theorem HK.thr {tb : List TabD} {vs : List Vl} : ∀ {ts : List TkD} {h w d : Nat} {r : List TkD} {x e d' : Nat}, HK tb vs ts h w → thrT ts d = (some (r, x, e), d') → x ≤ w ∧ HK tb vs r (x + 2) x
  | [], _, _, _, _, _, _, _, _, z => by cases z
  | a :: ts, h, w, d, r, x, e, d', g, z => by
    unfold HK at g
    unfold thrT at z
    by_cases h3 : a.k = 3
    · rw [if_pos h3] at g z
      by_cases h1 : a.n = 1
      · rw [if_pos h1] at z
        cases z
        exact g.2
      · rw [if_neg h1] at z
        obtain ⟨p, q⟩ := HK.thr g.2.2 z
        exact ⟨by omega, q⟩
    rw [if_neg h3] at g z
    by_cases h4 : a.k = 4
    · rw [if_pos h4] at g
      obtain ⟨p, q⟩ := HK.thr g.2.2 z
      exact ⟨by omega, q⟩
    · rw [if_neg h4] at g
      obtain ⟨p, q⟩ := HK.thr g.2.2 z
      exact ⟨by omega, q⟩
/-- a plain task ahead -/
theorem HK.cons {tb : List TabD} {vs : List Vl} {ts : List TkD} {q n x h w : Nat} {e : Option Nat} {a b : Nat} (h3 : q ≠ 3 ∧ q ≠ 4 ∧ q ≠ 16 ∧ q ≠ 17 ∧ q ≠ 19 ∧ q ≠ 20 ∧ q ≠ 23) (ha : ar ⟨q, n, x, e⟩ = (a, b)) (hl : a ≤ h) (g : HK tb vs ts (h - a + b) (min w (h - a))) : HK tb vs (⟨q, n, x, e⟩ :: ts) h w := by
  obtain ⟨p3, p4, p16, p17, p19, p20, p23⟩ := h3
  unfold HK
  rw [if_neg (by exact p3), if_neg (by exact p4), ha]
  exact ⟨hl, ⟨fun z => (by rcases z with z | z; exact absurd z p16; exact absurd z p17), fun z => (by rcases z with z | z; exact absurd z p19; exact absurd z p20), fun z => absurd z p23⟩, g⟩
/-- an item ahead: the table is below it -/
theorem HK.item {tb : List TabD} {vs : List Vl} {ts : List TkD} {n x h w : Nat} {e : Option Nat} (h1 : h ≤ w + 1) (h2 : 2 ≤ h) (ht : (vs.getD (h - 2) nilV).t = 4) (g : HK tb vs ts (h - 1) (min w (h - 1))) : HK tb vs (⟨23, n, x, e⟩ :: ts) h w := by
  unfold HK
  rw [if_neg (show ¬ ((23 : Nat) = 3) by decide), if_neg (show ¬ ((23 : Nat) = 4) by decide)]
  exact ⟨by show 1 ≤ h; omega, ⟨fun z => (by rcases z with z | z <;> cases z), fun z => (by rcases z with z | z <;> cases z), fun _ => ⟨h1, h2, ht⟩⟩, g⟩
/-- an expression ahead -/
theorem HK.ev {tb : List TabD} {vs : List Vl} {ts : List TkD} {n x h w : Nat} {e : Option Nat} (hw : w ≤ h) (g : HK tb vs ts (h + 1) w) : HK tb vs (⟨2, n, x, e⟩ :: ts) h w := by
  refine HK.cons (by decide) (a := 0) (b := 1) rfl (Nat.zero_le _) ?_
  rw [Nat.sub_zero, Nat.min_eq_left hw]
  exact g
/-- statements ahead -/
theorem HK.blk {tb : List TabD} {vs : List Vl} {ts : List TkD} {n x h w : Nat} {e : Option Nat} (hw : w ≤ h) (g : HK tb vs ts h w) : HK tb vs (⟨1, n, x, e⟩ :: ts) h w := by
  refine HK.cons (by decide) (a := 0) (b := 0) rfl (Nat.zero_le _) ?_
  rw [Nat.sub_zero, Nat.add_zero, Nat.min_eq_left hw]
  exact g
theorem HK.args {tb : List TabD} {vs : List Vl} {ts : List TkD} {e : Option Nat} {w : Nat} : ∀ {l : List Nat} {h : Nat}, w ≤ h → HK tb vs ts (h + l.length) w → HK tb vs (l.map (fun x => (⟨2, x, 0, e⟩ : TkD)) ++ ts) h w
  | [], h, _, g => g
  | y :: l, h, hw, g => by
    refine HK.ev hw ?_
    refine HK.args (by omega) ?_
    rw [show h + 1 + l.length = h + (y :: l).length by simp; omega]
    exact g
theorem HK.call {tb : List TabD} {vs : List Vl} {ts : List TkD} {e : Option Nat} {n n2 h w : Nat} {l : List Nat} (hw : w ≤ h) (g : HK tb vs ts (h + 2) w) : HK tb vs (⟨2, n2, 0, e⟩ :: l.map (fun x => (⟨2, x, 0, e⟩ : TkD)) ++ [⟨22, n, l.length, e⟩] ++ ts) h w := by
  show HK tb vs (⟨2, n2, 0, e⟩ :: (l.map (fun x => (⟨2, x, 0, e⟩ : TkD)) ++ [⟨22, n, l.length, e⟩] ++ ts)) h w
  refine HK.ev hw ?_
  rw [List.append_assoc]
  refine HK.args (by omega) ?_
  refine HK.cons (by decide) (a := l.length + 1) (b := 2) rfl (by omega) ?_
  rw [show h + 1 + l.length - (l.length + 1) + 2 = h + 2 by omega, show min w (h + 1 + l.length - (l.length + 1)) = w by omega]
  exact g
/-- THE LAW of the interpreter's own values -/
structure MI (M : MD) : Prop where
  tn : ∀ t ∈ M.tabs, TN t
  cl : M.cur < M.ths.length
  st : M.th.st = 4
  nd : (M.cur :: M.stack).Nodup
  la : (M.cur :: M.stack).getLast? = some 0
  wt : ∀ c ∈ M.stack, (M.ths.getD c mt0).st = 3 ∧ c < M.ths.length
  cu : HK M.tabs M.th.vals M.th.tasks M.th.vals.length M.th.vals.length
  ot : ∀ j T, j ≠ M.cur → M.ths[j]? = some T → HK M.tabs T.vals T.tasks (T.vals.length + 2) T.vals.length
theorem th_at {M : MD} (h : M.cur < M.ths.length) : M.ths[M.cur]? = some M.th := by
  unfold MD.th
  rw [List.getD_eq_getElem?_getD, List.getElem?_eq_getElem h]
  rfl
theorem st_me {M : MD} (h : M.cur < M.ths.length) : M.st M.th = M := st_self (th_at h)
/-- only the thread at hand moves -/
theorem MI.set {M M' : MD} (h : MI M) {T : MTh} (h1 : M'.cur = M.cur) (h2 : M'.stack = M.stack) (h3 : M'.ths = M.ths.set M.cur T) (h4 : TabM M.tabs M'.tabs ∧ ∀ t ∈ M'.tabs, TN t) (h5 : T.st = 4) (h6 : HK M'.tabs T.vals T.tasks T.vals.length T.vals.length) : MI M' := by
  have hth : M'.th = T := by
    unfold MD.th
    rw [h1, h3]
    exact gset h.cl
  refine ⟨h4.2, by rw [h1, h3, List.length_set]; exact h.cl, by rw [hth]; exact h5, by rw [h1, h2]; exact h.nd, by rw [h1, h2]; exact h.la, fun c hc => ?_, by rw [hth]; exact h6, fun j U hj hU => ?_⟩
  · rw [h2] at hc
    have hne : M.cur ≠ c := fun e => (List.nodup_cons.1 h.nd).1 (e ▸ hc)
    obtain ⟨w1, w2⟩ := h.wt c hc
    rw [h3, List.length_set, List.getD_eq_getElem?_getD, List.getElem?_set_ne hne, ← List.getD_eq_getElem?_getD]
    exact ⟨w1, w2⟩
  · rw [h1] at hj
    rw [h3, List.getElem?_set_ne (fun e => hj e.symm)] at hU
    exact HK.mono h4.1 (h.ot j U hj hU) (Nat.le_refl _) (fun _ _ => rfl)
theorem MI.st_ {M : MD} (h : MI M) {T : MTh} (h5 : T.st = 4) (h6 : HK M.tabs T.vals T.tasks T.vals.length T.vals.length) : MI (M.st T) := h.set (T := T) rfl rfl rfl ⟨TabM.refl _, h.tn⟩ h5 h6
end Go.Proofs.Qxb6500574aGreatDoor
