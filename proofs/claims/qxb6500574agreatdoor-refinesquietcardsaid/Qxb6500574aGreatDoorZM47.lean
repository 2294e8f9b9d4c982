/-
  moon: THE INTERPRETER's OWN VALUES, step by step: errors, returns, threads, statements. Plain; no memory, no walk.
-/
import Derived.Test.Qxb6500574aGreatDoorZM46
namespace Go.Proofs.Qxb6500574aGreatDoor
set_option linter.unusedVariables false
set_option linter.unusedSimpArgs false
theorem HK.to {tb tb' : List TabD} {vs vs' : List Vl} {ts : List TkD} {h h' w w' : Nat} (g : HK tb vs ts h w) (ht : TabM tb tb') (eh : h' = h) (hw : w ≤ w') (ho : ∀ q, q < w → vs'.getD q nilV = vs.getD q nilV) : HK tb' vs' ts h' w' := by
  subst eh
  exact HK.mono ht g hw ho
theorem HK.at {tb : List TabD} {vs : List Vl} {ts : List TkD} {h h' w w' : Nat} (g : HK tb vs ts h w) (eh : h' = h) (hw : w ≤ w') : HK tb vs ts h' w' := g.to (TabM.refl _) eh hw (fun _ _ => rfl)
section
variable {N : List Nd} {root : Nat} {M : MD} {T : MTh} {k : TkD} {tl : List TkD}
theorem gd_tk {l us : List Vl} {x q : Nat} (h : q < x) (hx : x ≤ l.length) : (l.take x ++ us).getD q nilV = l.getD q nilV := by
  rw [gd_app (by rw [List.length_take]; omega), gd_take h]
/-- a thread that waited goes on -/
theorem MI.wake (h : MI M) {T2 : MTh} (hs : HK M.tabs T2.vals T2.tasks (T2.vals.length + 2) T2.vals.length) {c : Nat} {r : List Nat} (hk : M.stack = c :: r) (a b : Vl) : MI ((({ M.st T2 with stack := r, cur := c } : MD).upT fun t => { t with st := 4 }).push [a, b]) := by
  have nd := h.nd
  rw [hk] at nd
  have hne : M.cur ≠ c := fun e => (List.nodup_cons.1 nd).1 (by simp [e])
  obtain ⟨w1, w2⟩ := h.wt c (by rw [hk]; simp)
  have hc : (M.st T2).ths[c]? = some (M.ths.getD c mt0) := by
    show (M.ths.set M.cur T2)[c]? = _
    rw [List.getElem?_set_ne hne, List.getElem?_eq_getElem w2, List.getD_eq_getElem?_getD, List.getElem?_eq_getElem w2]
    rfl
  have hcl := (List.getElem?_eq_some_iff.1 hc).1
  generalize hU : M.ths.getD c mt0 = U at hc w1
  have e1 : (({ M.st T2 with stack := r, cur := c } : MD).upT fun t => { t with st := 4 }) = ({ M.st T2 with stack := r, cur := c } : MD).st { U with st := 4 } := by
    have z := st_up (M := { M.st T2 with stack := r, cur := c }) (T := U) hcl (fun t => { t with st := 4 })
    rw [st_self (M := { M.st T2 with stack := r, cur := c }) hc] at z
    exact z
  rw [e1, st_push (M := { M.st T2 with stack := r, cur := c }) hcl]
  have hoc : M.ths[c]? = some U := by
    rw [List.getElem?_eq_getElem w2, ← hU, List.getD_eq_getElem?_getD, List.getElem?_eq_getElem w2]
    rfl
  have g := h.ot c U (fun e => hne e.symm) hoc
  have hthE : (({ M.st T2 with stack := r, cur := c } : MD).st { U with st := 4, vals := U.vals ++ [a, b] }).th = { U with st := 4, vals := U.vals ++ [a, b] } := st_th (M := { M.st T2 with stack := r, cur := c }) hcl
  refine ⟨h.tn, by show c < ((M.ths.set M.cur T2).set c _).length; rw [List.length_set]; exact hcl, by rw [hthE], (List.nodup_cons.1 nd).2, by have la := h.la; rw [hk] at la; show (c :: r).getLast? = some 0; simpa using la, fun d hd => ?_, ?_, fun j V hj hV => ?_⟩
  · have hd : d ∈ r := hd
    obtain ⟨v1, v2⟩ := h.wt d (by rw [hk]; simp [hd])
    have d1 : c ≠ d := fun e => (List.nodup_cons.1 (List.nodup_cons.1 nd).2).1 (e ▸ hd)
    have d2 : M.cur ≠ d := fun e => (List.nodup_cons.1 nd).1 (by simp [e, hd])
    show (((M.ths.set M.cur T2).set c _).getD d mt0).st = 3 ∧ d < ((M.ths.set M.cur T2).set c _).length
    rw [List.getD_eq_getElem?_getD, List.getElem?_set_ne d1, List.getElem?_set_ne d2, ← List.getD_eq_getElem?_getD, List.length_set, List.length_set]
    exact ⟨v1, v2⟩
  · rw [hthE]
    show HK M.tabs (U.vals ++ [a, b]) U.tasks (U.vals ++ [a, b]).length (U.vals ++ [a, b]).length
    rw [List.length_append]
    exact g.to (TabM.refl _) rfl (Nat.le_add_right _ _) (fun q hq => gd_app hq)
  · have hj : j ≠ c := hj
    have hV : ((M.ths.set M.cur T2).set c _)[j]? = some V := hV
    rw [List.getElem?_set_ne (fun e => hj e.symm)] at hV
    by_cases e : j = M.cur
    · subst e
      rw [List.getElem?_set_self h.cl] at hV
      cases hV
      exact hs
    · rw [List.getElem?_set_ne (fun z => e z.symm)] at hV
      exact h.ot j V e hV
theorem MI.back (h : MI M) {T2 : MTh} (hs : HK M.tabs T2.vals T2.tasks (T2.vals.length + 2) T2.vals.length) (ok : Bool) (v : Vl) (hd : ((M.st T2).back ok v).done = none) : MI ((M.st T2).back ok v) := by
  unfold MD.back at hd ⊢
  have e : (M.st T2).stack = M.stack := rfl
  rw [e] at hd ⊢
  cases hk : M.stack with
  | nil => rw [hk] at hd; cases hd
  | cons c r =>
    dsimp only
    exact h.wake hs hk _ _
theorem MI.throw (h : MI M) {T1 : MTh} (h5 : T1.st = 4) {hh w : Nat} (g : HK M.tabs T1.vals T1.tasks hh w) (hw : w ≤ T1.vals.length) (v : Vl) (hd : ((M.st T1).throw v).done = none) : MI ((M.st T1).throw v) := by
  unfold MD.throw at hd ⊢
  rw [st_th h.cl] at hd ⊢
  cases hq : thrT T1.tasks T1.depth with
  | mk o d =>
    rw [hq] at hd
    cases o with
    | none =>
      dsimp only at hd ⊢
      rw [st_up h.cl] at hd ⊢
      exact h.back (by trivial) _ _ hd
    | some p =>
      obtain ⟨r, x, d2⟩ := p
      dsimp only at hd ⊢
      rw [st_up h.cl] at hd ⊢
      obtain ⟨p1, p2⟩ := g.thr hq
      refine h.st_ h5 ?_
      show HK M.tabs (T1.vals.take x ++ [boolV false, v]) r (T1.vals.take x ++ [boolV false, v]).length (T1.vals.take x ++ [boolV false, v]).length
      have hl : (T1.vals.take x ++ [boolV false, v]).length = x + 2 := by rw [List.length_append, List.length_take]; simp; omega
      rw [hl]
      exact p2.to (TabM.refl _) rfl (by omega) (fun q hq => gd_tk hq (by omega))
theorem MI.ret (h : MI M) {T1 : MTh} (h5 : T1.st = 4) {hh w : Nat} (g : HK M.tabs T1.vals T1.tasks hh w) (hw : w ≤ T1.vals.length) (a b : Vl) (hd : ((M.st T1).ret a b).done = none) : MI ((M.st T1).ret a b) := by
  unfold MD.ret at hd ⊢
  rw [st_th h.cl] at hd ⊢
  cases hq : retT T1.tasks with
  | none =>
    rw [hq] at hd
    dsimp only at hd ⊢
    rw [st_up h.cl]
    exact h.st_ h5 trivial
  | some p =>
    obtain ⟨k, r⟩ := p
    rw [hq] at hd
    dsimp only at hd ⊢
    rw [st_up h.cl] at hd ⊢
    obtain ⟨p1, p2⟩ := g.ret hq
    by_cases hr : r = []
    · rw [if_pos hr] at hd ⊢
      rw [st_up h.cl] at hd ⊢
      refine h.back ?_ _ _ hd
      show HK _ _ r _ _
      rw [hr]
      trivial
    · rw [if_neg hr] at hd ⊢
      rw [st_push h.cl]
      refine h.st_ h5 ?_
      obtain ⟨u, v, e⟩ : ∃ u v, (if k.n = 1 then [boolV true, a] else [a, b]) = [u, v] := by
        by_cases z : k.n = 1
        · rw [if_pos z]; exact ⟨_, _, rfl⟩
        · rw [if_neg z]; exact ⟨_, _, rfl⟩
      rw [e]
      show HK M.tabs (T1.vals.take k.x ++ [u, v]) r (T1.vals.take k.x ++ [u, v]).length (T1.vals.take k.x ++ [u, v]).length
      have hl : (T1.vals.take k.x ++ [u, v]).length = k.x + 2 := by rw [List.length_append, List.length_take]; simp; omega
      rw [hl]
      exact p2.to (TabM.refl _) rfl (by omega) (fun q hq => gd_tk hq (by omega))
theorem MI.enter (h : MI M) {T1 : MTh} (h5 : T1.st = 4) (hs : HK M.tabs T1.vals T1.tasks (T1.vals.length + 2) T1.vals.length) (c : Nat) (args : List Vl) (p : Nat) : MI ((M.st T1).enter N root c args p) := by
  unfold MD.enter
  dsimp only
  rw [st_up h.cl]
  refine h.set (T := { T1 with depth := T1.depth + 1, tasks := _ :: _ :: T1.tasks }) rfl rfl rfl ⟨TabM.refl _, h.tn⟩ h5 ?_
  refine HK.blk (Nat.le_refl _) ?_
  unfold HK
  rw [if_pos rfl]
  exact ⟨rfl, Nat.le_refl _, hs⟩
/-- tasks are unfolded -/
theorem MI.todo (h : MI M) (hst : T.st = 4) {l : List TkD} (g : HK M.tabs T.vals (l ++ T.tasks) T.vals.length T.vals.length) : MI ((M.st T).todo l) := by
  rw [st_todo h.cl]
  exact h.st_ hst g
/-- a statement -/
theorem MI.stmt (h : MI M) (hst : T.st = 4) (g : HK M.tabs T.vals T.tasks T.vals.length T.vals.length) (n : Nat) (e : Option Nat) : MI ((M.st T).stmt N n e) := by
  unfold MD.stmt
  dsimp only
  have le := Nat.le_refl T.vals.length
  have nx : ∀ {q : Nat} {u : Option Nat}, HK M.tabs T.vals (⟨1, q, 0, u⟩ :: T.tasks) T.vals.length T.vals.length := HK.blk le g
  by_cases d1 : (N.getD n nd0).k = 1
  · rw [if_pos d1]
    by_cases a0 : (N.getD n nd0).a ≠ 0
    · rw [if_pos a0]
      refine h.todo hst ?_
      refine HK.ev le (HK.cons (by decide) (a := 1) (b := 0) rfl (by omega) (g.at (by omega) (by omega)))
    · rw [if_neg a0, st_todo h.cl, st_push h.cl]
      refine h.st_ hst ?_
      show HK M.tabs (T.vals ++ [nilV]) (⟨6, n, 0, e⟩ :: T.tasks) (T.vals ++ [nilV]).length (T.vals ++ [nilV]).length
      rw [List.length_append]
      refine HK.cons (by decide) (a := 1) (b := 0) rfl (by simp) (g.to (TabM.refl _) (by simp) (by simp) (fun q hq => gd_app hq))
  rw [if_neg d1]
  by_cases d2 : (N.getD n nd0).k = 2
  · rw [if_pos d2, st_todo h.cl]
    unfold MD.call
    dsimp only
    rw [st_todo h.cl]
    refine h.st_ hst ?_
    show HK M.tabs T.vals _ T.vals.length T.vals.length
    refine HK.call (ts := ⟨7, n, 0, e⟩ :: T.tasks) le ?_
    exact HK.cons (by decide) (a := 2) (b := 0) rfl (by omega) (g.at (by omega) (by omega))
  rw [if_neg d2]
  by_cases d3 : (N.getD n nd0).k = 3
  · rw [if_pos d3, st_todo h.cl]
    refine h.set (T := { T with tasks := _ }) rfl rfl rfl ⟨TabM.refl _, h.tn⟩ hst ?_
    show HK M.tabs T.vals _ T.vals.length T.vals.length
    exact HK.ev le (HK.cons (by decide) (a := 1) (b := 0) rfl (by omega) (g.at (by omega) (by omega)))
  rw [if_neg d3, st_todo h.cl]
  have hth : (M.st { T with tasks := [⟨1, (N.getD n nd0).next, 0, e⟩] ++ T.tasks }).th = { T with tasks := [⟨1, (N.getD n nd0).next, 0, e⟩] ++ T.tasks } := st_th h.cl
  rw [hth]
  have nx' : HK M.tabs T.vals ([⟨1, (N.getD n nd0).next, 0, e⟩] ++ T.tasks) T.vals.length T.vals.length := nx
  have h4 : ∀ {w : Nat}, T.vals.length ≤ w → HK M.tabs T.vals (⟨4, 0, T.vals.length, none⟩ :: ([⟨1, (N.getD n nd0).next, 0, e⟩] ++ T.tasks)) T.vals.length w := fun hw => by
    unfold HK
    rw [if_neg (by show ¬ (4 : Nat) = 3; decide), if_pos rfl]
    exact ⟨rfl, hw, nx'⟩
  have td : ∀ l, HK M.tabs T.vals (l ++ ([⟨1, (N.getD n nd0).next, 0, e⟩] ++ T.tasks)) T.vals.length T.vals.length → MI ((M.st { T with tasks := [⟨1, (N.getD n nd0).next, 0, e⟩] ++ T.tasks }).todo l) := fun l g => h.todo (T := { T with tasks := [⟨1, (N.getD n nd0).next, 0, e⟩] ++ T.tasks }) hst g
  by_cases d4 : (N.getD n nd0).k = 4
  · rw [if_pos d4]
    by_cases a17 : (N.getD (N.getD n nd0).a nd0).k = 17
    · rw [if_pos a17]
      refine td _ ?_
      exact HK.ev le (HK.cons (by decide) (a := 1) (b := 0) rfl (by omega) (nx'.at (by omega) (by omega)))
    · rw [if_neg a17]
      refine td _ ?_
      exact HK.ev le (HK.ev (by omega) (HK.ev (by omega) (HK.cons (by decide) (a := 3) (b := 0) rfl (by omega) (nx'.at (by omega) (by omega)))))
  rw [if_neg d4]
  by_cases d5 : (N.getD n nd0).k = 5
  · rw [if_pos d5]
    refine td _ ?_
    exact HK.ev le (HK.cons (by decide) (a := 1) (b := 0) rfl (by omega) (nx'.at (by omega) (by omega)))
  rw [if_neg d5]
  by_cases d6 : (N.getD n nd0).k = 6
  · rw [if_pos d6]
    refine td _ ?_
    exact HK.ev le (HK.cons (by decide) (a := 1) (b := 0) rfl (by omega) (nx'.at (by omega) (by omega)))
  rw [if_neg d6]
  by_cases d7 : (N.getD n nd0).k = 7
  · rw [if_pos d7]
    refine td _ ?_
    refine HK.cons (by decide) (a := 0) (b := 0) rfl (by omega) ?_
    exact (h4 (w := min T.vals.length (T.vals.length - 0)) (by omega)).at rfl (Nat.le_refl _)
  rw [if_neg d7]
  by_cases d8 : (N.getD n nd0).k = 8
  · rw [if_pos d8]
    have rest : ∀ {w : Nat}, T.vals.length ≤ w → HK M.tabs T.vals (⟨15, n, 0, e⟩ :: ⟨4, 0, T.vals.length, none⟩ :: ([⟨1, (N.getD n nd0).next, 0, e⟩] ++ T.tasks)) (T.vals.length + 1 + 1 + 1) w := fun {w} hw =>
      HK.cons (by decide) (a := 3) (b := 0) rfl (by omega) ((h4 (w := T.vals.length) (by omega)).at (by omega) (by omega))
    by_cases e3 : (N.getD (N.getD (N.getD n nd0).a nd0).next nd0).next ≠ 0
    · rw [if_pos e3]
      refine td _ ?_
      exact HK.ev le (HK.ev (by omega) (HK.ev (by omega) (rest (by omega))))
    · rw [if_neg e3]
      refine td _ ?_
      exact HK.ev le (HK.ev (by omega) (HK.ev (by omega) (rest (by omega))))
  rw [if_neg d8]
  by_cases d9 : (N.getD n nd0).k = 9
  · rw [if_pos d9]
    refine td _ ?_
    refine HK.ev le (HK.cons (by decide) (a := 1) (b := 0) rfl (by omega) ?_)
    exact (h4 (w := T.vals.length) (by omega)).at (by omega) (by omega)
  rw [if_neg d9]
  by_cases d10 : (N.getD n nd0).k = 10
  · rw [if_pos d10]
    refine td _ ?_
    exact HK.ev le (HK.ev (by omega) (HK.cons (by decide) (a := 2) (b := 0) rfl (by omega) (nx'.at (by omega) (by omega))))
  rw [if_neg d10]
  by_cases d11 : (N.getD n nd0).k = 11
  · rw [if_pos d11]
    cases hb : brkT ([⟨1, (N.getD n nd0).next, 0, e⟩] ++ T.tasks) with
    | none =>
      dsimp only
      rw [st_up h.cl]
      exact h.st_ hst trivial
    | some p =>
      obtain ⟨x, r⟩ := p
      dsimp only
      rw [st_up h.cl]
      obtain ⟨p1, p2⟩ := nx'.brk hb
      refine h.st_ hst ?_
      show HK M.tabs (T.vals.take x) r (T.vals.take x).length (T.vals.take x).length
      have hl : (T.vals.take x).length = x := by rw [List.length_take]; omega
      rw [hl]
      exact p2.to (TabM.refl _) rfl (Nat.le_refl _) (fun q hq => gd_take hq)
  · rw [if_neg d11]
    exact h.st_ hst nx'
end
end Go.Proofs.Qxb6500574aGreatDoor
