/-
  moon: THE INTERPRETER's OWN VALUES: expressions, calls. Plain; no memory, no walk.
-/
import Derived.Test.Qxb6500574aGreatDoorZM49
namespace Go.Proofs.Qxb6500574aGreatDoor
set_option linter.unusedVariables false
set_option linter.unusedSimpArgs false
section
variable {N : List Nd} {root : Nat} {M : MD} {T : MTh} {k : TkD} {tl : List TkD}
theorem ExSZ.kd {n : Nat} (h : ExSZ N n) : 12 ≤ (N.getD n nd0).k ∧ (N.getD n nd0).k ≤ 25 := by
  obtain ⟨lo, a, b, w, kk, h⟩ := h
  cases kk with
  | zero => exact h.elim
  | succ kk =>
    obtain ⟨_, _, h3⟩ := h
    rcases h3 with ⟨_, h3⟩ | ⟨z, _⟩
    · rcases h3 with ⟨e, _⟩ | ⟨e, _⟩ | ⟨e, _⟩ | ⟨e, _⟩ | ⟨e, _⟩ | ⟨e, _⟩ | ⟨e, _⟩ | ⟨e, _⟩ | ⟨e, _⟩ | ⟨e, _⟩ | ⟨e, _⟩ <;> omega
    · cases z
theorem MI.fuel (h : MI M) (f : Nat) : MI { M with fuel := f } := ⟨h.tn, h.cl, h.st, h.nd, h.la, h.wt, h.cu, h.ot⟩
theorem MI.out (h : MI M) (f : Bs) : MI { M with out := f } := ⟨h.tn, h.cl, h.st, h.nd, h.la, h.wt, h.cu, h.ot⟩
theorem MI.envs (h : MI M) (f : List EnD) : MI { M with envs := f } := ⟨h.tn, h.cl, h.st, h.nd, h.la, h.wt, h.cu, h.ot⟩
theorem MI.clos (h : MI M) (f : List (Nat × Option Nat)) : MI { M with clos := f } := ⟨h.tn, h.cl, h.st, h.nd, h.la, h.wt, h.cu, h.ot⟩
theorem MI.first (h : MI M) (f : Nat) : MI { M with first := f } := ⟨h.tn, h.cl, h.st, h.nd, h.la, h.wt, h.cu, h.ot⟩
/-- values come -/
theorem MI.push (h : MI M) (hst : T.st = 4) (l : List Vl) (g : HK M.tabs T.vals T.tasks (T.vals.length + l.length) T.vals.length) : MI ((M.st T).push l) := by
  rw [st_push h.cl]
  refine h.st_ hst ?_
  show HK M.tabs (T.vals ++ l) T.tasks (T.vals ++ l).length (T.vals ++ l).length
  rw [List.length_append]
  exact g.to (TabM.refl _) rfl (Nat.le_add_right _ _) (fun q hq => gd_app hq)
theorem MI.items (h : MI M) (n i : Nat) (e : Option Nat) (ht : (M.topM 0).t = 4) : MI (M.items n i e) := by
  have hl : 1 ≤ M.th.vals.length := Decidable.byContradiction fun z => by
    unfold MD.topM at ht
    rw [List.getD_eq_getElem?_getD, List.getElem?_eq_none (by omega)] at ht
    cases ht
  unfold MD.items
  split
  · exact h
  · rw [← st_me h.cl]
    refine h.todo h.st ?_
    refine HK.ev (Nat.le_refl _) (HK.item (by omega) (by omega) ?_ (h.cu.at (by omega) (by omega)))
    rw [show M.th.vals.length + 1 - 2 = M.th.vals.length - 1 - 0 by omega]
    exact ht
theorem MI.setT (h : MI M) (hst : T.st = 4) (g : HK M.tabs T.vals T.tasks T.vals.length T.vals.length) (t k v : Vl) (hd : ((M.st T).setT t k v).done = none) : MI ((M.st T).setT t k v) := by
  unfold MD.setT at hd ⊢
  dsimp only at hd ⊢
  by_cases t4 : t.t ≠ 4
  · rw [if_pos t4] at hd ⊢
    exact h.throw hst g (Nat.le_refl _) _ hd
  rw [if_neg t4] at hd ⊢
  have et : (M.st T).tabs = M.tabs := rfl
  rw [et] at hd ⊢
  by_cases r8 : ((M.tabs.getD t.n tab0).put k v).1 = 8
  · rw [if_pos r8] at hd
    cases hd
  rw [if_neg r8] at hd ⊢
  by_cases r0 : ((M.tabs.getD t.n tab0).put k v).1 ≠ 0
  · rw [if_pos r0] at hd ⊢
    exact h.throw hst g (Nat.le_refl _) _ hd
  rw [if_neg r0]
  have tm := TabM.put h.tn t.n k v
  exact h.set (T := T) rfl rfl rfl tm hst (g.to tm.1 rfl (Nat.le_refl _) (fun _ _ => rfl))
theorem MI.bin (h : MI M) (hst : T.st = 4) (g : HK M.tabs T.vals T.tasks (T.vals.length + 1) T.vals.length) (op : Nat) (a b : Vl) (hd : ((M.st T).bin op a b).done = none) : MI ((M.st T).bin op a b) := by
  unfold MD.bin at hd ⊢
  have th : ∀ v, ((M.st T).throw v).done = none → MI ((M.st T).throw v) := fun v z => h.throw hst g (Nat.le_refl _) v z
  have pu : ∀ v, MI ((M.st T).push [v]) := fun v => h.push hst [v] g
  by_cases o20 : op = 20
  · rw [if_pos o20] at hd ⊢
    split at hd
    · rename_i z; rw [if_pos z]; exact th _ hd
    · rename_i z
      rw [if_neg z]
      split at hd
      · rename_i z2; rw [if_pos z2]; exact th _ hd
      · rename_i z2; rw [if_neg z2]; exact pu _
  rw [if_neg o20] at hd ⊢
  by_cases o10 : op > 10
  · rw [if_pos o10] at hd ⊢
    cases hc : compareP ((op - 10 : Nat) : Int) a b with
    | none => rw [hc] at hd; exact th _ hd
    | some c => exact pu _
  rw [if_neg o10] at hd ⊢
  split at hd
  · rename_i z; rw [if_pos z]; exact th _ hd
  · rename_i z; rw [if_neg z]; exact pu _
theorem MI.un (h : MI M) (hst : T.st = 4) (g : HK M.tabs T.vals T.tasks (T.vals.length + 1) T.vals.length) {op : Nat} (ho : 1 ≤ op ∧ op ≤ 3) (a : Vl) (hd : ((M.st T).un op a).done = none) : MI ((M.st T).un op a) := by
  unfold MD.un at hd ⊢
  have th : ∀ v, ((M.st T).throw v).done = none → MI ((M.st T).throw v) := fun v z => h.throw hst g (Nat.le_refl _) v z
  have pu : ∀ v, MI ((M.st T).push [v]) := fun v => h.push hst [v] g
  by_cases o2 : op = 2
  · rw [if_pos o2]; exact pu _
  rw [if_neg o2] at hd ⊢
  by_cases o1 : op = 1
  · rw [if_pos o1] at hd ⊢
    split at hd
    · rename_i z; rw [if_pos z]; exact th _ hd
    · rename_i z; rw [if_neg z]; exact pu _
  rw [if_neg o1] at hd ⊢
  rw [if_pos (by omega)] at hd ⊢
  split at hd
  · rename_i z; rw [if_pos z]; exact pu _
  · rename_i z
    rw [if_neg z]
    split at hd
    · rename_i z2; rw [if_pos z2]; exact th _ hd
    · rename_i z2; rw [if_neg z2]; exact pu _
/-- an expression -/
theorem MI.eval (h : MI M) (hst : T.st = 4) (g : HK M.tabs T.vals T.tasks (T.vals.length + 1) T.vals.length) {n x : Nat} (hE : ExZ N n) (e : Option Nat) (hd : ((M.st T).eval N n x e).done = none) : MI ((M.st T).eval N n x e) := by
  unfold MD.eval at hd ⊢
  dsimp only at hd ⊢
  have pu : ∀ v, MI ((M.st T).push [v]) := fun v => h.push hst [v] g
  have le := Nat.le_refl T.vals.length
  by_cases n0 : n = 0
  · rw [if_pos n0]; exact pu _
  rw [if_neg n0] at hd ⊢
  have hE : ExSZ N n := hE.resolve_left n0
  have O := hE.out
  by_cases d12 : (N.getD n nd0).k = 12
  · rw [if_pos d12]; exact pu _
  rw [if_neg d12] at hd ⊢
  by_cases d13 : (N.getD n nd0).k = 13
  · rw [if_pos d13]; exact pu _
  rw [if_neg d13] at hd ⊢
  by_cases d14 : (N.getD n nd0).k = 14
  · rw [if_pos d14]; exact pu _
  rw [if_neg d14] at hd ⊢
  by_cases d15 : (N.getD n nd0).k = 15
  · rw [if_pos d15]; exact pu _
  rw [if_neg d15] at hd ⊢
  by_cases d16 : (N.getD n nd0).k = 16
  · rw [if_pos d16]; exact pu _
  rw [if_neg d16] at hd ⊢
  by_cases d17 : (N.getD n nd0).k = 17
  · rw [if_pos d17]
    cases (M.st T).find e (N.getD n nd0).s with
    | some i => exact pu _
    | none => exact pu _
  rw [if_neg d17] at hd ⊢
  by_cases d18 : (N.getD n nd0).k = 18
  · rw [if_pos d18]
    refine h.todo hst ?_
    exact HK.ev le (HK.ev (by omega) (HK.cons (by decide) (a := 2) (b := 1) rfl (by omega) (g.at (by omega) (by omega))))
  rw [if_neg d18] at hd ⊢
  by_cases d19 : (N.getD n nd0).k = 19
  · rw [if_pos d19, st_todo h.cl]
    unfold MD.call
    dsimp only
    rw [st_todo h.cl]
    refine h.st_ hst ?_
    show HK M.tabs T.vals _ T.vals.length T.vals.length
    refine HK.call (ts := ⟨5, 0, 0, none⟩ :: T.tasks) le ?_
    exact HK.cons (by decide) (a := 1) (b := 0) rfl (by omega) (g.at (by omega) (by omega))
  rw [if_neg d19] at hd ⊢
  by_cases d20 : (N.getD n nd0).k = 20
  · rw [if_pos d20] at hd ⊢
    split at hd
    · cases hd
    · rename_i z
      rw [if_neg z]
      exact (pu ⟨5, (M.st T).clos.length, []⟩).clos _
  rw [if_neg d20] at hd ⊢
  by_cases d21 : (N.getD n nd0).k = 21
  · rw [if_pos d21] at hd ⊢
    split at hd
    · cases hd
    · rename_i z
      rw [if_neg z]
      have q := pu ⟨4, (M.st T).tabs.length, []⟩
      have tm := TabM.new q.tn
      have q2 : MI ({ (M.st T).push [⟨4, (M.st T).tabs.length, []⟩] with tabs := (M.st T).tabs ++ [tab0] } : MD) := by
        refine q.set (T := ((M.st T).push [⟨4, (M.st T).tabs.length, []⟩]).th) rfl rfl ?_ tm q.st (q.cu.to tm.1 rfl (Nat.le_refl _) (fun _ _ => rfl))
        exact (set_self (th_at q.cl)).symm
      refine q2.items _ _ _ ?_
      show ((((M.st T).push [⟨4, (M.st T).tabs.length, []⟩]).th.vals).getD (((M.st T).push [⟨4, (M.st T).tabs.length, []⟩]).th.vals.length - 1 - 0) nilV).t = 4
      rw [st_push h.cl, st_th h.cl]
      show ((T.vals ++ [_]).getD ((T.vals ++ [_]).length - 1 - 0) nilV).t = 4
      simp [List.getD_eq_getElem?_getD]
  rw [if_neg d21] at hd ⊢
  by_cases d22 : (N.getD n nd0).k = 22
  · rw [if_pos d22]
    refine h.todo hst ?_
    exact HK.ev le (HK.ev (by omega) (HK.cons (by decide) (a := 2) (b := 1) rfl (by omega) (g.at (by omega) (by omega))))
  rw [if_neg d22] at hd ⊢
  by_cases d23 : (N.getD n nd0).k = 23
  · rw [if_pos d23]
    refine h.todo hst ?_
    exact HK.ev le (HK.cons (by decide) (a := 1) (b := 1) rfl (by omega) (g.at (by omega) (by omega)))
  rw [if_neg d23] at hd ⊢
  by_cases d24 : (N.getD n nd0).k = 24
  · rw [if_pos d24]
    refine h.todo hst ?_
    exact HK.ev le (HK.cons (by decide) (a := 1) (b := 1) rfl (by omega) (g.at (by omega) (by omega)))
  rw [if_neg d24] at hd ⊢
  by_cases d25 : (N.getD n nd0).k = 25
  · rw [if_pos d25]
    refine h.todo hst ?_
    exact HK.ev le (HK.cons (by decide) (a := 1) (b := 1) rfl (by omega) (g.at (by omega) (by omega)))
  exfalso
  have := hE.kd
  omega
theorem MI.spawn (h : MI M) (fn : Nat) : MI { M with ths := M.ths ++ [⟨1, fn, 0, [], []⟩] } := by
  have gd : ∀ c, c < M.ths.length → (M.ths ++ [(⟨1, fn, 0, [], []⟩ : MTh)]).getD c mt0 = M.ths.getD c mt0 := fun c hc => by
    rw [List.getD_eq_getElem?_getD, List.getElem?_append_left hc, ← List.getD_eq_getElem?_getD]
  have hth : ({ M with ths := M.ths ++ [⟨1, fn, 0, [], []⟩] } : MD).th = M.th := gd _ h.cl
  refine ⟨h.tn, by show M.cur < (M.ths ++ [_]).length; rw [List.length_append]; have := h.cl; omega, by rw [hth]; exact h.st, h.nd, h.la, fun c hc => ?_, by rw [hth]; exact h.cu, fun j U hj hU => ?_⟩
  · obtain ⟨w1, w2⟩ := h.wt c hc
    exact ⟨by show ((M.ths ++ [_]).getD c mt0).st = 3; rw [gd c w2]; exact w1, by show c < (M.ths ++ [_]).length; rw [List.length_append]; omega⟩
  · have hU : (M.ths ++ [(⟨1, fn, 0, [], []⟩ : MTh)])[j]? = some U := hU
    by_cases hl : j < M.ths.length
    · rw [List.getElem?_append_left hl] at hU
      exact h.ot j U hj hU
    · rw [List.getElem?_append_right (by omega)] at hU
      have h0 : j - M.ths.length = 0 := by
        have := (List.getElem?_eq_some_iff.1 hU).1
        simp at this
        omega
      rw [h0] at hU
      have hU : (⟨1, fn, 0, [], []⟩ : MTh) = U := Option.some.inj hU
      subst hU
      trivial
/-- another thread is resumed -/
theorem MI.res (h : MI M) {T1 : MTh} (hs : HK M.tabs T1.vals T1.tasks (T1.vals.length + 2) T1.vals.length) (h5 : T1.st = 4) {j : Nat} (hj : ((M.st T1).ths.getD j mt0).st = 1 ∨ ((M.st T1).ths.getD j mt0).st = 2) :
    ∃ c, (M.st T1).ths.getD j mt0 = c ∧ HK M.tabs c.vals c.tasks (c.vals.length + 2) c.vals.length ∧ (({ ((M.st T1).upT fun t => { t with st := 3 }) with stack := (M.st T1).cur :: (M.st T1).stack, cur := j } : MD).upT fun t => { t with st := 4 }) = ({ M.st { T1 with st := 3 } with stack := M.cur :: M.stack, cur := j } : MD).st { c with st := 4 } ∧
      MI (({ M.st { T1 with st := 3 } with stack := M.cur :: M.stack, cur := j } : MD).st { c with st := 4, tasks := [] }) := by
  have hlt : j < M.ths.length := by
    refine Nat.lt_of_not_le fun z => ?_
    have : (M.st T1).ths.getD j mt0 = mt0 := by
      rw [List.getD_eq_getElem?_getD, List.getElem?_eq_none (by show (M.ths.set _ _).length ≤ j; rw [List.length_set]; exact z)]
      rfl
    rw [this] at hj
    simp [mt0] at hj
  have hne : M.cur ≠ j := fun e => by
    have : (M.st T1).ths.getD j mt0 = T1 := by
      show (M.ths.set M.cur T1).getD j mt0 = _
      rw [← e]
      exact gset h.cl
    rw [this, h5] at hj
    omega
  have hget : (M.st T1).ths.getD j mt0 = M.ths.getD j mt0 := by
    show (M.ths.set M.cur T1).getD j mt0 = _
    rw [List.getD_eq_getElem?_getD, List.getElem?_set_ne hne, ← List.getD_eq_getElem?_getD]
  rw [hget] at hj ⊢
  have hc : M.ths[j]? = some (M.ths.getD j mt0) := by
    rw [List.getD_eq_getElem?_getD, List.getElem?_eq_getElem hlt]
    rfl
  generalize M.ths.getD j mt0 = c at hj hc
  have hns : j ∉ M.stack := fun z => by
    have := (h.wt j z).1
    rw [List.getD_eq_getElem?_getD, hc] at this
    have this : c.st = 3 := this
    omega
  refine ⟨c, rfl, h.ot j c (fun e => hne e.symm) hc, ?_, ?_⟩
  · rw [st_up h.cl]
    have hcl : j < ({ M.st { T1 with st := 3 } with stack := M.cur :: M.stack, cur := j } : MD).ths.length := by
      show j < (M.ths.set _ _).length
      rw [List.length_set]
      exact hlt
    have hcc : ({ M.st { T1 with st := 3 } with stack := M.cur :: M.stack, cur := j } : MD).ths[({ M.st { T1 with st := 3 } with stack := M.cur :: M.stack, cur := j } : MD).cur]? = some c := by
      show (M.ths.set M.cur _)[j]? = _
      rw [List.getElem?_set_ne hne]
      exact hc
    have z := st_up (M := { M.st { T1 with st := 3 } with stack := M.cur :: M.stack, cur := j }) (T := c) hcl (fun t => { t with st := 4 })
    rw [st_self hcc] at z
    exact z
  · have hjl : j < (M.ths.set M.cur { T1 with st := 3 }).length := by rw [List.length_set]; exact hlt
    have hthE : (({ M.st { T1 with st := 3 } with stack := M.cur :: M.stack, cur := j } : MD).st { c with st := 4, tasks := [] }).th = { c with st := 4, tasks := [] } := st_th (M := { M.st { T1 with st := 3 } with stack := M.cur :: M.stack, cur := j }) hjl
    refine ⟨h.tn, by show j < ((M.ths.set M.cur _).set j _).length; rw [List.length_set]; exact hjl, by rw [hthE], ?_, by have la := h.la; show (j :: M.cur :: M.stack).getLast? = some 0; simpa using la, fun d hd => ?_, by rw [hthE]; trivial, fun q V hq hV => ?_⟩
    · show (j :: M.cur :: M.stack).Nodup
      refine List.nodup_cons.2 ⟨fun z => ?_, h.nd⟩
      rcases List.mem_cons.1 z with z | z
      · exact hne z.symm
      · exact hns z
    · have hd : d ∈ M.cur :: M.stack := hd
      show (((M.ths.set M.cur _).set j _).getD d mt0).st = 3 ∧ d < ((M.ths.set M.cur _).set j _).length
      have hdj : j ≠ d := fun e => by
        rcases List.mem_cons.1 hd with z | z
        · exact hne (by rw [e, z])
        · exact hns (e ▸ z)
      rw [List.getD_eq_getElem?_getD, List.getElem?_set_ne hdj, List.length_set, List.length_set]
      rcases List.mem_cons.1 hd with z | z
      · rw [z, List.getElem?_set_self h.cl]
        exact ⟨rfl, h.cl⟩
      · have hdc : M.cur ≠ d := fun e => (List.nodup_cons.1 h.nd).1 (e ▸ z)
        rw [List.getElem?_set_ne hdc, ← List.getD_eq_getElem?_getD]
        exact h.wt d z
    · have hq : q ≠ j := hq
      have hV : ((M.ths.set M.cur { T1 with st := 3 }).set j _)[q]? = some V := hV
      rw [List.getElem?_set_ne (fun e => hq e.symm)] at hV
      by_cases e : q = M.cur
      · subst e
        rw [List.getElem?_set_self h.cl] at hV
        cases hV
        exact hs
      · rw [List.getElem?_set_ne (fun z => e z.symm)] at hV
        exact h.ot q V e hV
end
end Go.Proofs.Qxb6500574aGreatDoor
