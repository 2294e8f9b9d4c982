/-
  moon: THE INTERPRETER's OWN STATE: how many tasks there are: expressions, calls, a step. Plain; no memory, no walk.
-/
import Derived.Test.Qxb6500574aGreatDoorZV4
namespace Go.Proofs.Qxb6500574aGreatDoor
set_option linter.unusedVariables false
set_option linter.unusedSimpArgs false
section
variable {N : List Nd} {root : Nat} {M m m' : MD} {T : MTh} {k : TkD} {r l q : List TkD} {L L' n x y t : Nat} {e : Option Nat}
theorem RM.items (R : RM N m L) (hc : CBz N n t) (hL : 8 * t + 9 ≤ L) (K : NK N) (hn : n < N.length) (hx : x ≤ n ∨ n = 0) (e : Option Nat) : MV N (m.items n x e) := by
  unfold MD.items
  split
  · exact R.v
  · rename_i n0
    obtain ⟨o1, o2⟩ := hc.open n0
    refine R.todo (fe ?_ (f23 o2 (by simpa using hL) trivial)) (txe hn (tx1 ⟨(show 1 ≤ 23 ∧ 23 ≤ 28 by decide), fun _ => hn, (fun z => by cases z), fun _ => hx.resolve_right n0⟩ tx0))
    simp [-List.getD_eq_getElem?_getD]
    omega
/-- an expression -/
theorem RM.eval (R : RM N m L) (hL : 8 * n + 8 ≤ L) (E : ExZ N n) (K : NK N) (e : Option Nat) (ht : (m.eval N n x e).th.tasks ≠ []) : MV N (m.eval N n x e) := by
  have pu : ∀ v, MV N (m.push [v]) := fun v => (R.push [v]).v
  unfold MD.eval at ht ⊢
  dsimp only at ht ⊢
  by_cases n0 : n = 0
  · rw [if_pos n0]; exact pu _
  rw [if_neg n0] at ht ⊢
  have ES := E.resolve_left n0
  have P := ES.tp
  have hn := P.lt
  obtain ⟨ka, kb, kc, kx⟩ := K.all n hn
  by_cases d12 : (N.getD n nd0).k = 12
  · rw [if_pos d12]; exact pu _
  rw [if_neg d12] at ht ⊢
  by_cases d13 : (N.getD n nd0).k = 13
  · rw [if_pos d13]; exact pu _
  rw [if_neg d13] at ht ⊢
  by_cases d14 : (N.getD n nd0).k = 14
  · rw [if_pos d14]; exact pu _
  rw [if_neg d14] at ht ⊢
  by_cases d15 : (N.getD n nd0).k = 15
  · rw [if_pos d15]; exact pu _
  rw [if_neg d15] at ht ⊢
  by_cases d16 : (N.getD n nd0).k = 16
  · rw [if_pos d16]; exact pu _
  rw [if_neg d16] at ht ⊢
  by_cases d17 : (N.getD n nd0).k = 17
  · rw [if_pos d17]
    split <;> exact pu _
  rw [if_neg d17] at ht ⊢
  by_cases d18 : (N.getD n nd0).k = 18
  · rw [if_pos d18]
    exact R.todo (fe (by simp [-List.getD_eq_getElem?_getD]; omega) (fe (by simp [-List.getD_eq_getElem?_getD]; omega) (fno (by decide) (by simp [-List.getD_eq_getElem?_getD]; omega) trivial))) (txe (by omega) (txe (by omega) (txn (by decide) (by omega) tx0)))
  rw [if_neg d18] at ht ⊢
  by_cases d19 : (N.getD n nd0).k = 19
  · rw [if_pos d19]
    unfold MD.call
    dsimp only
    rw [todo2Z R.c]
    obtain ⟨w1, w2⟩ := fcall (e := e) K hn n0 (P.k19 d19) (q := [⟨5, 0, 0, none⟩]) (L := L) (by simp [-List.getD_eq_getElem?_getD]; omega) (fno (by decide) (by simp [-List.getD_eq_getElem?_getD]; omega) trivial) (txn (by decide) (by omega) tx0)
    exact R.todo w1 w2
  rw [if_neg d19] at ht ⊢
  by_cases d20 : (N.getD n nd0).k = 20
  · rw [if_pos d20]
    split
    · exact R.v.to rfl
    · exact (pu _).to rfl
  rw [if_neg d20] at ht ⊢
  by_cases d21 : (N.getD n nd0).k = 21
  · rw [if_pos d21]
    split
    · exact R.v.to rfl
    · have R2 : RM N ({ m.push [⟨4, m.tabs.length, []⟩] with tabs := m.tabs ++ [tab0] } : MD) L := (R.push [⟨4, m.tabs.length, []⟩]).to rfl rfl
      exact R2.items (P.k21 d21) (by omega) K (by omega) (by omega) e
  rw [if_neg d21] at ht ⊢
  by_cases d22 : (N.getD n nd0).k = 22
  · rw [if_pos d22]
    exact R.todo (fe (by simp [-List.getD_eq_getElem?_getD]; omega) (fe (by simp [-List.getD_eq_getElem?_getD]; omega) (fno (by decide) (by simp [-List.getD_eq_getElem?_getD]; omega) trivial))) (txe (by omega) (txe (by omega) (txn (by decide) (by omega) tx0)))
  rw [if_neg d22] at ht ⊢
  by_cases d23 : (N.getD n nd0).k = 23
  · rw [if_pos d23]
    exact R.todo (fe (by simp [-List.getD_eq_getElem?_getD]; omega) (fno (by decide) (by simp [-List.getD_eq_getElem?_getD]; omega) trivial)) (txe (by omega) (txn (by decide) (by omega) tx0))
  rw [if_neg d23] at ht ⊢
  by_cases d24 : (N.getD n nd0).k = 24
  · rw [if_pos d24]
    exact R.todo (fe (by simp [-List.getD_eq_getElem?_getD]; omega) (f26 (by simp) (by simp [-List.getD_eq_getElem?_getD]; omega) trivial)) (txe (by omega) (txn (by decide) (by omega) tx0))
  rw [if_neg d24] at ht ⊢
  by_cases d25 : (N.getD n nd0).k = 25
  · rw [if_pos d25]
    exact R.todo (fe (by simp [-List.getD_eq_getElem?_getD]; omega) (f26 (by simp) (by simp [-List.getD_eq_getElem?_getD]; omega) trivial)) (txe (by omega) (txn (by decide) (by omega) tx0))
  rw [if_neg d25] at ht ⊢
  exact R.v
theorem MV.setT (h : MV N m) (t k v : Vl) (ht : (m.setT t k v).th.tasks ≠ []) : MV N (m.setT t k v) := by
  unfold MD.setT at ht ⊢
  dsimp only at ht ⊢
  split at ht
  · rename_i z
    rw [if_pos z]
    exact h.throw _ ht
  · rename_i z
    rw [if_neg z]
    split at ht
    · rename_i w
      rw [if_pos w]
      exact h.to rfl
    · rename_i w
      rw [if_neg w]
      split at ht
      · rename_i y
        rw [if_pos y]
        exact h.throw _ ht
      · rename_i y
        rw [if_neg y]
        exact h.to rfl
theorem RM.bin (R : RM N m L) (op : Nat) (a b : Vl) (ht : (m.bin op a b).th.tasks ≠ []) : MV N (m.bin op a b) := by
  have pu : ∀ v, MV N (m.push [v]) := fun v => (R.push [v]).v
  have th : ∀ s : Bs, (m.raise s).th.tasks ≠ [] → MV N (m.raise s) := fun s z => R.v.throw _ z
  have key : ∀ X : MD, X = m.bin op a b → X.th.tasks ≠ [] → MV N X := fun X e hX => by
    unfold MD.bin at e
    repeat' split at e
    all_goals (subst e; first | exact pu _ | exact th _ hX)
  exact key _ rfl ht
theorem RM.un (R : RM N m L) (op : Nat) (a : Vl) (ht : (m.un op a).th.tasks ≠ []) : MV N (m.un op a) := by
  have pu : ∀ v, MV N (m.push [v]) := fun v => (R.push [v]).v
  have th : ∀ s : Bs, (m.raise s).th.tasks ≠ [] → MV N (m.raise s) := fun s z => R.v.throw _ z
  have key : ∀ X : MD, X = m.un op a → X.th.tasks ≠ [] → MV N X := fun X e hX => by
    unfold MD.un at e
    repeat' split at e
    all_goals (subst e; first | exact pu _ | exact th _ hX | exact R.v)
  exact key _ rfl ht
/-- a call -/
theorem RM.apl (R : RM N m L) (B : BdZ N root m) (U : MU m) {fn : Vl} {args : List Vl} (hf : VM m fn) (ha : ∀ v ∈ args, VM m v) (ht : (aplC N root m fn args).th.tasks ≠ []) : MV N (aplC N root m fn args) := by
  have pu : ∀ a b, MV N (m.push [a, b]) := fun a b => (R.push [a, b]).v
  have th : ∀ s : Bs, (m.raise s).th.tasks ≠ [] → MV N (m.raise s) := fun s z => R.v.throw _ z
  have s1 : m.th.st ≠ 1 := fun z => R.t (R.v.me.s z).1
  have a0 : VM m (args.getD 0 nilV) := vk_getD ha 0
  unfold aplC at ht ⊢
  dsimp only at ht ⊢
  generalize args.getD 0 nilV = a at a0 ht ⊢
  generalize args.getD 1 nilV = b at ht ⊢
  by_cases f5 : fn.t = 5
  · rw [if_pos f5] at ht ⊢
    split at ht
    · rename_i z
      rw [if_pos z]
      exact th _ ht
    · rename_i z
      rw [if_neg z]
      exact R.v.enter B _ _ _ (by omega) (fun w => absurd w R.t) s1
  rw [if_neg f5] at ht ⊢
  by_cases f6 : fn.t ≠ 6
  · rw [if_pos f6] at ht ⊢; exact th _ ht
  rw [if_neg f6] at ht ⊢
  by_cases n1 : fn.n = 1
  · rw [if_pos n1]
    split
    · exact R.v.to rfl
    · exact (pu nilV nilV).to rfl
  rw [if_neg n1] at ht ⊢
  by_cases n2 : fn.n = 2
  · rw [if_pos n2]; exact pu _ _
  rw [if_neg n2] at ht ⊢
  by_cases n3 : fn.n = 3
  · rw [if_pos n3]; exact pu _ _
  rw [if_neg n3] at ht ⊢
  by_cases n4 : fn.n = 4
  · rw [if_pos n4]; exact pu _ _
  rw [if_neg n4] at ht ⊢
  by_cases n5 : fn.n = 5
  · rw [if_pos n5] at ht ⊢; exact R.v.throw _ ht
  rw [if_neg n5] at ht ⊢
  by_cases n6 : fn.n = 6
  · rw [if_pos n6]
    split
    · exact pu _ _
    · split
      · exact pu _ _
      · exact R.v.enter B _ _ _ (by omega) (fun w => absurd w R.t) s1
  rw [if_neg n6] at ht ⊢
  by_cases n7 : fn.n = 7
  · rw [if_pos n7] at ht ⊢
    split at ht
    · rename_i z
      rw [if_pos z]
      exact th _ ht
    · rename_i z
      rw [if_neg z]
      cases hq : (m.tabs.getD a.n tab0).next b with
      | none => rw [hq] at ht; exact th _ ht
      | some r => exact pu _ _
  rw [if_neg n7] at ht ⊢
  by_cases n8 : fn.n = 8
  · rw [if_pos n8] at ht ⊢
    split at ht
    · rename_i z
      rw [if_pos z]
      exact th _ ht
    · rename_i z
      rw [if_neg z]
      split at ht
      · rename_i w
        rw [if_pos w]
        exact R.v.to rfl
      · rename_i w
        rw [if_neg w]
        have h1 : MV N ({ m with ths := m.ths ++ [⟨1, a.n, 0, [], []⟩] } : MD) := fun T hT => by
          have hT : T ∈ m.ths ++ [(⟨1, a.n, 0, [], []⟩ : MTh)] := hT
          rcases List.mem_append.1 hT with y | y
          · exact R.v T y
          · have : T = ⟨1, a.n, 0, [], []⟩ := by simpa using y
            rw [this]
            exact TV.nil _ _
        exact h1.push _ ht
  rw [if_neg n8] at ht ⊢
  by_cases n9 : fn.n = 9
  · rw [if_pos n9] at ht ⊢
    split at ht
    · rename_i z
      rw [if_pos z]
      exact th _ ht
    · rename_i z
      rw [if_neg z]
      split at ht
      · rename_i w
        rw [if_pos w]
        exact pu _ _
      · rename_i w
        rw [if_neg w]
        have hj : a.n < m.ths.length := a0.c (by simpa using z)
        have h1 : MV N (m.upT fun t => { t with st := 3 }) := R.v.up (f := fun t => { t with st := 3 }) (R.v.me.st (by decide))
        have h2 : MV N ({ (m.upT fun t => { t with st := 3 }) with stack := m.cur :: m.stack, cur := a.n } : MD) := h1.to rfl
        have h3 := h2.up (f := fun t => { t with st := 4 }) (h2.me.st (by decide))
        split at ht
        · rename_i y
          rw [if_pos y]
          have hne : m.cur ≠ a.n := fun e => s1 (by unfold MD.th; rw [e]; exact y)
          have hc2 : ({ (m.upT fun t => { t with st := 3 }) with stack := m.cur :: m.stack, cur := a.n } : MD).cur < ({ (m.upT fun t => { t with st := 3 }) with stack := m.cur :: m.stack, cur := a.n } : MD).ths.length := by
            show a.n < (m.ths.set _ _).length
            rw [List.length_set]
            exact hj
          have et : ({ (m.upT fun t => { t with st := 3 }) with stack := m.cur :: m.stack, cur := a.n } : MD).th = m.ths.getD a.n mt0 := by
            show (m.ths.set m.cur _).getD a.n mt0 = _
            rw [List.getD_eq_getElem?_getD, List.getElem?_set_ne hne, List.getD_eq_getElem?_getD]
          have e4 := up_th hc2 (fun t => { t with st := 4 })
          have tv : TV N (m.ths.getD a.n mt0) := by
            rw [List.getD_eq_getElem?_getD, List.getElem?_eq_getElem hj]
            exact R.v _ (List.getElem_mem hj)
          obtain ⟨t1, t2⟩ := tv.s y
          have h4 : MV N ({ (({ (m.upT fun t => { t with st := 3 }) with stack := m.cur :: m.stack, cur := a.n } : MD).upT fun t => { t with st := 4 }) with first := m.first + 1 } : MD) := h3.to rfl
          have e5 : ({ (({ (m.upT fun t => { t with st := 3 }) with stack := m.cur :: m.stack, cur := a.n } : MD).upT fun t => { t with st := 4 }) with first := m.first + 1 } : MD).th = { m.ths.getD a.n mt0 with st := 4 } := by
            rw [← et]
            exact e4
          refine h4.enter ⟨B.r, B.c⟩ _ _ _ ?_ (fun _ => rfl) ?_
          · rw [e5]
            show (m.ths.getD a.n mt0).depth < 8
            omega
          · rw [e5]
            show (4 : Nat) ≠ 1
            decide
        · rename_i y
          rw [if_neg y]
          exact h3.push _ ht
  rw [if_neg n9] at ht ⊢
  by_cases n10 : fn.n = 10
  · rw [if_pos n10] at ht ⊢
    split at ht
    · rename_i z
      rw [if_pos z]
      exact th _ ht
    · rename_i z
      rw [if_neg z]
      cases hq : m.stack with
      | nil => exact R.v
      | cons c r =>
        rw [hq] at ht
        dsimp only at ht ⊢
        have h1 : MV N (m.upT fun t => { t with st := 2 }) := R.v.up (f := fun t => { t with st := 2 }) (R.v.me.st (by decide))
        have h2 : MV N ({ (m.upT fun t => { t with st := 2 }) with stack := r, cur := c } : MD) := h1.to rfl
        exact (h2.up (f := fun t => { t with st := 4 }) (h2.me.st (by decide))).push _ ht
  rw [if_neg n10] at ht ⊢
  by_cases n11 : fn.n = 11
  · rw [if_pos n11] at ht ⊢
    split at ht
    · rename_i z
      rw [if_pos z]
      exact th _ ht
    · rename_i z
      rw [if_neg z]
      exact pu _ _
  rw [if_neg n11]
  exact pu _ _
end
end Go.Proofs.Qxb6500574aGreatDoor
