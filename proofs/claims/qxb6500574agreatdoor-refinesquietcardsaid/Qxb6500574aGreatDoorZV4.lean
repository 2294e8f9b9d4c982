/-
  moon: THE INTERPRETER's OWN STATE: how many tasks there are: expressions, statements, calls, a step. Plain; no memory, no walk.
-/
import Derived.Test.Qxb6500574aGreatDoorZV3
namespace Go.Proofs.Qxb6500574aGreatDoor
set_option linter.unusedVariables false
set_option linter.unusedSimpArgs false
section
variable {N : List Nd} {root : Nat} {M m m' : MD} {T : MTh} {k : TkD} {r l q : List TkD} {L L' n x y t : Nat} {e : Option Nat}
theorem CBz.open (h : CBz N n t) (hn : n ≠ 0) : n ≤ t ∧ CBz N (N.getD n nd0).next t := by
  obtain ⟨l, hc, hl⟩ := h
  cases l with
  | nil => exact absurd hc hn
  | cons z l =>
    obtain ⟨rfl, c2, c3⟩ := hc
    exact ⟨hl n (by simp), l, c3, fun w hw => hl w (by simp [hw])⟩
theorem CBz.le (h : CBz N n t) : n ≤ t := by
  by_cases z : n = 0
  · omega
  · exact (h.open z).1
theorem fz (h3 : k.k ≠ 3) (hl : Lk N k L') (le : L' + q.length ≤ L) (g : FitsZ N q L) : FitsZ N (k :: q) L := ⟨⟨h3, L', hl, le⟩, g⟩
theorem fe (h : 8 * n + 8 + q.length ≤ L) (g : FitsZ N q L) : FitsZ N (⟨2, n, x, e⟩ :: q) L := fz (show (2 : Nat) ≠ 3 by decide) (Lk.e (Nat.le_refl _)) h g
theorem fb (c : CBz N n t) (h : 8 * t + 8 + q.length ≤ L) (g : FitsZ N q L) : FitsZ N (⟨1, n, x, e⟩ :: q) L := fz (show (1 : Nat) ≠ 3 by decide) (Lk.b c (Nat.le_refl _)) h g
theorem fno {p : Nat} (hp : p ≠ 3 ∧ p ≠ 1 ∧ p ≠ 2 ∧ p ≠ 6 ∧ p ≠ 7 ∧ p ≠ 8 ∧ p ≠ 11 ∧ p ≠ 12 ∧ p ≠ 13 ∧ p ≠ 14 ∧ p ≠ 15 ∧ p ≠ 16 ∧ p ≠ 17 ∧ p ≠ 18 ∧ p ≠ 19 ∧ p ≠ 20 ∧ p ≠ 23 ∧ p ≠ 26 ∧ p ≠ 27) (h : 1 + q.length ≤ L) (g : FitsZ N q L) : FitsZ N (⟨p, n, x, e⟩ :: q) L := fz hp.1 (Lk.no (Nat.le_refl _) hp.2) h g
theorem f6 {p : Nat} (hp : p = 6 ∨ p = 7 ∨ p = 8) (c : CBz N (N.getD n nd0).next t) (h : 8 * t + 8 + q.length ≤ L) (g : FitsZ N q L) : FitsZ N (⟨p, n, x, e⟩ :: q) L := by
  refine fz (L' := 8 * t + 8) (by show p ≠ 3; omega) ?_ h g
  constructor <;> first | (intro _; exact ⟨t, c, Nat.le_refl _⟩) | (intro z; exfalso; have z := z; simp only at z; omega) | omega
theorem f11 (c1 : CBz N (N.getD n nd0).b t) (c2 : CBz N (N.getD n nd0).c t) (h : 8 * t + 8 + q.length ≤ L) (g : FitsZ N q L) : FitsZ N (⟨11, n, x, e⟩ :: q) L := by
  refine fz (L' := 8 * t + 8) (by show 11 ≠ 3; omega) ?_ h g
  constructor <;> first | (intro _; exact ⟨t, c1, c2, Nat.le_refl _⟩) | (intro z; exfalso; have z := z; simp only at z; omega) | omega
theorem f12 {p : Nat} (hp : p = 12 ∨ p = 13 ∨ p = 14) (c1 : (N.getD n nd0).a ≤ t) (c2 : CBz N (N.getD n nd0).b t) (h : 8 * t + 9 + q.length ≤ L) (g : FitsZ N q L) : FitsZ N (⟨p, n, x, e⟩ :: q) L := by
  refine fz (L' := 8 * t + 9) (by show p ≠ 3; omega) ?_ h g
  constructor <;> first | (intro _; exact ⟨t, c1, c2, Nat.le_refl _⟩) | (intro z; exfalso; have z := z; simp only at z; omega) | omega
theorem f15 {p : Nat} (hp : p = 15 ∨ p = 16 ∨ p = 17) (c2 : CBz N (N.getD n nd0).b t) (h : 8 * t + 9 + q.length ≤ L) (g : FitsZ N q L) : FitsZ N (⟨p, n, x, e⟩ :: q) L := by
  refine fz (L' := 8 * t + 9) (by show p ≠ 3; omega) ?_ h g
  constructor <;> first | (intro _; exact ⟨t, c2, Nat.le_refl _⟩) | (intro z; exfalso; have z := z; simp only at z; omega) | omega
theorem f18 {p : Nat} (hp : p = 18 ∨ p = 19 ∨ p = 20) (c2 : CBz N (N.getD n nd0).c t) (h : 8 * t + 9 + q.length ≤ L) (g : FitsZ N q L) : FitsZ N (⟨p, n, x, e⟩ :: q) L := by
  refine fz (L' := 8 * t + 9) (by show p ≠ 3; omega) ?_ h g
  constructor <;> first | (intro _; exact ⟨t, c2, Nat.le_refl _⟩) | (intro z; exfalso; have z := z; simp only at z; omega) | omega
theorem f23 (c2 : CBz N (N.getD n nd0).next t) (h : 8 * t + 9 + q.length ≤ L) (g : FitsZ N q L) : FitsZ N (⟨23, n, x, e⟩ :: q) L := by
  refine fz (L' := 8 * t + 9) (by show 23 ≠ 3; omega) ?_ h g
  constructor <;> first | (intro _; exact ⟨t, c2, Nat.le_refl _⟩) | (intro z; exfalso; have z := z; simp only at z; omega) | omega
theorem f26 {p : Nat} (hp : p = 26 ∨ p = 27) (h : 8 * (N.getD n nd0).b + 8 + q.length ≤ L) (g : FitsZ N q L) : FitsZ N (⟨p, n, x, e⟩ :: q) L := by
  refine fz (L' := 8 * (N.getD n nd0).b + 8) (by show p ≠ 3; omega) ?_ h g
  constructor <;> first | (intro _; exact Nat.le_refl _) | (intro z; exfalso; have z := z; simp only at z; omega) | omega
theorem fargs {a : List Nat} (ha : ∀ y ∈ a, y ≤ t) (h : 8 * t + 8 + a.length + q.length ≤ L) (g : FitsZ N q L) : FitsZ N (a.map (fun x => (⟨2, x, 0, e⟩ : TkD)) ++ q) L := by
  induction a with
  | nil => exact g
  | cons y a ih =>
    simp only [List.length_cons] at h
    have := ha y (by simp)
    refine fe ?_ (ih (fun z hz => ha z (by simp [hz])) (by omega))
    show 8 * y + 8 + (a.map (fun x => (⟨2, x, 0, e⟩ : TkD)) ++ q).length ≤ L
    rw [List.length_append, List.length_map]
    omega
theorem tx0 : ∀ k ∈ ([] : List TkD), TkX N k := fun k hk => by cases hk
theorem tx1 (h : TkX N k) (g : ∀ k ∈ q, TkX N k) : ∀ z ∈ k :: q, TkX N z := fun z hz => by
  rcases List.mem_cons.1 hz with e | e
  · rw [e]; exact h
  · exact g z e
theorem txe (h : n < N.length) (g : ∀ k ∈ q, TkX N k) : ∀ z ∈ (⟨2, n, x, e⟩ : TkD) :: q, TkX N z := tx1 (TkX.no (by decide) (by decide) h) g
theorem txn {p : Nat} (hp : (1 ≤ p ∧ p ≤ 28) ∧ p ≠ 22 ∧ p ≠ 23) (h : n < N.length) (g : ∀ k ∈ q, TkX N k) : ∀ z ∈ (⟨p, n, x, e⟩ : TkD) :: q, TkX N z := tx1 (TkX.no hp.1 hp.2 h) g
theorem argsL_in (K : NK N) : ∀ (j a : Nat), a < N.length → ∀ y ∈ argsL N j a, y < N.length
  | 0, a, _, y, hy => by cases hy
  | j + 1, a, ha, y, hy => by
    unfold argsL at hy
    split at hy
    · cases hy
    · rcases List.mem_cons.1 hy with z | z
      · omega
      · refine argsL_in K j _ ?_ y z
        rcases (K.all a ha).2.2.2 with w | w
        · have := K.n1; omega
        · exact w.2
theorem argsL_le {a : Nat} (h : CBz N a t) : ∀ j, ∀ y ∈ argsL N j a, y ≤ t := fun j => by
  induction j generalizing a with
  | zero => intro y hy; cases hy
  | succ j ih =>
    intro y hy
    unfold argsL at hy
    split at hy
    · cases hy
    · rename_i z
      obtain ⟨h1, h2⟩ := h.open z
      rcases List.mem_cons.1 hy with w | w
      · omega
      · exact ih h2 y w
theorem argsL_le3 : ∀ (j a : Nat), (argsL N j a).length ≤ j
  | 0, a => Nat.le_refl _
  | j + 1, a => by
    unfold argsL
    split
    · exact Nat.zero_le _
    · have := argsL_le3 j (N.getD a nd0).next
      simp only [List.length_cons]
      omega
/-- a call's tasks -/
theorem fcall (K : NK N) (hn : n < N.length) (n0 : n ≠ 0) (hb : CBz N (N.getD n nd0).b (n - 1)) (h : 8 * n + 5 + q.length ≤ L) (g : FitsZ N q L) (gx : ∀ k ∈ q, TkX N k) :
    FitsZ N ((⟨2, (N.getD n nd0).a, 0, e⟩ :: (argsL N 3 (N.getD n nd0).b).map (fun x => (⟨2, x, 0, e⟩ : TkD)) ++ [⟨22, n, (argsL N 3 (N.getD n nd0).b).length, e⟩]) ++ q) L ∧
    ∀ k ∈ (⟨2, (N.getD n nd0).a, 0, e⟩ :: (argsL N 3 (N.getD n nd0).b).map (fun x => (⟨2, x, 0, e⟩ : TkD)) ++ [⟨22, n, (argsL N 3 (N.getD n nd0).b).length, e⟩]) ++ q, TkX N k := by
  obtain ⟨ka, kb, _, _⟩ := K.all n hn
  have l3 := argsL_le3 (N := N) 3 (N.getD n nd0).b
  have li := argsL_in K 3 (N.getD n nd0).b (by omega)
  have le := argsL_le hb 3
  generalize argsL N 3 (N.getD n nd0).b = a at l3 li le ⊢
  rw [List.cons_append, List.cons_append, List.append_assoc, List.singleton_append]
  constructor
  · refine fe ?_ (fargs (t := n - 1) le ?_ (fno (by decide) ?_ g))
    · simp only [List.length_append, List.length_map, List.length_cons]; omega
    · simp only [List.length_cons]; omega
    · omega
  · refine txe (by omega) fun k hk => ?_
    rcases List.mem_append.1 hk with z | z
    · obtain ⟨y, hy, rfl⟩ := List.mem_map.1 z
      exact TkX.no (by decide) (by decide) (li y hy)
    · rcases List.mem_cons.1 z with w | w
      · rw [w]
        exact ⟨(show 1 ≤ 22 ∧ 22 ≤ 28 by decide), fun _ => hn, fun _ => l3, (fun z => by cases z)⟩
      · exact gx k w
/-- a statement -/
theorem RM.stmt (R : RM N m L) (hc : CBz N n t) (hL : 8 * t + 8 ≤ L) {lp : Bool} (S : StS N n lp) (K : NK N) (h0 : N.getD 0 nd0 = nd0) (e : Option Nat) (ht : (m.stmt N n e).th.tasks ≠ []) : MV N (m.stmt N n e) := by
  have P := S.tp
  have hn := P.lt
  have n0 := P.n0
  obtain ⟨o1, o2⟩ := hc.open n0
  obtain ⟨ka, kb, kc, kx⟩ := K.all n hn
  have K1 := K.n1
  have hnx : (N.getD n nd0).next < N.length := by omega
  have kd : (N.getD n nd0).k = 2 → (N.getD (N.getD n nd0).b nd0).k = 19 ∧ ExSZ N (N.getD n nd0).b := fun z => by
    obtain ⟨_, E1, E2⟩ := S.out.k2 z
    exact ⟨E1, E2⟩
  unfold MD.stmt at ht ⊢
  dsimp only at ht ⊢
  by_cases d1 : (N.getD n nd0).k = 1
  · rw [if_pos d1]
    split
    · exact R.todo (fe (by simp [-List.getD_eq_getElem?_getD]; omega) (f6 (by simp) o2 (by simpa using hL) trivial)) (txe (by omega) (txn (by decide) hn tx0))
    · have h1 := R.todo (l := [⟨6, n, 0, e⟩]) (f6 (by simp) o2 (by simpa using hL) trivial) (txn (by decide) hn tx0)
      refine h1.push _ ?_
      rename_i z
      rw [if_pos d1, if_neg z] at ht
      exact ht
  rw [if_neg d1] at ht ⊢
  by_cases d2 : (N.getD n nd0).k = 2
  · rw [if_pos d2]
    unfold MD.call
    dsimp only
    rw [todo2Z R.c]
    obtain ⟨q1, q2⟩ := kd d2
    have q3 := q2.tp.k19 q1
    obtain ⟨w1, w2⟩ := fcall (e := e) K q2.tp.lt q2.tp.n0 q3 (q := [⟨7, n, 0, e⟩]) (L := L) (by simp [-List.getD_eq_getElem?_getD]; omega) (f6 (by simp) o2 (by simpa using hL) trivial) (txn (by decide) hn tx0)
    exact R.todo w1 w2
  rw [if_neg d2] at ht ⊢
  by_cases d3 : (N.getD n nd0).k = 3
  · rw [if_pos d3]
    have h1 := R.todo (l := [⟨2, (N.getD n nd0).a, 0, some m.envs.length⟩, ⟨8, n, 0, some m.envs.length⟩]) (fe (by simp [-List.getD_eq_getElem?_getD]; omega) (f6 (by simp) o2 (by simpa using hL) trivial)) (txe (by omega) (txn (by decide) hn tx0))
    exact h1.to rfl
  rw [if_neg d3] at ht ⊢
  have td : ∀ {l : List TkD}, FitsZ N (l ++ [⟨1, (N.getD n nd0).next, 0, e⟩]) L → (∀ k ∈ l ++ [⟨1, (N.getD n nd0).next, 0, e⟩], TkX N k) → MV N ((m.todo [⟨1, (N.getD n nd0).next, 0, e⟩]).todo l) := fun {l} hf hx => by
    rw [todo2Z R.c]
    exact R.todo hf hx
  have fb0 : FitsZ N [⟨1, (N.getD n nd0).next, 0, e⟩] L := fb o2 (by simpa using hL) trivial
  have tb0 : ∀ k ∈ [(⟨1, (N.getD n nd0).next, 0, e⟩ : TkD)], TkX N k := txn (by decide) hnx tx0
  have hm0 := R.todo fb0 tb0
  by_cases d4 : (N.getD n nd0).k = 4
  · rw [if_pos d4]
    obtain ⟨ga, gb, _, _⟩ := K.all (N.getD n nd0).a (by omega)
    split
    · exact td (fe (by simp [-List.getD_eq_getElem?_getD]; omega) (fno (by decide) (by simp [-List.getD_eq_getElem?_getD]; omega) fb0)) (txe (by omega) (txn (by decide) (by omega) tb0))
    · exact td (fe (by simp [-List.getD_eq_getElem?_getD]; omega) (fe (by simp [-List.getD_eq_getElem?_getD]; omega) (fe (by simp [-List.getD_eq_getElem?_getD]; omega) (fno (by decide) (by simp [-List.getD_eq_getElem?_getD]; omega) fb0)))) (txe (by omega) (txe (by omega) (txe (by omega) (txn (by decide) (by omega) tb0))))
  rw [if_neg d4] at ht ⊢
  by_cases d5 : (N.getD n nd0).k = 5
  · rw [if_pos d5]
    exact td (fe (by simp [-List.getD_eq_getElem?_getD]; omega) (fno (by decide) (by simp [-List.getD_eq_getElem?_getD]; omega) fb0)) (txe (by omega) (txn (by decide) (by omega) tb0))
  rw [if_neg d5] at ht ⊢
  by_cases d6 : (N.getD n nd0).k = 6
  · rw [if_pos d6]
    obtain ⟨c1, c2⟩ := P.k6 d6
    exact td (fe (by simp [-List.getD_eq_getElem?_getD]; omega) (f11 c1 c2 (by simp [-List.getD_eq_getElem?_getD]; omega) fb0)) (txe (by omega) (txn (by decide) hn tb0))
  rw [if_neg d6] at ht ⊢
  by_cases d7 : (N.getD n nd0).k = 7
  · rw [if_pos d7]
    exact td (f12 (t := n - 1) (by simp) (by omega) (P.k7 d7) (by simp [-List.getD_eq_getElem?_getD]; omega) (fno (by decide) (by simp [-List.getD_eq_getElem?_getD]; omega) fb0)) (txn (by decide) hn (txn (by decide) (by omega) tb0))
  rw [if_neg d7] at ht ⊢
  by_cases d8 : (N.getD n nd0).k = 8
  · rw [if_pos d8]
    obtain ⟨c1, c2⟩ := P.k8 d8
    have e2 : (N.getD (N.getD n nd0).a nd0).next ≤ n - 1 ∧ (N.getD (N.getD (N.getD n nd0).a nd0).next nd0).next ≤ n - 1 := by
      have nx0 : (N.getD 0 nd0).next = 0 := by rw [h0]; rfl
      by_cases z : (N.getD n nd0).a = 0
      · rw [z, nx0, nx0]; omega
      · obtain ⟨_, w⟩ := c1.open z
        refine ⟨w.le, ?_⟩
        by_cases z2 : (N.getD (N.getD n nd0).a nd0).next = 0
        · rw [z2, nx0]; omega
        · exact (w.open z2).2.le
    obtain ⟨x2, x3⟩ := e2
    refine td (l := [_, _, _, _, _]) (fe (by simp [-List.getD_eq_getElem?_getD]; omega) (fe (by simp [-List.getD_eq_getElem?_getD]; omega) ?_)) (txe (by omega) (txe (by omega) ?_))
    · have g := f15 (x := 0) (e := e) (p := 15) (L := L) (by simp) c2 (by simp [-List.getD_eq_getElem?_getD]; omega) (fno (n := 0) (x := (m.todo [⟨1, (N.getD n nd0).next, 0, e⟩]).th.vals.length) (e := none) (p := 4) (by decide) (by simp [-List.getD_eq_getElem?_getD]; omega) fb0)
      split
      · exact fe (by simp [-List.getD_eq_getElem?_getD]; omega) g
      · exact fe (by simp [-List.getD_eq_getElem?_getD]; omega) g
    · have g := txn (x := 0) (e := e) (p := 15) (N := N) (by decide) hn (txn (n := 0) (x := (m.todo [⟨1, (N.getD n nd0).next, 0, e⟩]).th.vals.length) (e := none) (p := 4) (by decide) (by omega) tb0)
      split
      · exact txe (by omega) g
      · exact txe (by omega) g
  rw [if_neg d8] at ht ⊢
  by_cases d9 : (N.getD n nd0).k = 9
  · rw [if_pos d9]
    exact td (fe (by simp [-List.getD_eq_getElem?_getD]; omega) (f18 (by simp) (P.k9 d9) (by simp [-List.getD_eq_getElem?_getD]; omega) (fno (by decide) (by simp [-List.getD_eq_getElem?_getD]; omega) fb0))) (txe (by omega) (txn (by decide) hn (txn (by decide) (by omega) tb0)))
  rw [if_neg d9] at ht ⊢
  by_cases d10 : (N.getD n nd0).k = 10
  · rw [if_pos d10]
    exact td (fe (by simp [-List.getD_eq_getElem?_getD]; omega) (fe (by simp [-List.getD_eq_getElem?_getD]; omega) (fno (by decide) (by simp [-List.getD_eq_getElem?_getD]; omega) fb0))) (txe (by omega) (txe (by omega) (txn (by decide) (by omega) tb0)))
  rw [if_neg d10] at ht ⊢
  by_cases d11 : (N.getD n nd0).k = 11
  · rw [if_pos d11] at ht ⊢
    have hc1 : (m.todo [⟨1, (N.getD n nd0).next, 0, e⟩]).cur < (m.todo [⟨1, (N.getD n nd0).next, 0, e⟩]).ths.length := by
      show m.cur < (m.ths.set _ _).length
      rw [List.length_set]
      exact R.c
    cases hq : brkT (m.todo [⟨1, (N.getD n nd0).next, 0, e⟩]).th.tasks with
    | none =>
      rw [hq] at ht
      exfalso
      dsimp only at ht
      rw [up_th hc1] at ht
      exact ht rfl
    | some y =>
      obtain ⟨x, r⟩ := y
      dsimp only
      obtain ⟨p, k, q1, q2⟩ := brk_suf hq
      have hme := hm0.me
      have hr : r ≠ [] := fun z => by
        rw [z] at q1
        have := hme.l k (by rw [q1]; exact last_app)
        omega
      have hd := hme.d
      rw [q1, ft_app] at hd
      exact hm0.up (f := fun t => { t with tasks := r, vals := t.vals.take x }) (hme.suf q1 hr ((m.todo [⟨1, (N.getD n nd0).next, 0, e⟩]).th.vals.take x) (by omega) hme.d8)
  rw [if_neg d11] at ht ⊢
  exact hm0
end
end Go.Proofs.Qxb6500574aGreatDoor
