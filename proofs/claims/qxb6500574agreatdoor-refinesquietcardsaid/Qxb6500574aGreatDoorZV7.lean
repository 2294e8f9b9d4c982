/-
  moon: THE INTERPRETER's OWN STATE: all that the walks ask, at every step of a run. Plain; no memory, no walk.
-/
import Derived.Test.Qxb6500574aGreatDoorZV6
namespace Go.Proofs.Qxb6500574aGreatDoor
set_option linter.unusedVariables false
set_option linter.unusedSimpArgs false
section
variable {N : List Nd} {root : Nat} {M m m' : MD} {T : MTh} {k : TkD}
theorem HK.bd {tb : List TabD} {vs : List Vl} : ∀ {ts : List TkD} {h w : Nat}, HK tb vs ts h w → (∀ k, ts.getLast? = some k → k.k = 3 ∧ k.n = 0 ∧ k.x = 0) → ts ≠ [] → (∀ k ∈ ts, k.k = 22 → k.x ≤ 3) → h ≤ 4 * ts.length
  | [], _, _, _, _, hn, _ => absurd rfl hn
  | k :: ts, h, w, g, hl, _, hx => by
    unfold HK at g
    have hl2 : ts ≠ [] → ∀ q, ts.getLast? = some q → q.k = 3 ∧ q.n = 0 ∧ q.x = 0 := fun hn q hq => hl q (by rw [← List.singleton_append, last_app2 hn]; exact hq)
    have hx2 : ∀ q ∈ ts, q.k = 22 → q.x ≤ 3 := fun q hq => hx q (by simp [hq])
    have h1 : ts = [] → k.k = 3 ∧ k.n = 0 ∧ k.x = 0 := fun z => hl k (by rw [z]; rfl)
    simp only [List.length_cons]
    by_cases z : ts = []
    · obtain ⟨a, _, b⟩ := h1 z
      rw [if_pos a] at g
      omega
    · by_cases k3 : k.k = 3
      · rw [if_pos k3] at g
        have := HK.bd g.2.2 (hl2 z) z hx2
        omega
      · rw [if_neg k3] at g
        by_cases k4 : k.k = 4
        · rw [if_pos k4] at g
          have := HK.bd g.2.2 (hl2 z) z hx2
          omega
        · rw [if_neg k4] at g
          have := HK.bd g.2.2 (hl2 z) z hx2
          have a4 : (ar k).1 ≤ 4 := by
            have x22 := hx k (by simp)
            unfold ar
            repeat' split
            all_goals first | (show (_ : Nat) ≤ 4; decide) | (dsimp only; omega)
          omega
/-- what the tree is -/
structure NZ (N : List Nd) : Prop where
  k : NK N
  z : N.getD 0 nd0 = nd0
  l : N.length ≤ 301
/-- all that holds at every step of a run -/
structure MA (N : List Nd) (root : Nat) (M : MD) : Prop where
  i : MI M
  w : MW N root M
  u : MU M
  v : MV N M
  t : M.th.tasks ≠ []
theorem TV.tl (h : TV N T) (Z : NZ N) : T.tasks.length ≤ 19344 := by
  by_cases z : T.tasks = []
  · rw [z]; exact Nat.zero_le _
  · have h1 := h.h.len z
    have h2 := h.d
    have h3 := h.d8
    have h4 : capC N * ft T.tasks ≤ 2418 * 8 := Nat.mul_le_mul (by unfold capC; have := Z.l; omega) (by omega)
    omega
theorem MA.tl (h : MA N root M) (Z : NZ N) : M.th.tasks.length ≤ 19344 := h.v.me.tl Z
theorem MA.vl (h : MA N root M) (Z : NZ N) : M.th.vals.length ≤ 77376 := by
  have h1 := h.tl Z
  have h2 := h.i.cu.bd h.v.me.l h.t (fun k hk => (h.v.me.k k hk).x2)
  omega
theorem MA.vo (h : MA N root M) (Z : NZ N) (c : Nat) : (M.ths.getD c mt0).vals.length ≤ 77376 := by
  by_cases e : c = M.cur
  · rw [e]
    exact h.vl Z
  · rw [List.getD_eq_getElem?_getD]
    cases hq : M.ths[c]? with
    | none => exact Nat.zero_le _
    | some T =>
      show T.vals.length ≤ 77376
      have tv := h.v T (List.mem_of_getElem? hq)
      by_cases z : T.tasks = []
      · rw [tv.z z]; exact Nat.zero_le _
      · have h1 := tv.tl Z
        have h2 := (h.i.ot c T e hq).bd tv.l z (fun k hk => (tv.k k hk).x2)
        omega
/-- a run that will end goes on -/
theorem stuck (h : M.th.tasks = []) : ∀ n, stepsM N root n M = M
  | 0 => rfl
  | n + 1 => by
    have e : M.step N root = M := by unfold MD.step; rw [h]
    unfold stepsM
    split
    · rfl
    · rw [e]; exact stuck h n
theorem MA.step (h : MA N root M) (Z : NZ N) (hd : (M.step N root).done = none) (ht : (M.step N root).th.tasks ≠ []) : MA N root (M.step N root) :=
  ⟨h.i.step h.w h.u hd, h.w.step, h.u.step h.w h.i.h17, h.v.step h.i h.w h.u Z.k Z.z ht, ht⟩
theorem tree_nz {src : Bs} (h : treeP src = .inr (N, root)) : NZ N ∧ root < N.length := by
  have h0 := tree_zero2 h
  unfold treeP at h
  split at h
  · cases h
  · dsimp only at h
    split at h
    · cases h
    · rename_i x hx
      have k0 : NK [nd0] := ⟨by decide, fun i hi => by
        have : i = 0 := by simp at hi; exact hi
        subst this
        decide⟩
      obtain ⟨q1, q2⟩ := (NA.all (scanP src) (100 * ((scanP src).length + 20))).p9 (s := ⟨0, 0, 0, 0, [nd0]⟩) k0 hx
      split at h
      · cases h
      · split at h
        · cases h
        · rename_i z
          cases h
          exact ⟨⟨q1.k, h0, by omega⟩, q2⟩
theorem start_ma {src : Bs} (hx : treeP src = .inr (N, root)) {A : Int} (hA : A < 9223372036854775808) : MA N root (startM N root A) := by
  obtain ⟨Z, hr⟩ := tree_nz hx
  have J := start_inv hx hA
  have hw := J.w
  have u0 := J.u rfl
  have v0 : MV N (⟨[globals], [(0, none)], [], [⟨4, 0, 0, [], []⟩], [], 0, A.toNat, 0, [], none⟩ : MD) := fun T hT => by
    have : T = ⟨4, 0, 0, [], []⟩ := by simpa using hT
    rw [this]
    exact TV.nil _ _
  have b := hw.bd Z.k
  refine ⟨J.i rfl, hw, u0, v0.enter ⟨b.r, b.c⟩ 0 [] 0 (by show (0 : Nat) < 8; decide) (fun _ => rfl) (by show (4 : Nat) ≠ 1; decide), fun z => by cases z⟩
end
end Go.Proofs.Qxb6500574aGreatDoor
