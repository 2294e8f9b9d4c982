/-
  THE WALKS of compm: eval, whatever the node.
-/
import Derived.Test.Qxb6500574aGreatDoorZC19
namespace Go.Proofs.Qxb6500574aGreatDoor
open Go Go.RowKit
set_option linter.unusedVariables false
set_option linter.unusedSimpArgs false
/-- what the walks ask of the tree -/
structure NdsOk (N : List Nd) : Prop where
  l : N.length ≤ 1000
  z : 0 < N.length
  a : ∀ n, n < N.length → (N.getD n nd0).a < N.length
  b : ∀ n, n < N.length → (N.getD n nd0).b < N.length
  c : ∀ n, n < N.length → (N.getD n nd0).c < N.length
  x : ∀ n, n < N.length → (N.getD n nd0).next < N.length
theorem NdsOk.nx {N : List Nd} (h : NdsOk N) : ∀ n, n < N.length → (N.getD n nd0).next = 0 ∨ (N.getD n nd0).next < N.length := fun n hn => .inr (h.x n hn)
section
variable {w W W1 : World} {A A1 A2 : RnP} {N : List Nd} {root : Nat} {M : MD}
theorem eval_m (B : RB w A N root W A1 M) (hl : M.th.tasks.length ≤ 999900) (hvl : M.th.vals.length ≤ 999990) (RO : RefOk M) (TI : ∀ t ∈ M.tabs, TTi t) (h0t : 0 < M.tabs.length) (h12 : M.tabs.length ≤ 12) (h24 : M.clos.length ≤ 24) (NO : NdsOk N) {n : Nat} (hn : n < N.length) {x : Nat} {e : Option Nat} (he : ∀ i, e = some i → i < A.E.length) (hk : n ≠ 0 → 12 ≤ (N.getD n nd0).k ∧ (N.getD n nd0).k ≤ 25) (hs : (N.getD n nd0).k = 17 → (N.getD n nd0).s.length ≤ 40) :
    Calls Tryz.prog 114 #[.pointer (some ⟨A.br, 0, none⟩), .int .i64 n, .int .i64 x, .pointer (eAd A.E e)] W (PQm w A N root (M.eval N n x e)) := by
  by_cases h0 : n = 0
  · subst h0
    exact eval0 B hvl
  · obtain ⟨k1, k2⟩ := hk h0
    have kk : (N.getD n nd0).k = 12 ∨ (N.getD n nd0).k = 13 ∨ (N.getD n nd0).k = 14 ∨ (N.getD n nd0).k = 15 ∨ (N.getD n nd0).k = 16 ∨ (N.getD n nd0).k = 17 ∨ (N.getD n nd0).k = 18 ∨ (N.getD n nd0).k = 19 ∨ (N.getD n nd0).k = 20 ∨ (N.getD n nd0).k = 21 ∨ (N.getD n nd0).k = 22 ∨ (N.getD n nd0).k = 23 ∨ (N.getD n nd0).k = 24 ∨ (N.getD n nd0).k = 25 := by omega
    rcases kk with k | k | k | k | k | k | k | k | k | k | k | k | k | k
    · exact eval12 B hl hvl hn h0 NO.l he k
    · exact eval13 B hl hvl hn h0 NO.l he k
    · exact eval14 B hl hvl hn h0 NO.l he k
    · exact eval15 B hl hvl hn h0 NO.l he k
    · exact eval16 B hl hvl hn h0 NO.l he k
    · exact eval17 B hvl RO TI h0t hn h0 NO.l (hs k) he k
    · exact eval18 B hl hvl hn h0 NO.l he k
    · exact eval19 B hl hvl hn h0 NO.l he k NO.nx (NO.b n hn)
    · exact eval20 B hvl h24 hn h0 NO.l he k
    · exact eval21 B hl hvl hn h0 NO.l he k
    · exact eval22 B hl hvl hn h0 NO.l he k
    · exact eval23 B hl hvl hn h0 NO.l he k
    · exact eval24 B hl hvl hn h0 NO.l he k
    · exact eval25 B hl hvl hn h0 NO.l he k
end
end Go.Proofs.Qxb6500574aGreatDoor
