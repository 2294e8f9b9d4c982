/-
  THE WALKS of compm: stmt, whatever the node.
-/
import Derived.Test.Qxb6500574aGreatDoorZC24
namespace Go.Proofs.Qxb6500574aGreatDoor
open Go Go.RowKit
set_option linter.unusedVariables false
set_option linter.unusedSimpArgs false
section
variable {w W W1 : World} {A A1 A2 : RnP} {N : List Nd} {root : Nat} {M : MD}
theorem stmt_m (B : RB w A N root W A1 M) (hl : M.th.tasks.length ≤ 999900) (hvl : M.th.vals.length ≤ 999990) (RO : RefOk M) (NO : NdsOk N) {n : Nat} (hn : n < N.length) {e : Option Nat} (he : ∀ i, e = some i → i < A.E.length) (hk : 1 ≤ (N.getD n nd0).k ∧ (N.getD n nd0).k ≤ 11) (hx : ∀ x r, brkT M.th.tasks = some (x, r) → x ≤ M.th.vals.length) :
    Calls Tryz.prog 113 #[.pointer (some ⟨A.br, 0, none⟩), .int .i64 n, .pointer (eAd A.E e)] W (PQm w A N root (M.stmt N n e)) := by
  obtain ⟨k1, k2⟩ := hk
  have kk : (N.getD n nd0).k = 1 ∨ (N.getD n nd0).k = 2 ∨ (N.getD n nd0).k = 3 ∨ (N.getD n nd0).k = 4 ∨ (N.getD n nd0).k = 5 ∨ (N.getD n nd0).k = 6 ∨ (N.getD n nd0).k = 7 ∨ (N.getD n nd0).k = 8 ∨ (N.getD n nd0).k = 9 ∨ (N.getD n nd0).k = 10 ∨ (N.getD n nd0).k = 11 := by omega
  have ha := NO.a n hn
  rcases kk with k | k | k | k | k | k | k | k | k | k | k
  · by_cases h : (N.getD n nd0).a = 0
    · exact stmt1b B hl hvl hn NO.l he k h
    · exact stmt1a B hl hvl hn NO.l he k h
  · exact stmt2 B hl hvl hn NO.l he k NO.nx (NO.b n hn) (NO.b _ (NO.b n hn))
  · exact stmt3 B hl hvl hn NO.l he k RO
  · by_cases h : (N.getD (N.getD n nd0).a nd0).k = 17
    · exact stmt4a B hl hvl hn NO.l he k ha h
    · exact stmt4b B hl hvl hn NO.l he k ha h
  · exact stmt5 B hl hvl hn NO.l he k
  · exact stmt6 B hl hvl hn NO.l he k
  · exact stmt7 B hl hvl hn NO.l he k
  · by_cases h : (N.getD (N.getD (N.getD n nd0).a nd0).next nd0).next = 0
    · exact stmt8b B hl hvl hn NO.l he k ha (NO.x _ ha) h
    · exact stmt8a B hl hvl hn NO.l he k ha (NO.x _ ha) h
  · exact stmt9 B hl hvl hn NO.l he k
  · exact stmt10 B hl hvl hn NO.l he k
  · exact stmt11 B hl hvl hn NO.l he k hx
end
end Go.Proofs.Qxb6500574aGreatDoor
