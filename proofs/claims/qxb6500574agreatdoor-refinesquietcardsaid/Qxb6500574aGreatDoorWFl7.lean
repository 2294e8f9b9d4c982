/-
  THE WALK of the parser layer: flat.go: lay; all of it.
-/
import Derived.Test.Qxb6500574aGreatDoorWFl5
import Derived.Test.Qxb6500574aGreatDoorWFl6
namespace Go.Proofs.Qxb6500574aGreatDoor
open Go Go.RowKit
set_option linter.unusedVariables false
set_option linter.unusedSimpArgs false
open Go.Lib
section
set_option maxRecDepth 100000
set_option maxHeartbeats 1000000
variable {w : World} {o : Nat → Nat} {sb : Nat} {nm tk : Value} {sn : Sl} {A N : List Nd} {P : Nat → Prop} {lo n : Nat} {v : Value}
/-- a value's type says whether it is a statement -/
theorem Shp.face {d : Nd} {kids : List Mb} {mem : Bks} {ls : List Ls} (h : Shp d lo n v kids mem ls) : ∃ t b, v = .iface t (.pointer (some ⟨b, 0, none⟩)) ∧
    ((12 ≤ d.k ∧ (∀ (x : Value) (xT : TypeId) (w : World), (Instr.typeAssert (.iface t x) xT 201 true).run Tryz.prog w = .ok (.tuple #[.nilIface, .bool false]) w) ∧ (∀ (x : Value) (xT : TypeId) (w : World), (Instr.typeAssert (.iface t x) xT 281 false).run Tryz.prog w = .ok (.iface t x) w)) ∨
     (d.k ≤ 11 ∧ ∀ (x : Value) (xT : TypeId) (w : World), (Instr.typeAssert (.iface t x) xT 201 true).run Tryz.prog w = .ok (.tuple #[.iface t x, .bool true]) w)) := by
  cases h using Shp.on with
  | lit hk => exact ⟨_, _, rfl, .inl ⟨by dsimp only; omega, stLit, exLit⟩⟩
  | num => exact ⟨_, _, rfl, .inl ⟨by dsimp only; omega, stNum, exNum⟩⟩
  | str => exact ⟨_, _, rfl, .inl ⟨by dsimp only; omega, stStr, exStr⟩⟩
  | name => exact ⟨_, _, rfl, .inl ⟨by dsimp only; omega, stName, exName⟩⟩
  | index => exact ⟨_, _, rfl, .inl ⟨by dsimp only; omega, stIndex, exIndex⟩⟩
  | call => exact ⟨_, _, rfl, .inl ⟨by dsimp only; omega, stCall, exCall⟩⟩
  | func => exact ⟨_, _, rfl, .inl ⟨by dsimp only; omega, stFunc, exFunc⟩⟩
  | table => exact ⟨_, _, rfl, .inl ⟨by dsimp only; omega, stTable, exTable⟩⟩
  | binary hk => exact ⟨_, _, rfl, .inl ⟨by dsimp only; omega, stBinary, exBinary⟩⟩
  | unary => exact ⟨_, _, rfl, .inl ⟨by dsimp only; omega, stUnary, exUnary⟩⟩
  | local1 => exact ⟨_, _, rfl, .inr ⟨by dsimp only; omega, stLocal⟩⟩
  | local2 => exact ⟨_, _, rfl, .inr ⟨by dsimp only; omega, stLocal⟩⟩
  | localfn => exact ⟨_, _, rfl, .inr ⟨by dsimp only; omega, stLocalFn⟩⟩
  | assign => exact ⟨_, _, rfl, .inr ⟨by dsimp only; omega, stAssign⟩⟩
  | callst => exact ⟨_, _, rfl, .inr ⟨by dsimp only; omega, stCallStmt⟩⟩
  | ifs => exact ⟨_, _, rfl, .inr ⟨by dsimp only; omega, stIf⟩⟩
  | whiles => exact ⟨_, _, rfl, .inr ⟨by dsimp only; omega, stWhile⟩⟩
  | fors => exact ⟨_, _, rfl, .inr ⟨by dsimp only; omega, stFor⟩⟩
  | forin => exact ⟨_, _, rfl, .inr ⟨by dsimp only; omega, stForIn⟩⟩
  | ret => exact ⟨_, _, rfl, .inr ⟨by dsimp only; omega, stReturn⟩⟩
  | brk => exact ⟨_, _, rfl, .inr ⟨by dsimp only; omega, stBreak⟩⟩
theorem flay_any (CE : ExC N (n + 1)) (CS : StC N (n + 1)) (h : TrA w P N lo n v) (hO : Ok3 N n) (hP : ∀ k, P k → k < w.heap.size ∧ o k = 0) (F : FRep w o sb nm tk sn A) (hA : A.length = lo + 1) : Calls Tryz.prog 99 #[.pointer (some ⟨sb, 0, none⟩), v] w (LayQ w o sb nm tk A N lo n) := by
  have hf : ∃ t b, v = .iface t (.pointer (some ⟨b, 0, none⟩)) ∧
    ((12 ≤ (N.getD n nd0).k ∧ (∀ (x : Value) (xT : TypeId) (w : World), (Instr.typeAssert (.iface t x) xT 201 true).run Tryz.prog w = .ok (.tuple #[.nilIface, .bool false]) w) ∧ (∀ (x : Value) (xT : TypeId) (w : World), (Instr.typeAssert (.iface t x) xT 281 false).run Tryz.prog w = .ok (.iface t x) w)) ∨
     ((N.getD n nd0).k ≤ 11 ∧ ∀ (x : Value) (xT : TypeId) (w : World), (Instr.typeAssert (.iface t x) xT 201 true).run Tryz.prog w = .ok (.tuple #[.iface t x, .bool true]) w)) := by
    cases h using TrA.on with
    | mk _ _ _ d kids mem ls hd hm hl hk hb hz hn sh =>
      have hkd : (N.getD n nd0).k = d.k := by rw [← hd]; rfl
      rw [hkd]
      exact sh.face
  obtain ⟨t, b, rfl, ⟨hk, h1, h2⟩ | ⟨hk, h1⟩⟩ := hf
  · have hg : GoodE N n ∨ (N.getD n nd0).k = 17 := by
      rcases hO with h | h | h
      · exact .inl h
      · have := h.out.k
        omega
      · exact .inr h
    have CA : Hid (Calls Tryz.prog 164 #[.pointer (some ⟨sb, 0, none⟩), .iface t (.pointer (some ⟨b, 0, none⟩))] w (LayQ w o sb nm tk A N lo n)) := CE h hg hP (Nat.lt_succ_self _) F hA
    clear hg hP F hA h hO hk CE CS
    go_enter Tryz.func99, Tryz.ntmps99
    go_wp2_with fail
    refine CA.out.mono ?_
    rintro e w' ⟨rfl, q⟩
    have HQ : Hid (∃ o' sn', FRep w' o' sb nm tk sn' (A ++ segN N lo n) ∧ Stp QF w o w' o') := q
    clear q CA
    go_wp2_with fail
    go_ret
    exact ⟨rfl, HQ.out⟩
  · have hg : GoodS N n := by
      rcases hO with h | h | h
      · have := h.k
        omega
      · exact h
      · omega
    have CA : Hid (Calls Tryz.prog 163 #[.pointer (some ⟨sb, 0, none⟩), .iface t (.pointer (some ⟨b, 0, none⟩))] w (LayQ w o sb nm tk A N lo n)) := CS h hg hP (Nat.lt_succ_self _) F hA
    clear hg hP F hA h hO hk CE CS
    go_enter Tryz.func99, Tryz.ntmps99
    go_wp2_with fail
    refine CA.out.mono ?_
    rintro e w' ⟨rfl, q⟩
    have HQ : Hid (∃ o' sn', FRep w' o' sb nm tk sn' (A ++ segN N lo n) ∧ Stp QF w o w' o') := q
    clear q CA
    go_wp2_with fail
    go_ret
    exact ⟨rfl, HQ.out⟩
theorem flat_all (hN : N.length ≤ 3000) : ∀ mx, ExC N mx ∧ StC N mx ∧ LayC N mx
  | 0 => ⟨fun _ _ _ h => absurd h (Nat.not_lt_zero _), fun _ _ _ h => absurd h (Nat.not_lt_zero _), fun _ _ _ h => absurd h (Nat.not_lt_zero _)⟩
  | mx + 1 => by
    obtain ⟨c1, c2, c3⟩ := flat_all hN mx
    have e1 : ExC N (mx + 1) := by
      intro w o sb nm tk sn A lo n v P h hg hP hn F hA
      by_cases e : n = mx
      · subst e
        exact expr_lay c1 c3 hN h hg hP F hA
      · exact c1 h hg hP (by omega) F hA
    have e2 : StC N (mx + 1) := by
      intro w o sb nm tk sn A lo n v P h hg hP hn F hA
      by_cases e : n = mx
      · subst e
        exact stmt_lay c1 c3 hN h hg hP F hA
      · exact c2 h hg hP (by omega) F hA
    refine ⟨e1, e2, ?_⟩
    intro w o sb nm tk sn A lo n v P h hg hP hn F hA
    by_cases e : n = mx
    · subst e
      exact flay_any e1 e2 h hg hP F hA
    · exact c3 h hg hP (by omega) F hA
theorem lay_all (hN : N.length ≤ 3000) (mx : Nat) : LayC N mx := (flat_all hN mx).2.2
end
end Go.Proofs.Qxb6500574aGreatDoor
