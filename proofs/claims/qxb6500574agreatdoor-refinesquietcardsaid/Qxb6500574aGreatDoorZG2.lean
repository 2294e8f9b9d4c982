/-
  THE WALKS of compm: Run: the steps, the end.
-/
import Derived.Test.Qxb6500574aGreatDoorZF1
import Derived.Test.Qxb6500574aGreatDoorZG1
namespace Go.Proofs.Qxb6500574aGreatDoor
open Go Go.RowKit
set_option linter.unusedVariables false
set_option linter.unusedSimpArgs false
/-- the code from the steps on -/
def rnS (c : Option Code) : Code := cR (cR (cR (cR (cR (cR (cR (cR (cR (cR (cR (c.getD .skip)))))))))))
structure FrRn (v6 v10 : Value) (a : Act) : Prop where
  size : a.tmps.size = 112
  t6 : a.tmps[6]? = some v6
  t10 : a.tmps[10]? = some v10
  df : a.defers = []
set_option maxRecDepth 100000 in
theorem range112 {α : Type} (u : Nat → α) : (List.range 112).map u = u 0 :: u 1 :: u 2 :: u 3 :: u 4 :: u 5 :: u 6 :: u 7 :: u 8 :: u 9 :: u 10 :: u 11 :: u 12 :: u 13 :: u 14 :: u 15 :: u 16 :: u 17 :: u 18 :: u 19 :: u 20 :: u 21 :: u 22 :: u 23 :: u 24 :: u 25 :: u 26 :: u 27 :: u 28 :: u 29 :: u 30 :: u 31 :: u 32 :: u 33 :: u 34 :: u 35 :: u 36 :: u 37 :: u 38 :: u 39 :: u 40 :: u 41 :: u 42 :: u 43 :: u 44 :: u 45 :: u 46 :: u 47 :: u 48 :: u 49 :: u 50 :: u 51 :: u 52 :: u 53 :: u 54 :: u 55 :: u 56 :: u 57 :: u 58 :: u 59 :: u 60 :: u 61 :: u 62 :: u 63 :: u 64 :: u 65 :: u 66 :: u 67 :: u 68 :: u 69 :: u 70 :: u 71 :: u 72 :: u 73 :: u 74 :: u 75 :: u 76 :: u 77 :: u 78 :: u 79 :: u 80 :: u 81 :: u 82 :: u 83 :: u 84 :: u 85 :: u 86 :: u 87 :: u 88 :: u 89 :: u 90 :: u 91 :: u 92 :: u 93 :: u 94 :: u 95 :: u 96 :: u 97 :: u 98 :: u 99 :: u 100 :: u 101 :: u 102 :: u 103 :: u 104 :: u 105 :: u 106 :: u 107 :: u 108 :: u 109 :: u 110 :: u 111 :: [] := rfl
set_option maxRecDepth 100000 in
theorem FrRn.form {v6 v10 : Value} {a : Act} (H : FrRn v6 v10 a) : ∃ u : Nat → Value, a = { tmps := List.toArray (u 0 :: u 1 :: u 2 :: u 3 :: u 4 :: u 5 :: v6 :: u 7 :: u 8 :: u 9 :: v10 :: u 11 :: u 12 :: u 13 :: u 14 :: u 15 :: u 16 :: u 17 :: u 18 :: u 19 :: u 20 :: u 21 :: u 22 :: u 23 :: u 24 :: u 25 :: u 26 :: u 27 :: u 28 :: u 29 :: u 30 :: u 31 :: u 32 :: u 33 :: u 34 :: u 35 :: u 36 :: u 37 :: u 38 :: u 39 :: u 40 :: u 41 :: u 42 :: u 43 :: u 44 :: u 45 :: u 46 :: u 47 :: u 48 :: u 49 :: u 50 :: u 51 :: u 52 :: u 53 :: u 54 :: u 55 :: u 56 :: u 57 :: u 58 :: u 59 :: u 60 :: u 61 :: u 62 :: u 63 :: u 64 :: u 65 :: u 66 :: u 67 :: u 68 :: u 69 :: u 70 :: u 71 :: u 72 :: u 73 :: u 74 :: u 75 :: u 76 :: u 77 :: u 78 :: u 79 :: u 80 :: u 81 :: u 82 :: u 83 :: u 84 :: u 85 :: u 86 :: u 87 :: u 88 :: u 89 :: u 90 :: u 91 :: u 92 :: u 93 :: u 94 :: u 95 :: u 96 :: u 97 :: u 98 :: u 99 :: u 100 :: u 101 :: u 102 :: u 103 :: u 104 :: u 105 :: u 106 :: u 107 :: u 108 :: u 109 :: u 110 :: u 111 :: []), defers := [] } := by
  obtain ⟨tmps, defers⟩ := a
  obtain ⟨hz, h6, h10, hd⟩ := H
  simp only at hz h6 h10 hd
  subst hd
  refine ⟨fun i => tmps.getD i undef, ?_⟩
  congr 1
  apply Array.ext'
  have e : tmps.toList = (List.range 112).map (fun i => tmps.getD i undef) := by
    apply List.ext_getElem
    · simpa using hz
    · intro i a1 a2
      simp at a1
      simp [Array.getD, a1]
  rw [e]
  have g6 : tmps.getD 6 undef = v6 := by simp [Array.getD_eq_getD_getElem?, h6]
  have g10 : tmps.getD 10 undef = v10 := by simp [Array.getD_eq_getD_getElem?, h10]
  rw [← g6, ← g10]
  exact range112 (fun i => tmps.getD i undef)
/-- at a round's head, n rounds ahead of the end -/
def RnI (w : World) (A : RnP) (N : List Nd) (root : Nat) (ba : Nat) (an : AnD) (n : Nat) (wr : World) : Prop :=
  ∃ A' M, RX w A N root ba wr A' M ∧ (stepsM N root n M).done = some an ∧ (M.done = none → MA N root M)
/-- how Run ends -/
def RnE (w : World) (A : RnP) (an : AnD) (e : Ending) (w' : World) : Prop :=
  e = .returned (.agg #[.int .i64 an.e, .int .i64 an.n, .int .i64 an.m, sv an.s, sv an.t]) ∧ ∃ A', Stp (fun l => 1 ≤ l) w A.o w' A' ∧ ∃ s, Has w' A.bt #[.pointer (some ⟨A.bn, 0, none⟩), s] 165
section
variable {w W : World} {A A1 : RnP} {N : List Nd} {root ba : Nat} {M : MD} {an : AnD} {a : Act}
theorem RnI.next {n : Nat} {wr w' : World} {A' A2 : RnP} (Z : NZ N) (B : RX w A N root ba wr A' M) (hs : (stepsM N root (n + 1) M).done = some an) (hd : M.done = none) (h : MA N root M)
    (R : MRep w' A2 N root (M.step N root)) (S : MSt wr A' w' A2) : RnI w A N root ba an n w' := by
  have e : stepsM N root (n + 1) M = stepsM N root n (M.step N root) := by
    conv => lhs; unfold stepsM
    rw [if_neg (by rw [hd]; decide)]
  rw [e] at hs
  refine ⟨A2, _, ⟨R, B.s.trans S, B.l.st S⟩, hs, fun z => h.step Z z (fun z2 => ?_)⟩
  rw [stuck z2, z] at hs
  cases hs
set_option maxRecDepth 100000
set_option maxHeartbeats 1000000
theorem run_steps (Z : NZ N) {n : Nat} (I : RnI w A N root ba an n W) (hba : w.heap.size ≤ ba) (H : FrRn (.pointer (some ⟨ba, 0, none⟩)) (.pointer (some ⟨A.br, 0, none⟩)) a) :
    (rnS Tryz.f51.body).wp Tryz.prog (bodyPost Tryz.prog Tryz.f51 (RnE w A an)) a W := by
  obtain ⟨u, rfl⟩ := H.form
  obtain ⟨Q, HQ⟩ : ∃ Q : Ending → World → Prop, Hid (RnE w A an = Q) := ⟨_, rfl⟩
  rw [HQ.out]
  have HI := hid I
  have HZ := hid Z
  have HBA := hid hba
  clear I Z H hba
  obtain ⟨c, hc⟩ : ∃ c, c = rnS Tryz.f51.body := ⟨_, rfl⟩
  rw [← hc]
  simp only [rnS, cR, Tryz.f51, Option.getD_some] at hc
  subst hc
  go_wp2_with fail
  go_loopg [] n (fun k wr => Hid (RnI w A N root ba an k wr))
  case atStart => exact HI
  case round =>
    obtain ⟨A4, M4, B4, hs4, hm4⟩ := hrel.out
    have L4 := B4.l
    have hbr := B4.c1.2
    have c16 : wr.cell? ⟨A.br, 16, none⟩ = some (.bool M4.done.isSome) := B4.rc 16 rfl
    cases hd4 : M4.done with
    | none =>
      rw [hd4] at c16
      have c16 : wr.cell? ⟨A.br, 16, none⟩ = some (.bool false) := c16
      cases gk with
      | zero =>
        exfalso
        unfold stepsM at hs4
        rw [hd4] at hs4
        cases hs4
      | succ k =>
        have h4 := hm4 hd4
        have C4 := step_m B4.r h4 HZ.out
        rw [B4.s.br] at C4
        have HC4 := hid C4
        have HB4 := hid B4
        have HS4 := hid hs4
        have HD4 := hid hd4
        have HH4 := hid h4
        clear C4 B4 L4 hs4 hd4 h4 hm4 hrel
        go_wp2_with fail
        refine HC4.out.mono ?_
        rintro e5 w5 ⟨rfl, A5, R5, S5⟩
        have HI5 : Hid (RnI w A N root ba an k w5) := RnI.next HZ.out HB4.out HS4.out HD4.out HH4.out R5 S5
        clear R5 S5
        go_wp2_with fail
        go_roundg k
        case measure => omega
        case rel => exact HI5
    | some z =>
      rw [hd4] at c16
      have c16 : wr.cell? ⟨A.br, 16, none⟩ = some (.bool true) := c16
      have ez : z = an := by
        have e : stepsM N root gk M4 = M4 := by
          cases gk with
          | zero => rfl
          | succ k =>
            unfold stepsM
            rw [if_pos (by rw [hd4]; rfl)]
        rw [e, hd4] at hs4
        exact Option.some.inj hs4
      have ea : A4.an = an := (B4.r.don _ hd4).trans ez
      have c17 : wr.cell? ⟨A.br, 17, none⟩ = some (.int .i64 A4.an.e) := B4.rc 17 rfl
      have c18 : wr.cell? ⟨A.br, 18, none⟩ = some (.int .i64 A4.an.n) := B4.rc 18 rfl
      have c19 : wr.cell? ⟨A.br, 19, none⟩ = some (.int .i64 A4.an.m) := B4.rc 19 rfl
      have c20 : wr.cell? ⟨A.br, 20, none⟩ = some (sv A4.an.s) := B4.rc 20 rfl
      have c21 : wr.cell? ⟨A.br, 21, none⟩ = some (sv A4.an.t) := B4.rc 21 rfl
      rw [ea] at c17 c18 c19 c20 c21
      obtain ⟨ae, an1, am, as1, at1⟩ := an
      dsimp only at c17 c18 c19 c20 c21
      have S9 : ∀ (w9 : World) (z0 : MRep w9 A4 N root M4) (S : MSt w A w9 A4), ∃ s, Has w9 A.bt #[.pointer (some ⟨A.bn, 0, none⟩), s] 165 := fun w9 z0 S => ⟨_, by have := z0.tab.here.has; rw [S.bt, S.bn] at this; exact this⟩
      have hz := L4.z
      have T0 : MRep (((((wr.setCell ⟨ba, 0, none⟩ (.int .i64 ae)).setCell ⟨ba, 1, none⟩ (.int .i64 an1)).setCell ⟨ba, 2, none⟩ (.int .i64 am)).setCell ⟨ba, 3, none⟩ (sv as1)).setCell ⟨ba, 4, none⟩ (sv at1)) A4 N root M4 := ((((B4.r.setL hz _ _).setL hz _ _).setL hz _ _).setL hz _ _).setL hz _ _
      have T1 : MSt w A (((((wr.setCell ⟨ba, 0, none⟩ (.int .i64 ae)).setCell ⟨ba, 1, none⟩ (.int .i64 an1)).setCell ⟨ba, 2, none⟩ (.int .i64 am)).setCell ⟨ba, 3, none⟩ (sv as1)).setCell ⟨ba, 4, none⟩ (sv at1)) A4 := ((((B4.s.setL HBA.out _ _).setL HBA.out _ _).setL HBA.out _ _).setL HBA.out _ _).setL HBA.out _ _
      have T2 : Has (((((wr.setCell ⟨ba, 0, none⟩ (.int .i64 ae)).setCell ⟨ba, 1, none⟩ (.int .i64 an1)).setCell ⟨ba, 2, none⟩ (.int .i64 am)).setCell ⟨ba, 3, none⟩ (sv as1)).setCell ⟨ba, 4, none⟩ (sv at1)) ba #[.int .i64 ae, .int .i64 an1, .int .i64 am, sv as1, sv at1] 54 := by
        have := ((((L4.h.put 0 (.int .i64 ae)).put 1 (.int .i64 an1)).put 2 (.int .i64 am)).put 3 (sv as1)).put 4 (sv at1)
        simpa using this
      have FIN : Hid (Q (.returned (.agg #[.int .i64 ae, .int .i64 an1, .int .i64 am, sv as1, sv at1])) (((((wr.setCell ⟨ba, 0, none⟩ (.int .i64 ae)).setCell ⟨ba, 1, none⟩ (.int .i64 an1)).setCell ⟨ba, 2, none⟩ (.int .i64 am)).setCell ⟨ba, 3, none⟩ (sv as1)).setCell ⟨ba, 4, none⟩ (sv at1))) := by
        show Q _ _
        rw [← HQ.out]
        exact ⟨rfl, _, T1.s, S9 _ T0 T1⟩
      have HT2 := hid T2
      have a0 := L4.h.cell 0
      have a1 := L4.h.cell 1
      have a2 := L4.h.cell 2
      have a3 := L4.h.cell 3
      have a4 := L4.h.cell 4
      have az0 := L4.h.frozen 0
      have az1 := L4.h.frozen 1
      have az2 := L4.h.frozen 2
      have az3 := L4.h.frozen 3
      have az4 := L4.h.frozen 4
      have al := L4.h.lt
      simp only [List.getElem?_toArray, List.getElem?_cons_succ, List.getElem?_cons_zero] at a0 a1 a2 a3 a4
      clear T0 T1 T2 S9 hz B4 L4 hs4 hm4 hrel ea ez hd4
      go_wp2_with fail
      exact bodyPost_ret (res_cell isAns rfl rfl HT2.out rfl) rfl FIN.out
end
end Go.Proofs.Qxb6500574aGreatDoor
