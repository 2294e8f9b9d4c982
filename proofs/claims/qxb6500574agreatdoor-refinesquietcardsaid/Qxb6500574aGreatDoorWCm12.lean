/-
  THE WALK of comp: each: a function is handed the members of a list. Written by tools/gen_each.py.
-/
import Derived.Test.Qxb6500574aGreatDoorWCm11
namespace Go.Proofs.Qxb6500574aGreatDoor
open Go Go.RowKit
set_option linter.unusedVariables false
set_option linter.unusedSimpArgs false
open Go.Lib
theorem flat_at : ∀ {A : List Nd} {i j : Nat}, i < A.length → j < 8 → (A.flatMap ndV)[i * 8 + j]? = (ndV (A.getD i nd0))[j]? := by
  intro A i j hi hj
  refine flatMap_at ndV 8 ndV_len A i j _ ?_ hj
  rw [List.getD_eq_getElem?_getD, List.getElem?_eq_getElem hi]
  rfl
/-- what a walk over the nodes reads -/
structure NdAt (w : World) (C : CC) (N : List Nd) (f : Nat) (g1 : Nat) : Prop where
  fl : C.gF < w.heap.size
  cl : C.cb < w.heap.size
  gl : g1 < w.heap.size
  f0 : w.cell? ⟨C.gF, f * 11, none⟩ = some (.pointer (some ⟨C.cb, 0, none⟩))
  c2 : w.cell? ⟨C.cb, 2, none⟩ = some (.slice (some ⟨g1, 0, none⟩) N.length C.sn.c)
  le : N.length ≤ C.sn.c
  nd : ∀ i j, i < N.length → j < 8 → w.cell? ⟨g1, i * 8 + j, none⟩ = (ndV (N.getD i nd0))[j]?
section
variable {w : World} {o : Nat → Nat} {C : CC} {N : List Nd} {c : CmD} {f : Nat}
theorem CRep.nd (R : CRep w o C N c) (hf : f < c.np) (hN : 0 < N.length) : ∃ g1, C.sn.a = some ⟨g1, 0, none⟩ ∧ NdAt w C N f g1 := by
  obtain ⟨xs, l, F⟩ := R.fn hf
  have c0 := F.cell 0 (by omega)
  have b2 := R.blk.has.cell 2
  obtain ⟨g1, a1, a2, a3, a4, a5, a6⟩ := R.nds.cells hN
  simp only [fnV, comC, List.getElem?_toArray, List.getElem?_cons_succ, List.getElem?_cons_zero, Sl.v, F.ok.1, Option.map_some, Nat.add_zero, a1] at c0 b2
  refine ⟨g1, a1, F.lt, R.blk.has.lt, a4, c0, b2, a2, fun i j hi hj => ?_⟩
  rw [a5 _ (by omega)]
  exact flat_at hi hj
end
/-- at a round's head of each -/
def EaI (N : List Nd) (P : List Nat → World → Prop) (m : Nat) (g : Nat) (v1 v7 : Value) (w : World) : Prop :=
  ∃ (r : List Nat) (n k : Nat), r.length = g ∧ k + g = m ∧ v1 = .int .i64 n ∧ v7 = .int .i64 k ∧ Chain N n r ∧ P r w
section
set_option maxRecDepth 100000
set_option maxHeartbeats 1000000
variable {w : World} {C : CC} {N : List Nd} {f : Nat}
theorem each_expr {u1 : Value} (P : List Nat → World → Prop) (hP : ∀ r w, P r w → ∃ o c, CRep w o C N c ∧ f < c.np) (hs : ∀ x r w, P (x :: r) w → x < N.length ∧ Calls Tryz.prog 165 #[u1, .int .i64 x] w fun e w' => e = .returned (.tuple #[]) ∧ P r w') (l : List Nat) (n : Nat) (hC : Chain N n l) (hl : l.length ≤ 3000) (h0 : P l w) :
    Calls Tryz.prog 101 #[fptr C.gF f, .int .i64 n, .func (.func 165) #[u1] #[]] w fun e w' => e = .returned (.int .i64 l.length) ∧ P [] w' := by
  obtain ⟨m, HM⟩ : ∃ m : Nat, Hid (l.length = m) := ⟨_, rfl⟩
  have HS0 : Hid (EaI N P m m (.int .i64 n) (.int .i64 0) w) := ⟨l, n, 0, HM.out, by omega, rfl, rfl, hC, h0⟩
  have HP : Hid (∀ r w, P r w → ∃ o c, CRep w o C N c ∧ f < c.np) := hP
  have HS : Hid (∀ x r w, P (x :: r) w → x < N.length ∧ Calls Tryz.prog 165 #[u1, .int .i64 x] w fun e w' => e = .returned (.tuple #[]) ∧ P r w') := hs
  rw [HM.out] at hl ⊢
  clear hP hs hC h0
  unfold fptr
  go_enter Tryz.func101, Tryz.ntmps101
  go_wp2_with fail
  go_loopg [1, 7] m (fun g v1 v7 w1 => Hid (EaI N P m g v1 v7 w1))
  case atStart => exact HS0
  case round =>
    obtain ⟨r, n', k, hr, hk, rfl, rfl, hC, hp⟩ := hrel.out
    cases r with
    | nil =>
      have hn : n' = 0 := hC
      subst hn
      have hg : k = m := by simp at hr; omega
      have HG : Hid (k = m) := hg
      have HPN : Hid (P [] wr) := hp
      clear hC hp hrel hr hk hg
      go_wp2_with fail
      go_ret
      exact ⟨by rw [HG.out]; rfl, HPN.out⟩
    | cons x r =>
      obtain ⟨rfl, hx0, hC2⟩ := hC
      obtain ⟨hxl, CL⟩ := HS.out n' r wr hp
      have HC2 : Hid (Chain N (N.getD n' nd0).next r) := hC2
      have e1 : decide (n' = 0) = false := decide_eq_false hx0
      have e2 : ((n' : Int) == 0) = false := by simp; exact hx0
      have e3 : ((n' : Int) != 0) = true := by simp; exact hx0
      obtain ⟨g', HG'⟩ : ∃ g', Hid (gk = g' + 1) := ⟨r.length, by show gk = _; simp at hr; omega⟩
      have HRL : Hid (r.length = g') := by show _ = _; have := HG'.out; simp at hr; omega
      clear hC2 hp hrel hr
      have hNl : 0 < N.length := by omega
      obtain ⟨nx, HNX⟩ : ∃ nx : Nat, Hid ((N.getD n' nd0).next = nx) := ⟨_, rfl⟩
      go_wp2_with (go_at_call 165; refine CL.mono ?_; rintro e w2 ⟨rfl, hp2⟩; have HP2 : Hid (P r w2) := hp2; obtain ⟨o2, c2, R2, hf2⟩ := HP.out r w2 hp2; obtain ⟨g1, ha, ⟨q1, q2, q3, q4, q5, q6, q7⟩⟩ := R2.nd hf2 hNl; have q8 := q7 n' 4 hxl (by omega); simp only [ndV, List.getElem?_cons_succ, List.getElem?_cons_zero, HNX.out] at q8; clear hp2 R2 hf2 q7 ha)
      go_roundg g'
      case measure => have := HG'.out; omega
      case rel =>
        have hg' := HG'.out
        refine ⟨r, nx, k + 1, HRL.out, by omega, rfl, by simp, ?_, HP2.out⟩
        rw [← HNX.out]
        exact HC2.out
theorem each_stmt {u1 : Value} (P : List Nat → World → Prop) (hP : ∀ r w, P r w → ∃ o c, CRep w o C N c ∧ f < c.np) (hs : ∀ x r w, P (x :: r) w → x < N.length ∧ Calls Tryz.prog 102 #[u1, .int .i64 x] w fun e w' => e = .returned (.tuple #[]) ∧ P r w') (l : List Nat) (n : Nat) (hC : Chain N n l) (hl : l.length ≤ 3000) (h0 : P l w) :
    Calls Tryz.prog 101 #[fptr C.gF f, .int .i64 n, .func (.func 102) #[u1] #[]] w fun e w' => e = .returned (.int .i64 l.length) ∧ P [] w' := by
  obtain ⟨m, HM⟩ : ∃ m : Nat, Hid (l.length = m) := ⟨_, rfl⟩
  have HS0 : Hid (EaI N P m m (.int .i64 n) (.int .i64 0) w) := ⟨l, n, 0, HM.out, by omega, rfl, rfl, hC, h0⟩
  have HP : Hid (∀ r w, P r w → ∃ o c, CRep w o C N c ∧ f < c.np) := hP
  have HS : Hid (∀ x r w, P (x :: r) w → x < N.length ∧ Calls Tryz.prog 102 #[u1, .int .i64 x] w fun e w' => e = .returned (.tuple #[]) ∧ P r w') := hs
  rw [HM.out] at hl ⊢
  clear hP hs hC h0
  unfold fptr
  go_enter Tryz.func101, Tryz.ntmps101
  go_wp2_with fail
  go_loopg [1, 7] m (fun g v1 v7 w1 => Hid (EaI N P m g v1 v7 w1))
  case atStart => exact HS0
  case round =>
    obtain ⟨r, n', k, hr, hk, rfl, rfl, hC, hp⟩ := hrel.out
    cases r with
    | nil =>
      have hn : n' = 0 := hC
      subst hn
      have hg : k = m := by simp at hr; omega
      have HG : Hid (k = m) := hg
      have HPN : Hid (P [] wr) := hp
      clear hC hp hrel hr hk hg
      go_wp2_with fail
      go_ret
      exact ⟨by rw [HG.out]; rfl, HPN.out⟩
    | cons x r =>
      obtain ⟨rfl, hx0, hC2⟩ := hC
      obtain ⟨hxl, CL⟩ := HS.out n' r wr hp
      have HC2 : Hid (Chain N (N.getD n' nd0).next r) := hC2
      have e1 : decide (n' = 0) = false := decide_eq_false hx0
      have e2 : ((n' : Int) == 0) = false := by simp; exact hx0
      have e3 : ((n' : Int) != 0) = true := by simp; exact hx0
      obtain ⟨g', HG'⟩ : ∃ g', Hid (gk = g' + 1) := ⟨r.length, by show gk = _; simp at hr; omega⟩
      have HRL : Hid (r.length = g') := by show _ = _; have := HG'.out; simp at hr; omega
      clear hC2 hp hrel hr
      have hNl : 0 < N.length := by omega
      obtain ⟨nx, HNX⟩ : ∃ nx : Nat, Hid ((N.getD n' nd0).next = nx) := ⟨_, rfl⟩
      go_wp2_with (go_at_call 102; refine CL.mono ?_; rintro e w2 ⟨rfl, hp2⟩; have HP2 : Hid (P r w2) := hp2; obtain ⟨o2, c2, R2, hf2⟩ := HP.out r w2 hp2; obtain ⟨g1, ha, ⟨q1, q2, q3, q4, q5, q6, q7⟩⟩ := R2.nd hf2 hNl; have q8 := q7 n' 4 hxl (by omega); simp only [ndV, List.getElem?_cons_succ, List.getElem?_cons_zero, HNX.out] at q8; clear hp2 R2 hf2 q7 ha)
      go_roundg g'
      case measure => have := HG'.out; omega
      case rel =>
        have hg' := HG'.out
        refine ⟨r, nx, k + 1, HRL.out, by omega, rfl, by simp, ?_, HP2.out⟩
        rw [← HNX.out]
        exact HC2.out
theorem each_param {u1 : Value} (P : List Nat → World → Prop) (hP : ∀ r w, P r w → ∃ o c, CRep w o C N c ∧ f < c.np) (hs : ∀ x r w, P (x :: r) w → x < N.length ∧ Calls Tryz.prog 275 #[u1, .int .i64 x] w fun e w' => e = .returned (.tuple #[]) ∧ P r w') (l : List Nat) (n : Nat) (hC : Chain N n l) (hl : l.length ≤ 3000) (h0 : P l w) :
    Calls Tryz.prog 101 #[fptr C.gF f, .int .i64 n, .func (.func 275) #[u1] #[]] w fun e w' => e = .returned (.int .i64 l.length) ∧ P [] w' := by
  obtain ⟨m, HM⟩ : ∃ m : Nat, Hid (l.length = m) := ⟨_, rfl⟩
  have HS0 : Hid (EaI N P m m (.int .i64 n) (.int .i64 0) w) := ⟨l, n, 0, HM.out, by omega, rfl, rfl, hC, h0⟩
  have HP : Hid (∀ r w, P r w → ∃ o c, CRep w o C N c ∧ f < c.np) := hP
  have HS : Hid (∀ x r w, P (x :: r) w → x < N.length ∧ Calls Tryz.prog 275 #[u1, .int .i64 x] w fun e w' => e = .returned (.tuple #[]) ∧ P r w') := hs
  rw [HM.out] at hl ⊢
  clear hP hs hC h0
  unfold fptr
  go_enter Tryz.func101, Tryz.ntmps101
  go_wp2_with fail
  go_loopg [1, 7] m (fun g v1 v7 w1 => Hid (EaI N P m g v1 v7 w1))
  case atStart => exact HS0
  case round =>
    obtain ⟨r, n', k, hr, hk, rfl, rfl, hC, hp⟩ := hrel.out
    cases r with
    | nil =>
      have hn : n' = 0 := hC
      subst hn
      have hg : k = m := by simp at hr; omega
      have HG : Hid (k = m) := hg
      have HPN : Hid (P [] wr) := hp
      clear hC hp hrel hr hk hg
      go_wp2_with fail
      go_ret
      exact ⟨by rw [HG.out]; rfl, HPN.out⟩
    | cons x r =>
      obtain ⟨rfl, hx0, hC2⟩ := hC
      obtain ⟨hxl, CL⟩ := HS.out n' r wr hp
      have HC2 : Hid (Chain N (N.getD n' nd0).next r) := hC2
      have e1 : decide (n' = 0) = false := decide_eq_false hx0
      have e2 : ((n' : Int) == 0) = false := by simp; exact hx0
      have e3 : ((n' : Int) != 0) = true := by simp; exact hx0
      obtain ⟨g', HG'⟩ : ∃ g', Hid (gk = g' + 1) := ⟨r.length, by show gk = _; simp at hr; omega⟩
      have HRL : Hid (r.length = g') := by show _ = _; have := HG'.out; simp at hr; omega
      clear hC2 hp hrel hr
      have hNl : 0 < N.length := by omega
      obtain ⟨nx, HNX⟩ : ∃ nx : Nat, Hid ((N.getD n' nd0).next = nx) := ⟨_, rfl⟩
      go_wp2_with (go_at_call 275; refine CL.mono ?_; rintro e w2 ⟨rfl, hp2⟩; have HP2 : Hid (P r w2) := hp2; obtain ⟨o2, c2, R2, hf2⟩ := HP.out r w2 hp2; obtain ⟨g1, ha, ⟨q1, q2, q3, q4, q5, q6, q7⟩⟩ := R2.nd hf2 hNl; have q8 := q7 n' 4 hxl (by omega); simp only [ndV, List.getElem?_cons_succ, List.getElem?_cons_zero, HNX.out] at q8; clear hp2 R2 hf2 q7 ha)
      go_roundg g'
      case measure => have := HG'.out; omega
      case rel =>
        have hg' := HG'.out
        refine ⟨r, nx, k + 1, HRL.out, by omega, rfl, by simp, ?_, HP2.out⟩
        rw [← HNX.out]
        exact HC2.out
theorem each_item {u1 u2 : Value} (P : List Nat → World → Prop) (hP : ∀ r w, P r w → ∃ o c, CRep w o C N c ∧ f < c.np) (hs : ∀ x r w, P (x :: r) w → x < N.length ∧ Calls Tryz.prog 235 #[.int .i64 x, u1, u2] w fun e w' => e = .returned (.tuple #[]) ∧ P r w') (l : List Nat) (n : Nat) (hC : Chain N n l) (hl : l.length ≤ 3000) (h0 : P l w) :
    Calls Tryz.prog 101 #[fptr C.gF f, .int .i64 n, .func (.func 235) #[] #[u1, u2]] w fun e w' => e = .returned (.int .i64 l.length) ∧ P [] w' := by
  obtain ⟨m, HM⟩ : ∃ m : Nat, Hid (l.length = m) := ⟨_, rfl⟩
  have HS0 : Hid (EaI N P m m (.int .i64 n) (.int .i64 0) w) := ⟨l, n, 0, HM.out, by omega, rfl, rfl, hC, h0⟩
  have HP : Hid (∀ r w, P r w → ∃ o c, CRep w o C N c ∧ f < c.np) := hP
  have HS : Hid (∀ x r w, P (x :: r) w → x < N.length ∧ Calls Tryz.prog 235 #[.int .i64 x, u1, u2] w fun e w' => e = .returned (.tuple #[]) ∧ P r w') := hs
  rw [HM.out] at hl ⊢
  clear hP hs hC h0
  unfold fptr
  go_enter Tryz.func101, Tryz.ntmps101
  go_wp2_with fail
  go_loopg [1, 7] m (fun g v1 v7 w1 => Hid (EaI N P m g v1 v7 w1))
  case atStart => exact HS0
  case round =>
    obtain ⟨r, n', k, hr, hk, rfl, rfl, hC, hp⟩ := hrel.out
    cases r with
    | nil =>
      have hn : n' = 0 := hC
      subst hn
      have hg : k = m := by simp at hr; omega
      have HG : Hid (k = m) := hg
      have HPN : Hid (P [] wr) := hp
      clear hC hp hrel hr hk hg
      go_wp2_with fail
      go_ret
      exact ⟨by rw [HG.out]; rfl, HPN.out⟩
    | cons x r =>
      obtain ⟨rfl, hx0, hC2⟩ := hC
      obtain ⟨hxl, CL⟩ := HS.out n' r wr hp
      have HC2 : Hid (Chain N (N.getD n' nd0).next r) := hC2
      have e1 : decide (n' = 0) = false := decide_eq_false hx0
      have e2 : ((n' : Int) == 0) = false := by simp; exact hx0
      have e3 : ((n' : Int) != 0) = true := by simp; exact hx0
      obtain ⟨g', HG'⟩ : ∃ g', Hid (gk = g' + 1) := ⟨r.length, by show gk = _; simp at hr; omega⟩
      have HRL : Hid (r.length = g') := by show _ = _; have := HG'.out; simp at hr; omega
      clear hC2 hp hrel hr
      have hNl : 0 < N.length := by omega
      obtain ⟨nx, HNX⟩ : ∃ nx : Nat, Hid ((N.getD n' nd0).next = nx) := ⟨_, rfl⟩
      go_wp2_with (go_at_call 235; refine CL.mono ?_; rintro e w2 ⟨rfl, hp2⟩; have HP2 : Hid (P r w2) := hp2; obtain ⟨o2, c2, R2, hf2⟩ := HP.out r w2 hp2; obtain ⟨g1, ha, ⟨q1, q2, q3, q4, q5, q6, q7⟩⟩ := R2.nd hf2 hNl; have q8 := q7 n' 4 hxl (by omega); simp only [ndV, List.getElem?_cons_succ, List.getElem?_cons_zero, HNX.out] at q8; clear hp2 R2 hf2 q7 ha)
      go_roundg g'
      case measure => have := HG'.out; omega
      case rel =>
        have hg' := HG'.out
        refine ⟨r, nx, k + 1, HRL.out, by omega, rfl, by simp, ?_, HP2.out⟩
        rw [← HNX.out]
        exact HC2.out
end
end Go.Proofs.Qxb6500574aGreatDoor
