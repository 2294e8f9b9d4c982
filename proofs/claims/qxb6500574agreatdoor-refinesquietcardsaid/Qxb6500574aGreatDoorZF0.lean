/-
  THE WALKS of compm: apply, whole.
-/
import Derived.Test.Qxb6500574aGreatDoorZC29
import Derived.Test.Qxb6500574aGreatDoorZC33
import Derived.Test.Qxb6500574aGreatDoorZC34
import Derived.Test.Qxb6500574aGreatDoorZC35
import Derived.Test.Qxb6500574aGreatDoorZC36
import Derived.Test.Qxb6500574aGreatDoorZE1
namespace Go.Proofs.Qxb6500574aGreatDoor
open Go Go.RowKit
set_option linter.unusedVariables false
set_option linter.unusedSimpArgs false
section
variable {w W W1 : World} {A A1 A2 : RnP} {N : List Nd} {root : Nat} {M : MD} {k : TkD} {r : List TkD}
theorem well6 {v : Vl} (h : wellV v = true) (h6 : v.t = 6) : 1 ≤ v.n ∧ v.n ≤ 11 := by
  unfold wellV at h
  rw [h6] at h
  rw [if_neg (by decide)] at h
  split at h
  · cases h
  · rw [if_neg (by decide), if_neg (by decide), if_pos rfl] at h
    simpa using h
set_option maxHeartbeats 1000000
/-- at the builtins -/
theorem ap_all {m : MD} {bA bF xb ba bb bp bq : Nat} {fn : Vl} {args : List Vl} {a : Act} (P : ApC w A N root W A1 m bA bF xb ba bb bp bq fn args) (K : ApOk N m fn args) (h4 : m.th.st = 4) (h6 : fn.t = 6) (H : FrAq (.pointer (some ⟨A.br, 0, none⟩)) (.pointer (some ⟨xb, 0, none⟩)) (.pointer (some ⟨bA, 0, none⟩)) (.pointer (some ⟨bF, 0, none⟩)) (.pointer (some ⟨ba, 0, none⟩)) (.pointer (some ⟨bb, 0, none⟩)) (.pointer (some ⟨bp, 0, none⟩)) (.pointer (some ⟨bq, 0, none⟩)) a) :
    (apB Tryz.f126.body).wp Tryz.prog (bodyPost Tryz.prog Tryz.f126 (PQm w A N root (aplC N root m fn args))) a W := by
  have wl := well6 K.fnV.w h6
  unfold aplC
  dsimp only
  rw [if_neg (by omega), if_neg (fun z => z h6)]
  by_cases n1 : fn.n = 1
  · rw [if_pos n1]
    by_cases hl : m.out.length + (textV (args.getD 0 nilV)).length + 1 > 200
    · rw [if_pos hl]
      exact ap_b1a P K H n1 hl
    · rw [if_neg hl]
      exact ap_b1b P K H n1 hl
  rw [if_neg n1]
  by_cases n2 : fn.n = 2
  · rw [if_pos n2]
    exact ap_b2 P K H n2
  rw [if_neg n2]
  by_cases n3 : fn.n = 3
  · rw [if_pos n3]
    by_cases t2 : (args.getD 0 nilV).t = 2
    · rw [if_pos t2]
      exact ap_b3a P K H n3 t2
    rw [if_neg t2]
    by_cases t3 : (args.getD 0 nilV).t = 3
    · rw [if_pos t3]
      cases hp : parseN (args.getD 0 nilV).s with
      | some z => exact ap_b3c P K H n3 t3 hp
      | none => exact ap_b3d P K H n3 t3 hp
    rw [if_neg t3]
    exact ap_b3b P K H n3 t2 t3
  rw [if_neg n3]
  by_cases n4 : fn.n = 4
  · rw [if_pos n4]
    exact ap_b4 P K H n4
  rw [if_neg n4]
  by_cases n5 : fn.n = 5
  · rw [if_pos n5]
    exact ap_b5 P K H n5
  rw [if_neg n5]
  by_cases n6 : fn.n = 6
  · rw [if_pos n6]
    by_cases t5 : (args.getD 0 nilV).t = 5
    · rw [if_neg (fun z => z t5)]
      by_cases d8 : m.th.depth ≥ 8
      · rw [if_pos d8]
        exact ap_b6b P K H n6 t5 d8
      · rw [if_neg d8]
        exact ap_b6c P K H n6 t5 (by omega)
    · rw [if_pos t5]
      exact ap_b6a P K H n6 t5
  rw [if_neg n6]
  by_cases n7 : fn.n = 7
  · rw [if_pos n7]
    by_cases t4 : (args.getD 0 nilV).t = 4
    · rw [if_neg (fun z => z t4)]
      cases hx : (m.tabs.getD (args.getD 0 nilV).n tab0).next (args.getD 1 nilV) with
      | none => exact ap_b7b P K H n7 t4 hx
      | some e => exact ap_b7c P K H n7 t4 hx
    · rw [if_pos t4]
      exact ap_b7a P K H n7 t4
  rw [if_neg n7]
  by_cases n8 : fn.n = 8
  · rw [if_pos n8]
    by_cases t5 : (args.getD 0 nilV).t = 5
    · rw [if_neg (fun z => z t5)]
      by_cases d8 : m.ths.length ≥ 5
      · rw [if_pos d8]
        exact ap_b8b P K H n8 t5 d8
      · rw [if_neg d8]
        exact ap_b8c P K H n8 t5 (by omega)
    · rw [if_pos t5]
      exact ap_b8a P K H n8 t5
  rw [if_neg n8]
  by_cases n9 : fn.n = 9
  · rw [if_pos n9]
    by_cases t7 : (args.getD 0 nilV).t = 7
    · rw [if_neg (fun z => z t7)]
      by_cases s1 : (m.ths.getD (args.getD 0 nilV).n mt0).st = 1
      · rw [if_neg (fun z => z.1 s1), if_pos s1]
        refine ap_b9d P K H n9 t7 s1 (fun e => ?_)
        rw [e] at s1
        have s1 : m.th.st = 1 := s1
        omega
      · by_cases s2 : (m.ths.getD (args.getD 0 nilV).n mt0).st = 2
        · rw [if_neg (fun z => z.2 s2), if_neg s1]
          refine ap_b9c P K H n9 t7 s2 (fun e => ?_)
          rw [e] at s2
          have s2 : m.th.st = 2 := s2
          omega
        · rw [if_pos ⟨s1, s2⟩]
          exact ap_b9b P K H n9 t7 ⟨s1, s2⟩
    · rw [if_pos t7]
      exact ap_b9a P K H n9 t7
  rw [if_neg n9]
  by_cases n10 : fn.n = 10
  · rw [if_pos n10]
    by_cases c0 : m.cur = 0
    · rw [if_pos c0]
      exact ap_b10a P K H n10 c0
    · rw [if_neg c0]
      cases hs : m.stack with
      | nil => exact absurd hs (K.y c0)
      | cons c l => exact ap_b10b P K H n10 c0 hs
  rw [if_neg n10]
  have n11 : fn.n = 11 := by omega
  rw [if_pos n11]
  by_cases t7 : (args.getD 0 nilV).t = 7
  · rw [if_neg (fun z => z t7)]
    exact ap_b11b P K H n11 t7
  · rw [if_pos t7]
    exact ap_b11a P K H n11 t7
theorem apply_m (h : MA N root M) (Z : NZ N) (hk : M.th.tasks = k :: r) (h22 : k.k = 22) (B : RB w A N root W A1 (M.cut r)) :
    Calls Tryz.prog 126 #[.pointer (some ⟨A.br, 0, none⟩), .int .i64 (k.x : Nat)] W (PQm w A N root ((M.cut r).apply N root k.x)) := by
  have hcv : (M.cut r).th.vals = M.th.vals := by rw [cut_th h.i.cl r]
  cases hf : M.fuel with
  | zero =>
    have e : (M.cut r).apply N root k.x = (M.cut r).finish 9 [45] := by
      unfold MD.apply MD.burn
      exact if_pos hf
    rw [e]
    exact apply_no B hf
  | succ f =>
    have K := h.apOk Z hk h22 hf
    have x3 := (h.tk hk).1.x2 h22
    have a1 : (ar k).1 = k.x + 1 := by unfold ar; rw [h22]; rfl
    have g1 := (h.hk hk (by omega) (by omega)).1
    have vl := h.vl Z
    have e : (M.cut r).apply N root k.x = aplC N root (({ (M.cut r) with fuel := f } : MD).pops (k.x + 1)) ((M.cut r).th.vals.getD ((M.cut r).th.vals.length - k.x - 1) nilV) ((M.cut r).th.vals.drop ((M.cut r).th.vals.length - k.x)) := by
      unfold MD.apply MD.burn
      have hf2 : (M.cut r).fuel = f + 1 := hf
      rw [if_neg (by omega), hf2]
      rfl
    have h4 : (({ (M.cut r) with fuel := f } : MD).pops (k.x + 1)).th.st = 4 := by
      show ((M.cut r).pops (k.x + 1)).th.st = 4
      rw [cutp_th h.i.cl]
      exact h.i.st
    rw [e]
    refine apply_head B (f := f) hf (by have := h.u.fu; omega) x3 (by rw [hcv]; omega) (by rw [hcv]; omega) ?_
    intro W1 A2 bA bF xb a P H
    have hxa : ((M.cut r).th.vals.drop ((M.cut r).th.vals.length - k.x)).length = k.x := by rw [List.length_drop, hcv]; omega
    clear e g1 a1
    generalize (({ (M.cut r) with fuel := f } : MD).pops (k.x + 1)) = m at *
    generalize (M.cut r).th.vals.getD ((M.cut r).th.vals.length - k.x - 1) nilV = fn at *
    generalize (M.cut r).th.vals.drop ((M.cut r).th.vals.length - k.x) = args at *
    by_cases h5 : fn.t = 5
    · have e5 : aplC N root m fn args = if m.th.depth ≥ 8 then m.raise mDepth else m.enter N root fn.n args 0 := by
        unfold aplC
        exact if_pos h5
      rw [e5]
      by_cases d8 : m.th.depth ≥ 8
      · rw [if_pos d8]
        exact ap_deep P K H h5 d8
      · rw [if_neg d8]
        exact ap_fun P K hxa H h5 (by omega)
    by_cases h6 : fn.t = 6
    · exact ap_in P h6 H (fun W1 ba bb bp bq a P2 H2 => ap_all P2 K h4 h6 H2)
    · have e5 : aplC N root m fn args = m.raise mCall := by
        unfold aplC
        dsimp only
        rw [if_neg h5, if_pos h6]
      rw [e5]
      exact ap_call P K H h5 h6
end
end Go.Proofs.Qxb6500574aGreatDoor
