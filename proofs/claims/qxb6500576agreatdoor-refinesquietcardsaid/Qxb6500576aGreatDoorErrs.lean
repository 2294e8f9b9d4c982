/-
  THE WALKS of the errors: Errno.Error, prep.Error.Error, api.Tell, preplaw.Fault.
-/
import Derived.Test.Qxb6500576aGreatDoorAeErr
import Derived.Test.Qxb6500576aGreatDoorNum
import Derived.Test.Qxb6500576aGreatDoorReg2
import Derived.Test.Qxb6500576aGreatDoorDoNew
namespace Go.Proofs.Qxb6500576aGreatDoor
open Go Go.RowKit
set_option linter.unusedVariables false
set_option linter.unusedSimpArgs false
open Go.Extern.Stop Go.Stop Go.Extern

set_option maxRecDepth 100000 in
set_option maxHeartbeats 2000000 in
theorem errno_any (n : Int) (hn : n = 5 ∨ n = 6 ∨ n = 7) (w : World) :
    Calls Tryz.prog 113 #[.int .i64 n] w fun e w' => (∃ t : List UInt8, e = .returned (sv t) ∧ t.length ≤ 30) ∧ Fr (fun _ => False) w w' := by
  rcases hn with rfl | rfl | rfl
  · go_enter Tryz.func113, Tryz.ntmps113
    go_wp2
    go_ret
    exact ⟨⟨[98, 97, 100, 32, 105, 110, 100, 101, 120], rfl, by decide⟩, (Fr.refl _ _).alloc _⟩
  · go_enter Tryz.func113, Tryz.ntmps113
    go_wp2
    go_ret
    exact ⟨⟨[105, 108, 108, 45, 116, 121, 112, 101, 100], rfl, by decide⟩, (Fr.refl _ _).alloc _⟩
  · go_enter Tryz.func113, Tryz.ntmps113
    go_wp2
    go_ret
    exact ⟨⟨[98, 97, 100, 32, 97, 114, 103, 117, 109, 101, 110, 116], rfl, by decide⟩, (Fr.refl _ _).alloc _⟩

theorem Er.methodError (v : Value) (w : World) : (Go.method 308 39 v "Error").run Tryz.prog w = .ok (113, v) w := by kernel_rfl

structure ErrAt (w : World) (be : Nat) (f at_ n : Int) : Prop where
  here : Has w be #[.int .i64 f, .int .i64 at_, .iface 39 (.int .i64 n)] 62
  code : n = 5 ∨ n = 6 ∨ n = 7

def prepText : List UInt8 := [112, 114, 101, 112, 58, 32, 102, 117, 110, 99, 116, 105, 111, 110, 32]
set_option maxRecDepth 100000 in
set_option maxHeartbeats 2000000 in
theorem errText_any (be : Nat) (f at_ n : Int) (w : World) (h : ErrAt w be f at_ n) :
    Calls Tryz.prog 66 #[.pointer (some ⟨be, 0, none⟩)] w fun e w' => (∃ t : List UInt8, e = .returned (sv t) ∧ t ≠ []) ∧ Fr (fun _ => False) w w' := by
  have c0 := h.here.cell 0
  simp at c0
  have HM : Hid (∀ v w, _) := Er.methodError
  have H : Hid (ErrAt w be f at_ n) := h
  have H1 : Hid (Calls _ _ _ _ _) := num_any prepText f w (by decide)
  have hlf := numT_len f
  have hla := numT_len at_
  clear h
  go_enter Tryz.func66, Tryz.ntmps66
  go_wp2_with fail
  refine H1.out.mono ?_
  rintro e w1 ⟨rfl, hF1⟩
  have k1 : Has w1 be _ _ := H.out.here.fr hF1 (fun h => h)
  have d1 := k1.cell 1
  have d2 := k1.cell 2
  simp at d1 d2
  have HK1 : Hid (Has w1 be _ _) := k1
  have HF1 : Hid (Fr (fun _ => False) w w1) := hF1
  obtain ⟨X, hX, hXl, hXn⟩ : ∃ X, X = prepText ++ numT f ∧ X.length ≤ 100 ∧ X ≠ [] := ⟨_, rfl, by simp [prepText]; omega, by simp [prepText]⟩
  rw [← hX]
  have H2 : Hid (Calls _ _ _ _ _) := num_any (X ++ [97, 116, 32]) at_ w1 (by simp; omega)
  have e2 : ((⟨X.toArray⟩ : ByteArray) ++ ⟨#[97, 116, 32]⟩) = ⟨(X ++ [97, 116, 32]).toArray⟩ := ba_app X [97, 116, 32]
  clear k1 hF1 H1 hX
  go_wp2_with fail
  refine H2.out.mono ?_
  rintro e w2 ⟨rfl, hF2⟩
  have k2 : Has w2 be _ _ := HK1.out.fr hF2 (fun h => h)
  have b2 := k2.cell 2
  simp at b2
  have HF2 : Hid (Fr (fun _ => False) w w2) := HF1.out.trans hF2 (fun _ _ h => h)
  obtain ⟨Y, hY, hYl, hYn⟩ : ∃ Y, Y = X ++ [97, 116, 32] ++ numT at_ ∧ Y.length ≤ 200 ∧ Y ≠ [] := ⟨_, rfl, by simp; omega, by simp⟩
  rw [← hY]
  have H3 : Hid (Calls _ _ _ _ _) := errno_any n H.out.code w2
  have hm := HM.out
  clear k2 hF2 H2 hY d1 d2
  go_wp2_with fail
  refine H3.out.mono ?_
  rintro e w3 ⟨⟨T, rfl, hT⟩, hF3⟩
  have HF3 : Hid (Fr (fun _ => False) w w3) := HF2.out.trans hF3 (fun _ _ h => h)
  clear hF3 H3
  go_wp2
  go_ret
  refine ⟨⟨Y ++ T, ?_, by simp [hYn]⟩, HF3.out⟩
  show Ending.returned (Value.string (_ ++ _)) = _
  rw [ba_app]

/-- errors.As at an *Errno: api.Tell -/
theorem tell_any (be : Nat) (f at_ n : Int) (w : World) (h : ErrAt w be f at_ n) (hg : w.cell? ⟨0, 0, none⟩ = some (.iface 167 (.agg #[.pointer (some ⟨1, 31, none⟩)]))) :
    Calls Tryz.prog 67 #[.iface 60 (.pointer (some ⟨be, 0, none⟩))] w fun e w' => e = .returned (.int .i64 n) ∧ Fr (fun _ => False) w w' := by
  have hb := h.here.lt
  have hlt : 0 < w.heap.size := by omega
  have hA := as_chain be ⟨w.heap.size, 0, none⟩ (.int .i64 0) f at_ n (w.alloc (.cells #[.int .i64 0] 39)) (by rw [World.cell?_alloc_lt _ _ ⟨0, 0, none⟩ hlt]; exact hg) (by rw [(Has.new w _ _).cell]; rfl) ((Has.new w _ _).frozen 0) (h.here.alloc _)
  have HA : Hid (Calls _ _ _ _ _) := hA
  have hn : (n != 0) = true := by rcases h.code with rfl | rfl | rfl <;> rfl
  clear hA h
  go_enter Tryz.func67, Tryz.ntmps67
  go_wp2_with fail
  refine HA.out.mono ?_
  rintro e w1 ⟨rfl, hF1, c1⟩
  have HF1 : Hid (Fr (fun _ => False) w w1) := ((Fr.refl (fun _ => False) w).alloc _).trans hF1 (fun j hj e => by have : j = w.heap.size := e; omega)
  clear hF1 HA
  go_wp2
  go_ret
  exact ⟨rfl, HF1.out⟩
end Go.Proofs.Qxb6500576aGreatDoor
