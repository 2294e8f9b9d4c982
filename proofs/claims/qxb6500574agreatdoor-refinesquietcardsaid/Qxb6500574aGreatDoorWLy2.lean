/-
  THE WALK of comp: lay: the upvalues' descriptors.
-/
import Derived.Test.Qxb6500574aGreatDoorWLy1
namespace Go.Proofs.Qxb6500574aGreatDoor
open Go Go.RowKit
set_option linter.unusedVariables false
set_option linter.unusedSimpArgs false
open Go.Lib
def upB (d : Nat × Nat) : Bs := [byteN d.1, byteN d.2]
theorem flatMap_len2 {α : Type} (u : α → Bs) (k : Nat) (h : ∀ x, (u x).length = k) : ∀ l : List α, (l.flatMap u).length = k * l.length := by
  intro l
  induction l with
  | nil => rfl
  | cons x l ih => rw [List.flatMap_cons, List.length_append, h, ih, List.length_cons]; rw [Nat.mul_succ]; omega
/-- at a round's head: g descriptors are to come -/
def UpI (w : World) (o : Nat → Nat) (C : CC) (N : List Nd) (c : CmD) (ups : List (Nat × Nat)) (g : Nat) (v : Value) (w1 : World) : Prop :=
  ∃ j : Nat, j + g = ups.length ∧ v = .int .i64 j ∧ LyI w o C N c ((ups.take j).flatMap upB) w1
section
set_option maxRecDepth 100000
set_option maxHeartbeats 1000000
variable {w : World} {o : Nat → Nat} {C : CC} {N : List Nd} {c : CmD} {x np : Nat}
theorem ups_w (R : CRep w o C N c) (hx : x < c.np) (hu : ∀ d ∈ (c.fn x).ups, d.1 < 256 ∧ d.2 < 256) (hl : C.bl.length + 2 * (c.fn x).ups.length ≤ 900000) {a : Act} (ha : Fr41 C.cb C.gF x np a) {K : Act → World → Prop} {Q : Exit → Act → World → Prop} (hK : ∀ a' w', Fr41 C.cb C.gF x np a' → LyI w o C N c ((c.fn x).ups.flatMap upB) w' → K a' w') :
    (lyU Tryz.f41.body).wp Tryz.prog (Exit.then K Q) a w := by
  obtain ⟨xs, L, F⟩ := R.fn hx
  have c5 := F.cell 5 (by omega)
  have fl := F.lt
  simp only [fnV, List.getElem?_cons_succ, List.getElem?_cons_zero, Sl.v] at c5
  obtain ⟨u, rfl⟩ := ha.form
  have HF : Hid (FnAt w o C c x xs L) := F
  have HU : Hid (∀ d ∈ (c.fn x).ups, d.1 < 256 ∧ d.2 < 256) := hu
  have HK : Hid (∀ a' w', Fr41 C.cb C.gF x np a' → LyI w o C N c ((c.fn x).ups.flatMap upB) w' → K a' w') := hK
  obtain ⟨ups, HUPS⟩ : ∃ ups, Hid ((c.fn x).ups = ups) := ⟨_, rfl⟩
  have HRU : Hid (Row w o (labF x 1) 135 2 L.up ups.length (ups.flatMap dCells)) := by rw [← HUPS.out]; exact F.one.up
  rw [HUPS.out] at c5 hl HU HK
  obtain ⟨n, HN⟩ : ∃ n : Nat, Hid (ups.length = n) := ⟨_, rfl⟩
  obtain ⟨ua, HUA⟩ : ∃ ua, Hid (L.up.a = ua) := ⟨_, rfl⟩
  rw [HN.out, HUA.out] at c5
  rw [HN.out] at hl
  have HI0 : Hid (UpI w o C N c ups n (.int .i64 0) w) := ⟨0, by rw [HN.out]; omega, rfl, o, C.bf, by simp only [List.take_zero, List.flatMap_nil, List.append_nil]; exact R, Stp.refl _ _ _⟩
  clear R F hu hK ha
  simp only [lyU, lyY, codeL, codeR, codeIn, Tryz.f41, Option.getD_some]
  go_wp2_with fail
  go_loopg [65] n (fun g v65 w1 => Hid (UpI w o C N c ups g v65 w1))
  case atStart => exact HI0
  case round =>
    obtain ⟨j, hj, rfl, hI⟩ := hrel.out
    rw [HN.out] at hj
    have HI : Hid (LyI w o C N c ((ups.take j).flatMap upB) wr) := hI
    clear hI hrel
    by_cases hjn : j < n
    · have hj' : (j : Int) < (n : Int) := by omega
      obtain ⟨d, hd⟩ : ∃ d, ups[j]? = some d := ⟨_, List.getElem?_eq_getElem (by rw [HN.out]; exact hjn)⟩
      have hd2 := HU.out d (List.mem_of_getElem? hd)
      obtain ⟨o1, s1, R1, S1⟩ := HI.out
      obtain ⟨gU, e1, e2, e3, e4, e5, e6⟩ := (HRU.out.st S1 (by unfold QP labF; omega)).at dCells_len hd
      have k0 := e5 0 (by omega)
      have k1 := e5 1 (by omega)
      simp only [dCells, List.getElem?_cons_succ, List.getElem?_cons_zero, Nat.add_zero] at k0 k1
      rw [HN.out] at e2
      have hua : ua = some ⟨gU, 0, none⟩ := HUA.out.symm.trans e1
      subst hua
      have HD : Hid (ups[j]? = some d) := hd
      clear e1 e3 e5 e6 hd R1 S1
      obtain ⟨g', HG'⟩ : ∃ g', Hid (gk = g' + 1) := ⟨gk - 1, by show _ = _; omega⟩
      have HJ : Hid (j + gk = n) := hj
      have HP := HI.out.put (upB d) (kb := wr.heap.size) (m := 2) (cap := 2) (b := .cells #[.int .u8 d.1, .int .u8 d.2] 135) rfl (by
        have := Has.new wr #[.int .u8 (d.1 : Nat), .int .u8 (d.2 : Nat)] 135
        unfold upB
        rw [List.flatMap_cons, List.flatMap_cons, List.flatMap_nil, byteN_low hd2.1, byteN_low hd2.2]
        exact this) rfl (by omega) (by
        have h2 : ((ups.take j).flatMap upB).length = 2 * j := by
          rw [flatMap_len2 upB 2 (fun _ => rfl), List.length_take, HN.out, Nat.min_eq_left (by omega)]
        rw [h2]
        omega)
      have HT : Hid ((ups.take (j + 1)).flatMap upB = (ups.take j).flatMap upB ++ upB d) := by
        show _ = _
        rw [List.take_add_one, HD.out]
        simp
      clear hj hd2
      go_wp2_with fail
      refine HP.mono ?_
      rintro e1 w2 ⟨rfl, I2⟩
      have HI2 : Hid (LyI w o C N c ((ups.take (j + 1)).flatMap upB) w2) := by rw [HT.out]; exact I2
      clear I2 HP
      go_wp2_with fail
      go_roundg g'
      case measure => have := HG'.out; omega
      case rel => exact ⟨j + 1, by have h1 := HJ.out; have h2 := HG'.out; rw [HN.out]; omega, by simp, HI2.out⟩
    · have hj' : ¬ (j : Int) < (n : Int) := by omega
      have hjj : j = n := by omega
      go_wp2_with fail
      refine HK.out _ _ ⟨by kernel_rfl, by kernel_rfl, by kernel_rfl, by kernel_rfl, by kernel_rfl, rfl⟩ ?_
      have := HI.out
      rw [hjj, ← HN.out, List.take_length] at this
      exact this
end
end Go.Proofs.Qxb6500574aGreatDoor
