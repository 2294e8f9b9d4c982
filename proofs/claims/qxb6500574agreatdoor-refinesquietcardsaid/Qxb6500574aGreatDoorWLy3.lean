/-
  THE WALK of comp: lay: the code.
-/
import Derived.Test.Qxb6500574aGreatDoorWLy2
namespace Go.Proofs.Qxb6500574aGreatDoor
open Go Go.RowKit
set_option linter.unusedVariables false
set_option linter.unusedSimpArgs false
open Go.Lib
def inB (i : Nat × Nat) : Bs := byteN i.1 :: put16 i.2
/-- at a round's head: g instructions are to come -/
def CdI (w : World) (o : Nat → Nat) (C : CC) (N : List Nd) (c : CmD) (cds : List In) (g : Nat) (v : Value) (w1 : World) : Prop :=
  ∃ j : Nat, j + g = cds.length ∧ v = .int .i64 j ∧ LyI w o C N c ((cds.take j).flatMap inB) w1
section
set_option maxRecDepth 100000
set_option maxHeartbeats 1000000
variable {w : World} {o : Nat → Nat} {C : CC} {N : List Nd} {c : CmD} {x np : Nat}
theorem code_w (R : CRep w o C N c) (hx : x < c.np) (hu : ∀ d ∈ (c.fn x).code, d.1 < 256 ∧ d.2 < 65536) (hl : C.bl.length + 3 * (c.fn x).code.length ≤ 900000) {a : Act} (ha : Fr41 C.cb C.gF x np a) {K : Act → World → Prop} {Q : Exit → Act → World → Prop} (hK : ∀ a' w', Fr41 C.cb C.gF x np a' → LyI w o C N c ((c.fn x).code.flatMap inB) w' → K a' w') :
    (lyD Tryz.f41.body).wp Tryz.prog (Exit.then K Q) a w := by
  obtain ⟨xs, L, F⟩ := R.fn hx
  have c5 := F.cell 9 (by omega)
  have fl := F.lt
  simp only [fnV, List.getElem?_cons_succ, List.getElem?_cons_zero, Sl.v] at c5
  obtain ⟨u, rfl⟩ := ha.form
  have HF : Hid (FnAt w o C c x xs L) := F
  have HU : Hid (∀ d ∈ (c.fn x).code, d.1 < 256 ∧ d.2 < 65536) := hu
  have HK : Hid (∀ a' w', Fr41 C.cb C.gF x np a' → LyI w o C N c ((c.fn x).code.flatMap inB) w' → K a' w') := hK
  obtain ⟨cds, HUPS⟩ : ∃ cds, Hid ((c.fn x).code = cds) := ⟨_, rfl⟩
  have HRU : Hid (Row w o (labF x 5) 105 2 L.cd cds.length (cds.flatMap iCells)) := by rw [← HUPS.out]; exact F.one.cd
  rw [HUPS.out] at c5 hl HU HK
  obtain ⟨n, HN⟩ : ∃ n : Nat, Hid (cds.length = n) := ⟨_, rfl⟩
  obtain ⟨ua, HUA⟩ : ∃ ua, Hid (L.cd.a = ua) := ⟨_, rfl⟩
  rw [HN.out, HUA.out] at c5
  rw [HN.out] at hl
  have HI0 : Hid (CdI w o C N c cds n (.int .i64 0) w) := ⟨0, by rw [HN.out]; omega, rfl, o, C.bf, by simp only [List.take_zero, List.flatMap_nil, List.append_nil]; exact R, Stp.refl _ _ _⟩
  clear R F hu hK ha
  simp only [lyD, lyY, codeL, codeR, codeIn, Tryz.f41, Option.getD_some]
  go_wp2_with fail
  go_loopg [138] n (fun g v138 w1 => Hid (CdI w o C N c cds g v138 w1))
  case atStart => exact HI0
  case round =>
    obtain ⟨j, hj, rfl, hI⟩ := hrel.out
    rw [HN.out] at hj
    have HI : Hid (LyI w o C N c ((cds.take j).flatMap inB) wr) := hI
    clear hI hrel
    by_cases hjn : j < n
    · have hj' : (j : Int) < (n : Int) := by omega
      obtain ⟨d, hd⟩ : ∃ d, cds[j]? = some d := ⟨_, List.getElem?_eq_getElem (by rw [HN.out]; exact hjn)⟩
      have hd2 := HU.out d (List.mem_of_getElem? hd)
      obtain ⟨o1, s1, R1, S1⟩ := HI.out
      obtain ⟨gU, e1, e2, e3, e4, e5, e6⟩ := (HRU.out.st S1 (by unfold QP labF; omega)).at iCells_len hd
      have k0 := e5 0 (by omega)
      have k1 := e5 1 (by omega)
      simp only [iCells, List.getElem?_cons_succ, List.getElem?_cons_zero, Nat.add_zero] at k0 k1
      rw [HN.out] at e2
      have hua : ua = some ⟨gU, 0, none⟩ := HUA.out.symm.trans e1
      subst hua
      have HD : Hid (cds[j]? = some d) := hd
      clear e1 e3 e5 e6 hd R1 S1
      obtain ⟨g', HG'⟩ : ∃ g', Hid (gk = g' + 1) := ⟨gk - 1, by show _ = _; omega⟩
      have HJ : Hid (j + gk = n) := hj
      obtain ⟨op, ix⟩ := d
      simp only at hd2 k0 k1
      obtain ⟨hop, hix⟩ := hd2
      have I1 : LyI w o C N c ((cds.take j).flatMap inB) (wr.alloc (.cells #[.int .u8 op, .int .u16 ix] 105)) := by
        obtain ⟨o3, s3, R3, S3⟩ := HI.out
        exact ⟨o3, s3, R3.alloc _, S3.alloc _⟩
      have HP := I1.put (inB (op, ix)) (kb := wr.heap.size + 1) (m := 3) (cap := 3) (b := .cells #[.int .u8 op, .int .u8 ((ix : Int) % 256), .int .u8 ((ix : Int) / 256)] 5) (by simp) (by
        have := Has.new (wr.alloc (.cells #[.int .u8 op, .int .u16 ix] 105)) #[.int .u8 (op : Nat), .int .u8 ((ix : Int) % 256), .int .u8 ((ix : Int) / 256)] 5
        unfold inB
        simp only
        rw [List.flatMap_cons, put16_cells hix, byteN_low hop]
        exact this) rfl (by omega) (by
        have h2 : ((cds.take j).flatMap inB).length = 3 * j := by
          rw [flatMap_len2 inB 3 (fun _ => rfl), List.length_take, HN.out, Nat.min_eq_left (by omega)]
        rw [h2]
        omega)
      have HT : Hid ((cds.take (j + 1)).flatMap inB = (cds.take j).flatMap inB ++ inB (op, ix)) := by
        show _ = _
        rw [List.take_add_one, HD.out]
        simp
      clear hj I1
      go_wp2_with fail
      refine HP.mono ?_
      rintro e1 w2 ⟨rfl, I2⟩
      have HI2 : Hid (LyI w o C N c ((cds.take (j + 1)).flatMap inB) w2) := by rw [HT.out]; exact I2
      clear I2 HP
      go_wp2_with fail
      go_roundg g'
      case measure => have := HG'.out; omega
      case rel => exact ⟨j + 1, by have h1 := HJ.out; have h2 := HG'.out; rw [HN.out]; omega, by simp, HI2.out⟩
    · have hj' : ¬ (j : Int) < (n : Int) := by omega
      have hjj : j = n := by omega
      go_wp2_with fail
      refine HK.out _ _ ⟨by kernel_rfl, by kernel_rfl, by kernel_rfl, by kernel_rfl, by kernel_rfl, rfl⟩ ?_
      have := HI.out
      rw [hjj, ← HN.out, List.take_length] at this
      exact this
end
end Go.Proofs.Qxb6500574aGreatDoor
