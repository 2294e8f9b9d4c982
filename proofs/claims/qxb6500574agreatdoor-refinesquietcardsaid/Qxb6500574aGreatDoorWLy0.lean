/-
  THE WALK of comp: put, put16: bytes go to the image.
-/
import Derived.Test.Qxb6500574aGreatDoorWCm34
import Derived.Test.Qxb6500574aGreatDoorWIm2
import Derived.Test.Qxb6500574aGreatDoorWApp
namespace Go.Proofs.Qxb6500574aGreatDoor
open Go Go.RowKit
set_option linter.unusedVariables false
set_option linter.unusedSimpArgs false
open Go.Lib
theorem rowByte : IsRow Tryz.prog 49 5 (.int .u8 0) 1 1 := ⟨by kernel_rfl, by kernel_rfl, rfl, by decide⟩
/-- labels that put may turn -/
def QP (l : Nat) : Prop := l = 1050 ∨ l = 1052
theorem bCells_ones (l : Bs) : ∀ u ∈ l.flatMap bCells, u.oneCell' = true := by
  intro u hu
  obtain ⟨i, _, h⟩ := List.mem_flatMap.1 hu
  exact bCells_oneC i u h
section
set_option maxRecDepth 100000
set_option maxHeartbeats 1000000
variable {w : World} {o : Nat → Nat} {C : CC} {N : List Nd} {c : CmD}
theorem put_any (R : CRep w o C N c) (l : Bs) {kb m cap : Nat} {T' : TypeId} (hb : Has w kb (l.flatMap bCells).toArray T') (hm : l.length = m) (hp : 0 < m) (hl : C.bl.length + m ≤ 1000000) :
    Calls Tryz.prog 66 #[.pointer (some ⟨C.cb, 0, none⟩), .slice (some ⟨kb, 0, none⟩) m cap] w fun e w' => e = .returned (.tuple #[]) ∧ ∃ o' s, CRep w' o' { C with bf := s, bl := C.bl ++ l } N c ∧ Stp QP w o w' o' := by
  have c5 := R.blk.has.cell 5
  have hlt := R.blk.has.lt
  simp only [comC, List.getElem?_toArray, List.getElem?_cons_succ, List.getElem?_cons_zero, Sl.v] at c5
  have HRR : Hid (CRep w o C N c) := R
  have HR : Hid (w.ownsRow 0 5 1 (C.bf.v C.bl.length) C.bl.length (C.bl.flatMap bCells)) := R.buf.own
  have HB : Hid (Has w kb (l.flatMap bCells).toArray T') := hb
  have HM : Hid (l.length = m) := hm
  obtain ⟨n, HN⟩ : ∃ n : Nat, Hid (C.bl.length = n) := ⟨_, rfl⟩
  rw [HN.out] at c5 hl
  clear R hb hm
  go_enter Tryz.func66, Tryz.ntmps66
  go_wp2_with (at_builtin; go_must (refine wpList_appT rowByte _ rfl (.tmp 8) (.tmp 9) rfl (C.bf.v C.bl.length) C.bl.length _ (by rw [HN.out]; rfl) HR.out kb m cap (l.flatMap bCells) rfl HB.out (by rw [flatMap_len _ 1 bCells_len, HM.out]) hp (bCells_ones l) ?bd ?go))
  case bd => rw [HN.out]; omega
  case go =>
    intro g' cap' w2 q1 q2 q3 q4
    have hq3 : (C.bf.v C.bl.length).ownBlock = some g' ∨ w.heap.size ≤ g' := q3.imp_right (fun h => by rw [h]; exact Nat.le_refl _)
    obtain ⟨r1, r2⟩ := HRR.out.buf.app (Fr.refl _ _) q1 q2 hq3 q4
    have hb2 := HRR.out.blk.st r2 (by omega)
    obtain ⟨p1, p2⟩ := hb2.put 5 (.slice (some ⟨g', 0, none⟩) (C.bl.length + m : Nat) cap') (cs' := comC { C with bf := ⟨some ⟨g', 0, none⟩, cap'⟩, bl := C.bl ++ l } N.length c.np) (by simp [comC, HM.out, Sl.v])
    have s2 : Stp QP w o _ (upd o g' 1052) := (r2.weaken (fun k h => .inr h)).trans (p2.weaken (fun k h => .inl h))
    have d5 := hb2.has.cell 5
    have dl := hb2.has.lt
    have dz := hb2.has.frozen 5
    simp only [comC, List.getElem?_toArray, List.getElem?_cons_succ, List.getElem?_cons_zero, Sl.v] at d5
    rw [HN.out] at d5
    have FIN : Hid (∃ o' s, CRep (w2.setCell ⟨C.cb, 5, none⟩ (.slice (some ⟨g', 0, none⟩) (n + m : Nat) cap')) o' { C with bf := s, bl := C.bl ++ l } N c ∧ Stp QP w o (w2.setCell ⟨C.cb, 5, none⟩ (.slice (some ⟨g', 0, none⟩) (n + m : Nat) cap')) o') := by
      rw [← HN.out]
      obtain ⟨xs, a1, a2, a3⟩ := HRR.out.fns
      refine ⟨_, ⟨some ⟨g', 0, none⟩, cap'⟩, ⟨p1, HRR.out.nds.st s2 (by unfold QP; omega), ?_, ⟨xs, a1.st s2 (by unfold QP; omega) (by unfold QP; omega) (fun x j => by unfold QP labF; omega), a2, a3⟩, HRR.out.len, HRR.out.np, s2.hi HRR.out.ow⟩, s2⟩
      have := r1.st p2 (by omega)
      rw [List.length_append, List.flatMap_append, HM.out]
      exact this
    rw [HN.out]
    clear q1 q2 q3 q4 hq3 r1 r2 hb2 p1 p2 s2
    go_wp2
    go_end0
    exact ⟨rfl, FIN.out⟩
theorem byteN_cell (x : Nat) : bCells (byteN x) = [.int .u8 ((x : Int) % 256)] := by
  unfold bCells
  rw [byteN_nat]
  rfl
theorem byteN_low {x : Nat} (h : x < 256) : bCells (byteN x) = [.int .u8 (x : Int)] := by
  unfold bCells
  rw [byteN_nat, Nat.mod_eq_of_lt h]
theorem put16_cells {x : Nat} (h : x < 65536) : (put16 x).flatMap bCells = [.int .u8 ((x : Int) % 256), .int .u8 ((x : Int) / 256)] := by
  unfold put16
  rw [List.flatMap_cons, List.flatMap_cons, List.flatMap_nil, byteN_cell, byteN_low (by omega)]
  rfl
theorem put16_any (R : CRep w o C N c) {x : Nat} (hx : x < 65536) (hl : C.bl.length + 2 ≤ 1000000) :
    Calls Tryz.prog 67 #[.pointer (some ⟨C.cb, 0, none⟩), .int .i64 x] w fun e w' => e = .returned (.tuple #[]) ∧ ∃ o' s, CRep w' o' { C with bf := s, bl := C.bl ++ put16 x } N c ∧ Stp QP w o w' o' := by
  have R0 := R.alloc (.cells #[.int .u8 ((x : Int) % 256), .int .u8 ((x : Int) / 256)] 5)
  have HP := put_any R0 (put16 x) (kb := w.heap.size) (m := 2) (cap := 2) (by rw [put16_cells hx]; exact Has.new w _ _) rfl (by omega) hl
  have HS0 : Hid (Stp QP w o (w.alloc (.cells #[.int .u8 ((x : Int) % 256), .int .u8 ((x : Int) / 256)] 5)) o) := (Stp.refl _ _ _).alloc _
  clear R R0
  go_enter Tryz.func67, Tryz.ntmps67
  go_wp2_with fail
  refine HP.mono ?_
  rintro e w2 ⟨rfl, o2, s2, R2, S2⟩
  have HR2 : Hid (CRep w2 o2 { C with bf := s2, bl := C.bl ++ put16 x } N c) := R2
  have HS2 : Hid (Stp QP w o w2 o2) := HS0.out.trans S2
  clear R2 S2 HP
  go_wp2_with fail
  go_end0
  exact ⟨rfl, o2, s2, HR2.out, HS2.out⟩
end
end Go.Proofs.Qxb6500574aGreatDoor
