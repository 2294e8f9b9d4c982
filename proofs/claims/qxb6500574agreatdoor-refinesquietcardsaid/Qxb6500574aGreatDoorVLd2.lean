/-
  THE WALK of vm: constant (texts), and constant whole. Written by tools/gen_ld2.py.
-/
import Derived.Test.Qxb6500574aGreatDoorVLd1
import Derived.Test.Qxb6500574aGreatDoorRegApp
import Derived.Test.Qxb6500574aGreatDoorReg4
import Derived.Test.Qxb6500574aGreatDoorVApp
import Derived.Test.Qxb6500574aGreatDoorReg5
import Derived.Test.Qxb6500574aGreatDoorVEnter
namespace Go.Proofs.Qxb6500574aGreatDoor
open Go Go.RowKit
set_option linter.unusedVariables false
set_option linter.unusedSimpArgs false
theorem wpQ_conv {P : Program} {ops : Array Oper} {S : World → Prop} {T : Act → Prop} {o : Oper} {l : List Oper} {a : Act} (hg : o.guard = none) {src dst : TypeId} (x : Operand) (v v' : Value) (ho : o.op = .convert src dst x) (hx : a.eval x = v) (hC : ∀ w, S w → (convert src dst v).run P w = .ok v' w) (h : wpQuiet P ops S T l (a.put o.dst v')) : wpQuiet P ops S T (o :: l) a := by
  have hw : Region.wanted o (yielded ops a.tmps) = true := by simp [Region.wanted, hg]
  unfold wpQuiet
  rw [if_pos hw]
  refine ⟨v', fun w hw => ?_, h⟩
  unfold Oper.quietAt
  have : (execOp a.eval o).run P w = .ok (.value v') w := by
    simp [execOp, ho, hx, hC w hw]
  rw [this]
  exact ⟨rfl, rfl⟩
/-- bytes to a text, wherever they lie -/
theorem conv_text {w : World} (a : Option Addr) (c : Nat) (l : Bs) (h : 0 < l.length → ∃ p, a = some p ∧ ∀ j (hj : j < l.length), w.cell? (p.add j) = some (.int .u8 (l[j].toNat : Int))) : (convert 49 9 (.slice a l.length c)).run Tryz.prog w = .ok (sv l) w := by
  cases a with
  | none =>
    have h0 : l = [] := by
      cases l with
      | nil => rfl
      | cons b r => obtain ⟨p, hp, _⟩ := h (by simp); cases hp
    subst h0
    exact run_convert_bytes_nil (P := Tryz.prog) w 49 5 (by kernel_rfl) (by kernel_rfl) _ _ 9 (by kernel_rfl)
  | some p =>
    refine run_convert_bytes_back (P := Tryz.prog) w 49 9 5 p c l (by kernel_rfl) (by kernel_rfl) (by kernel_rfl) (fun j hj => ?_)
    obtain ⟨q, hq, hc⟩ := h (by omega)
    cases hq
    exact hc j hj
section
variable {w : World} {A : VL} {m : VMD} {f e br bb c i : Nat} {s : Bs}
set_option maxRecDepth 100000
set_option maxHeartbeats 1000000
theorem const_fin (hl : Lens m i) {w2 : World} {iX : Nat} {bad' : Bool} (L2 : LD w2 A m f e br bb c s iX bad') (S2 : VSt isVM w A w2 A) (hiX : i < iX) {v : Vl} (hb1 : bad' = true → constP (s.drop i) = none) (hb2 : bad' = false → constP (s.drop i) = some (v, s.drop iX)) {wa w3 : World} {g cap : Nat} (fa : Fr (fun _ => False) w2 wa)
    (q1 : w3.ownsRow 0 68 3 (.slice (some ⟨g, 0, none⟩) (m.consts.length + 1) cap) (m.consts.length + 1) (m.consts.flatMap vCells ++ vCells v)) (q2 : Fr (fun j => (A.C.consts.v m.consts.length).ownBlock = some j) wa w3) (q3 : (A.C.consts.v m.consts.length).ownBlock = some g ∨ w2.heap.size ≤ g) (q4 : g < w3.heap.size) :
    Has w3 A.b (vmCells A.bn A.bt A.bT A.C m m.ths.length f e) 91 ∧ CoPostL w A m f e br bb c s i (.returned (.tuple #[])) (w3.setCell ⟨A.b, 4, none⟩ (.slice (some ⟨g, 0, none⟩) (m.consts.length + 1) cap)) := by
  obtain ⟨hh, R3, S3⟩ := L2.rep.app_consts v fa q1 q2 q3 q4
  have L3 := L2.ofVM R3 S3 (by omega) (by omega)
  refine ⟨hh, _, _, iX, bad', rfl, L3, S2.trans (S3.weaken (fun k hk => by unfold isVM; omega)), by omega, ⟨rfl, rfl, rfl, rfl, rfl, rfl⟩, ⟨by have := hl.1; simp only; omega, by have := hl.2.1; simp only; omega, by have := hl.2.2.1; simp; omega, by have := hl.2.2.2; simp only; omega⟩, ?_⟩
  cases bad' with
  | false => exact .inl ⟨rfl, _, hb2 rfl, rfl⟩
  | true => exact .inr ⟨rfl, hb1 rfl, rfl, rfl, rfl⟩
theorem const_str_end (h : LD w A m f e br bb c s i false) (hl : Lens m i) (hi : i < s.length) (h1 : s[i].toNat = 2) (h2 : i + 1 = s.length) :
    Calls Tryz.prog 209 #[.pointer (some ⟨A.b, 0, none⟩), .pointer (some ⟨br, 0, none⟩)] w (CoPostL w A m f e br bb c s i) := by
  have hs1 : s[i] = 2 := UInt8.toNat_inj.1 (by rw [h1]; rfl)
  have hs2 : ¬ s[i] = 1 := by rw [hs1]; decide
  have hp : constP (s.drop i) = none := by
    rw [List.drop_eq_getElem_cons hi]
    unfold constP
    dsimp only
    rw [if_neg hs2, if_pos hs1]
    rw [h2, List.drop_length]
  have HP : Hid (constP (s.drop i) = none) := hp
  clear hp
  have U := u8_ok h.rd hi
  rw [h1] at U
  have LDH : Hid (LD w A m f e br bb c s i false) := h
  have HLN : Hid (Lens m i) := hl
  clear h hl h1 hs1 hs2
  go_enter Tryz.func209, Tryz.ntmps209
  go_wp2_with fail
  refine U.mono ?_
  rintro e' w1 ⟨rfl, R1, F1⟩
  obtain ⟨L1, S1⟩ := LDH.out.ofRd R1 F1
  have U2 := u8_no R1 (.inr h2)
  clear U
  go_wp2_with fail
  refine U2.mono ?_
  rintro e' w2 ⟨rfl, R2, F2⟩
  obtain ⟨L2, S2⟩ := L1.ofRd R2 F2
  have S2 := S1.trans S2
  have T2 := rtake_no R2 (n := 0) (by omega) (.inl rfl)
  have HL2 : Hid (LD w2 A m f e br bb c s (i + 1) true) := L2
  have HS2 : Hid (VSt isVM w A w2 A) := S2
  clear U2 R1 R2 L1 S1 L2 S2 F1 F2
  go_wp2_with fail
  refine T2.mono ?_
  rintro e' WX ⟨rfl, R3, F3⟩
  obtain ⟨L2, S2⟩ := HL2.out.ofRd R3 F3
  have S2 := HS2.out.trans S2
  clear R3 F3 T2
  have LX : Hid (LD WX A m f e br bb c s (i + 1) true) := L2
  have SX : Hid (VSt isVM w A WX A) := S2
  obtain ⟨NK, HNK⟩ : ∃ NK, Hid (m.consts.length = NK) := ⟨_, rfl⟩
  have hnk : NK ≤ 32768 := by have := HLN.out.2.2.1; have := HNK.out; have := LX.out.rd.len; omega
  have HOWN : Hid (WX.ownsRow 0 68 3 (.slice A.C.consts.a NK A.C.consts.c) NK (m.consts.flatMap vCells)) := by
    have := LX.out.rep.core.consts.own
    rw [HNK.out] at this
    exact this
  have u4 := LX.out.rep.core.here.has.cell 4
  have ul := LX.out.rep.core.here.has.lt
  simp only [vmCells, List.getElem?_toArray, List.getElem?_cons_succ, List.getElem?_cons_zero, Sl.v] at u4
  rw [HNK.out] at u4
  clear L2 S2
  go_wp2_with fail
  have hconv : (convert 49 9 (.slice none 0 0)).run Tryz.prog WX.drew = .ok (sv []) WX.drew := by
    exact conv_text none 0 [] (fun h => by simp at h)
  refine wp_region_mid2 [0, 1, 2, 3, 4, 5] 6 3 (fun y => y.cell? ⟨A.b, 4, none⟩ = some (.slice A.C.consts.a NK A.C.consts.c)) (by kernel_rfl) (by kernel_rfl) (fun _ _ _ _ _ h => h) u4 [_, _, _, _, _, _] rfl _ rfl ?_
  refine wpQ_move rfl (.tmp 0) (.pointer (some ⟨A.b, 0, none⟩)) rfl (by kernel_rfl) ?_
  simp only [Act.put, List.setIfInBounds_toArray, List.set_cons_succ, List.set_cons_zero]
  refine wpQ_move rfl (.tmp 0) (.pointer (some ⟨A.b, 0, none⟩)) rfl (by kernel_rfl) ?_
  simp only [Act.put, List.setIfInBounds_toArray, List.set_cons_succ, List.set_cons_zero]
  refine wpQ_nilCheck rfl (.tmp 80) ⟨A.b, 0, none⟩ rfl (by kernel_rfl) ?_
  simp only [Act.put, List.setIfInBounds_toArray, List.set_cons_succ, List.set_cons_zero]
  refine wpQ_fieldAddr rfl (.tmp 81) 4 ⟨A.b, 0, none⟩ ⟨A.b, 4, none⟩ rfl (by kernel_rfl) (fun w => by kernel_rfl) ?_
  simp only [Act.put, List.setIfInBounds_toArray, List.set_cons_succ, List.set_cons_zero]
  refine wpQ_load1 rfl (.tmp 82) ⟨A.b, 4, none⟩ (.slice A.C.consts.a NK A.C.consts.c) rfl (by kernel_rfl) (by kernel_rfl) (fun _ h => h) ?_
  simp only [Act.put, List.setIfInBounds_toArray, List.set_cons_succ, List.set_cons_zero]
  refine wpQ_move rfl (.tmp 11) (.slice none 0 0) rfl (by kernel_rfl) ?_
  simp only [Act.put, List.setIfInBounds_toArray, List.set_cons_succ, List.set_cons_zero]
  refine wpQuiet_nil ?_
  go_wp2_with fail
  refine ⟨u4, ?_⟩
  simp only [List.drop_succ_cons, List.drop_zero]
  unfold wpChain
  go_wp2_with fail
  refine ⟨u4, ?_⟩
  unfold wpChain
  go_wp2_with fail
  refine ⟨((((Fr.refl (fun _ => False) WX).alloc _).drew).cellB ul (fun x => x)).trans u4, ?_⟩
  unfold wpChain
  refine wpList_appN rowVal _ rfl (.tmp 83) (.tmp 87) rfl (.slice A.C.consts.a NK A.C.consts.c) NK (m.consts.flatMap vCells) rfl (owns_drew (owns_alloc HOWN.out _)) _ 1 1 (vCells (strV [])) rfl (Has.new _ _ _).drew rfl (by omega) (vCells_oneC _) (by omega) ?_
  intro g cap w3 q1 q2 q3 q4
  obtain ⟨hh, hfin⟩ := const_fin HLN.out LX.out SX.out (by omega) (v := strV []) (fun _ => HP.out) (fun e => by cases e) (((Fr.refl _ WX).alloc (.cells #[.int .i64 3, .int .u64 0, sv []] 68)).drew) (by rw [HNK.out]; exact q1) (by rw [HNK.out]; exact q2) (by
    rw [HNK.out]
    rcases q3 with q3 | q3
    · exact .inl q3
    · right; rw [q3]; simp) q4
  have y4 := hh.cell 4
  have yz := hh.frozen 4
  have yl := hh.lt
  simp only [vmCells, List.getElem?_toArray, List.getElem?_cons_succ, List.getElem?_cons_zero, Sl.v] at y4
  rw [HNK.out] at hfin y4
  have HFN : Hid (CoPostL w A m f e br bb c s i (.returned (.tuple #[])) (w3.setCell ⟨A.b, 4, none⟩ (.slice (some ⟨g, 0, none⟩) (NK + 1) cap))) := hfin
  clear hh hfin q1 q2 q3 q4
  refine ⟨y4, ?_⟩
  rw [wpChain_zero]
  simp only [Act.put, List.setIfInBounds_toArray, List.set_cons_succ, List.set_cons_zero]
  go_wp2_with fail
  go_end0
  exact HFN.out
theorem const_str_long (h : LD w A m f e br bb c s i false) (hl : Lens m i) (hi : i < s.length) (h1 : s[i].toNat = 2) (h2 : i + 1 < s.length) (h3 : 40 < s[i + 1].toNat) :
    Calls Tryz.prog 209 #[.pointer (some ⟨A.b, 0, none⟩), .pointer (some ⟨br, 0, none⟩)] w (CoPostL w A m f e br bb c s i) := by
  have hs1 : s[i] = 2 := UInt8.toNat_inj.1 (by rw [h1]; rfl)
  have hs2 : ¬ s[i] = 1 := by rw [hs1]; decide
  have hp : constP (s.drop i) = none := by
    rw [List.drop_eq_getElem_cons hi]
    unfold constP
    dsimp only
    rw [if_neg hs2, if_pos hs1]
    rw [List.drop_eq_getElem_cons h2]
    dsimp only
    rw [if_pos h3]
  have HP : Hid (constP (s.drop i) = none) := hp
  clear hp
  have U := u8_ok h.rd hi
  rw [h1] at U
  have LDH : Hid (LD w A m f e br bb c s i false) := h
  have HLN : Hid (Lens m i) := hl
  clear h hl h1 hs1 hs2
  go_enter Tryz.func209, Tryz.ntmps209
  go_wp2_with fail
  refine U.mono ?_
  rintro e' w1 ⟨rfl, R1, F1⟩
  obtain ⟨L1, S1⟩ := LDH.out.ofRd R1 F1
  have U2 := u8_ok R1 h2
  have x8 := s[i + 1].toNat_lt
  generalize s[i + 1].toNat = x at U2 x8 h3
  have h3i : (40 : Int) < (x : Int) := by omega
  clear U
  go_wp2_with fail
  refine U2.mono ?_
  rintro e' w2 ⟨rfl, R2, F2⟩
  obtain ⟨L2, S2⟩ := L1.ofRd R2 F2
  obtain ⟨L3, S3⟩ := L2.spoil
  have S3 := (S1.trans S2).trans S3
  have T2 := rtake_no L3.rd (n := x) (by omega) (.inl rfl)
  have HL2 : Hid (LD (w2.setCell ⟨br, 2, none⟩ (.bool true)) A m f e br bb c s (i + 1 + 1) true) := L3
  have HS2 : Hid (VSt isVM w A (w2.setCell ⟨br, 2, none⟩ (.bool true)) A) := S3
  obtain ⟨c0, c1, c2⟩ := R2.cells
  have cl := R2.here.lt
  have z2 := R2.here.frozen 2
  clear U2 R1 R2 L1 S1 L2 S2 L3 S3 F1 F2
  go_wp2_with fail
  refine T2.mono ?_
  rintro e' WX ⟨rfl, R3, F3⟩
  obtain ⟨L2, S2⟩ := HL2.out.ofRd R3 F3
  have S2 := HS2.out.trans S2
  clear R3 F3 T2 c0 c1 c2 cl z2
  have LX : Hid (LD WX A m f e br bb c s (i + 1 + 1) true) := L2
  have SX : Hid (VSt isVM w A WX A) := S2
  obtain ⟨NK, HNK⟩ : ∃ NK, Hid (m.consts.length = NK) := ⟨_, rfl⟩
  have hnk : NK ≤ 32768 := by have := HLN.out.2.2.1; have := HNK.out; have := LX.out.rd.len; omega
  have HOWN : Hid (WX.ownsRow 0 68 3 (.slice A.C.consts.a NK A.C.consts.c) NK (m.consts.flatMap vCells)) := by
    have := LX.out.rep.core.consts.own
    rw [HNK.out] at this
    exact this
  have u4 := LX.out.rep.core.here.has.cell 4
  have ul := LX.out.rep.core.here.has.lt
  simp only [vmCells, List.getElem?_toArray, List.getElem?_cons_succ, List.getElem?_cons_zero, Sl.v] at u4
  rw [HNK.out] at u4
  clear L2 S2
  go_wp2_with fail
  have hconv : (convert 49 9 (.slice none 0 0)).run Tryz.prog WX.drew = .ok (sv []) WX.drew := by
    exact conv_text none 0 [] (fun h => by simp at h)
  refine wp_region_mid2 [0, 1, 2, 3, 4, 5] 6 3 (fun y => y.cell? ⟨A.b, 4, none⟩ = some (.slice A.C.consts.a NK A.C.consts.c)) (by kernel_rfl) (by kernel_rfl) (fun _ _ _ _ _ h => h) u4 [_, _, _, _, _, _] rfl _ rfl ?_
  refine wpQ_move rfl (.tmp 0) (.pointer (some ⟨A.b, 0, none⟩)) rfl (by kernel_rfl) ?_
  simp only [Act.put, List.setIfInBounds_toArray, List.set_cons_succ, List.set_cons_zero]
  refine wpQ_move rfl (.tmp 0) (.pointer (some ⟨A.b, 0, none⟩)) rfl (by kernel_rfl) ?_
  simp only [Act.put, List.setIfInBounds_toArray, List.set_cons_succ, List.set_cons_zero]
  refine wpQ_nilCheck rfl (.tmp 80) ⟨A.b, 0, none⟩ rfl (by kernel_rfl) ?_
  simp only [Act.put, List.setIfInBounds_toArray, List.set_cons_succ, List.set_cons_zero]
  refine wpQ_fieldAddr rfl (.tmp 81) 4 ⟨A.b, 0, none⟩ ⟨A.b, 4, none⟩ rfl (by kernel_rfl) (fun w => by kernel_rfl) ?_
  simp only [Act.put, List.setIfInBounds_toArray, List.set_cons_succ, List.set_cons_zero]
  refine wpQ_load1 rfl (.tmp 82) ⟨A.b, 4, none⟩ (.slice A.C.consts.a NK A.C.consts.c) rfl (by kernel_rfl) (by kernel_rfl) (fun _ h => h) ?_
  simp only [Act.put, List.setIfInBounds_toArray, List.set_cons_succ, List.set_cons_zero]
  refine wpQ_move rfl (.tmp 11) (.slice none 0 0) rfl (by kernel_rfl) ?_
  simp only [Act.put, List.setIfInBounds_toArray, List.set_cons_succ, List.set_cons_zero]
  refine wpQuiet_nil ?_
  go_wp2_with fail
  refine ⟨u4, ?_⟩
  simp only [List.drop_succ_cons, List.drop_zero]
  unfold wpChain
  go_wp2_with fail
  refine ⟨u4, ?_⟩
  unfold wpChain
  go_wp2_with fail
  refine ⟨((((Fr.refl (fun _ => False) WX).alloc _).drew).cellB ul (fun x => x)).trans u4, ?_⟩
  unfold wpChain
  refine wpList_appN rowVal _ rfl (.tmp 83) (.tmp 87) rfl (.slice A.C.consts.a NK A.C.consts.c) NK (m.consts.flatMap vCells) rfl (owns_drew (owns_alloc HOWN.out _)) _ 1 1 (vCells (strV [])) rfl (Has.new _ _ _).drew rfl (by omega) (vCells_oneC _) (by omega) ?_
  intro g cap w3 q1 q2 q3 q4
  obtain ⟨hh, hfin⟩ := const_fin HLN.out LX.out SX.out (by omega) (v := strV []) (fun _ => HP.out) (fun e => by cases e) (((Fr.refl _ WX).alloc (.cells #[.int .i64 3, .int .u64 0, sv []] 68)).drew) (by rw [HNK.out]; exact q1) (by rw [HNK.out]; exact q2) (by
    rw [HNK.out]
    rcases q3 with q3 | q3
    · exact .inl q3
    · right; rw [q3]; simp) q4
  have y4 := hh.cell 4
  have yz := hh.frozen 4
  have yl := hh.lt
  simp only [vmCells, List.getElem?_toArray, List.getElem?_cons_succ, List.getElem?_cons_zero, Sl.v] at y4
  rw [HNK.out] at hfin y4
  have HFN : Hid (CoPostL w A m f e br bb c s i (.returned (.tuple #[])) (w3.setCell ⟨A.b, 4, none⟩ (.slice (some ⟨g, 0, none⟩) (NK + 1) cap))) := hfin
  clear hh hfin q1 q2 q3 q4
  refine ⟨y4, ?_⟩
  rw [wpChain_zero]
  simp only [Act.put, List.setIfInBounds_toArray, List.set_cons_succ, List.set_cons_zero]
  go_wp2_with fail
  go_end0
  exact HFN.out
theorem const_str_short (h : LD w A m f e br bb c s i false) (hl : Lens m i) (hi : i < s.length) (h1 : s[i].toNat = 2) (h2 : i + 1 < s.length) (h3 : s[i + 1].toNat ≤ 40) (h4 : s.length < i + 2 + s[i + 1].toNat) :
    Calls Tryz.prog 209 #[.pointer (some ⟨A.b, 0, none⟩), .pointer (some ⟨br, 0, none⟩)] w (CoPostL w A m f e br bb c s i) := by
  have hs1 : s[i] = 2 := UInt8.toNat_inj.1 (by rw [h1]; rfl)
  have hs2 : ¬ s[i] = 1 := by rw [hs1]; decide
  have hp : constP (s.drop i) = none := by
    rw [List.drop_eq_getElem_cons hi]
    unfold constP
    dsimp only
    rw [if_neg hs2, if_pos hs1]
    rw [List.drop_eq_getElem_cons h2]
    dsimp only
    rw [if_neg (by omega), rdTake, if_pos (by rw [List.length_drop]; omega)]
  have HP : Hid (constP (s.drop i) = none) := hp
  clear hp
  have U := u8_ok h.rd hi
  rw [h1] at U
  have LDH : Hid (LD w A m f e br bb c s i false) := h
  have HLN : Hid (Lens m i) := hl
  clear h hl h1 hs1 hs2
  go_enter Tryz.func209, Tryz.ntmps209
  go_wp2_with fail
  refine U.mono ?_
  rintro e' w1 ⟨rfl, R1, F1⟩
  obtain ⟨L1, S1⟩ := LDH.out.ofRd R1 F1
  have U2 := u8_ok R1 h2
  have x8 := s[i + 1].toNat_lt
  generalize s[i + 1].toNat = x at U2 x8 h3 h4
  have h3i : ¬ (40 : Int) < (x : Int) := by omega
  clear U
  go_wp2_with fail
  refine U2.mono ?_
  rintro e' w2 ⟨rfl, R2, F2⟩
  obtain ⟨L2, S2⟩ := L1.ofRd R2 F2
  have S2 := S1.trans S2
  have HL2 : Hid (LD w2 A m f e br bb c s (i + 1 + 1) false) := L2
  have HS2 : Hid (VSt isVM w A w2 A) := S2
  have T2 := rtake_no R2 (n := x) (by omega) (.inr (by omega))
  clear U2 R1 R2 L1 S1 L2 S2 F1 F2
  go_wp2_with fail
  refine T2.mono ?_
  rintro e' WX ⟨rfl, R3, F3⟩
  obtain ⟨L2, S2⟩ := HL2.out.ofRd R3 F3
  have S2 := HS2.out.trans S2
  clear R3 F3 T2
  have LX : Hid (LD WX A m f e br bb c s (i + 1 + 1) true) := L2
  have SX : Hid (VSt isVM w A WX A) := S2
  obtain ⟨NK, HNK⟩ : ∃ NK, Hid (m.consts.length = NK) := ⟨_, rfl⟩
  have hnk : NK ≤ 32768 := by have := HLN.out.2.2.1; have := HNK.out; have := LX.out.rd.len; omega
  have HOWN : Hid (WX.ownsRow 0 68 3 (.slice A.C.consts.a NK A.C.consts.c) NK (m.consts.flatMap vCells)) := by
    have := LX.out.rep.core.consts.own
    rw [HNK.out] at this
    exact this
  have u4 := LX.out.rep.core.here.has.cell 4
  have ul := LX.out.rep.core.here.has.lt
  simp only [vmCells, List.getElem?_toArray, List.getElem?_cons_succ, List.getElem?_cons_zero, Sl.v] at u4
  rw [HNK.out] at u4
  clear L2 S2
  go_wp2_with fail
  have hconv : (convert 49 9 (.slice none 0 0)).run Tryz.prog WX.drew = .ok (sv []) WX.drew := by
    exact conv_text none 0 [] (fun h => by simp at h)
  refine wp_region_mid2 [0, 1, 2, 3, 4, 5] 6 3 (fun y => y.cell? ⟨A.b, 4, none⟩ = some (.slice A.C.consts.a NK A.C.consts.c)) (by kernel_rfl) (by kernel_rfl) (fun _ _ _ _ _ h => h) u4 [_, _, _, _, _, _] rfl _ rfl ?_
  refine wpQ_move rfl (.tmp 0) (.pointer (some ⟨A.b, 0, none⟩)) rfl (by kernel_rfl) ?_
  simp only [Act.put, List.setIfInBounds_toArray, List.set_cons_succ, List.set_cons_zero]
  refine wpQ_move rfl (.tmp 0) (.pointer (some ⟨A.b, 0, none⟩)) rfl (by kernel_rfl) ?_
  simp only [Act.put, List.setIfInBounds_toArray, List.set_cons_succ, List.set_cons_zero]
  refine wpQ_nilCheck rfl (.tmp 80) ⟨A.b, 0, none⟩ rfl (by kernel_rfl) ?_
  simp only [Act.put, List.setIfInBounds_toArray, List.set_cons_succ, List.set_cons_zero]
  refine wpQ_fieldAddr rfl (.tmp 81) 4 ⟨A.b, 0, none⟩ ⟨A.b, 4, none⟩ rfl (by kernel_rfl) (fun w => by kernel_rfl) ?_
  simp only [Act.put, List.setIfInBounds_toArray, List.set_cons_succ, List.set_cons_zero]
  refine wpQ_load1 rfl (.tmp 82) ⟨A.b, 4, none⟩ (.slice A.C.consts.a NK A.C.consts.c) rfl (by kernel_rfl) (by kernel_rfl) (fun _ h => h) ?_
  simp only [Act.put, List.setIfInBounds_toArray, List.set_cons_succ, List.set_cons_zero]
  refine wpQ_move rfl (.tmp 11) (.slice none 0 0) rfl (by kernel_rfl) ?_
  simp only [Act.put, List.setIfInBounds_toArray, List.set_cons_succ, List.set_cons_zero]
  refine wpQuiet_nil ?_
  go_wp2_with fail
  refine ⟨u4, ?_⟩
  simp only [List.drop_succ_cons, List.drop_zero]
  unfold wpChain
  go_wp2_with fail
  refine ⟨u4, ?_⟩
  unfold wpChain
  go_wp2_with fail
  refine ⟨((((Fr.refl (fun _ => False) WX).alloc _).drew).cellB ul (fun x => x)).trans u4, ?_⟩
  unfold wpChain
  refine wpList_appN rowVal _ rfl (.tmp 83) (.tmp 87) rfl (.slice A.C.consts.a NK A.C.consts.c) NK (m.consts.flatMap vCells) rfl (owns_drew (owns_alloc HOWN.out _)) _ 1 1 (vCells (strV [])) rfl (Has.new _ _ _).drew rfl (by omega) (vCells_oneC _) (by omega) ?_
  intro g cap w3 q1 q2 q3 q4
  obtain ⟨hh, hfin⟩ := const_fin HLN.out LX.out SX.out (by omega) (v := strV []) (fun _ => HP.out) (fun e => by cases e) (((Fr.refl _ WX).alloc (.cells #[.int .i64 3, .int .u64 0, sv []] 68)).drew) (by rw [HNK.out]; exact q1) (by rw [HNK.out]; exact q2) (by
    rw [HNK.out]
    rcases q3 with q3 | q3
    · exact .inl q3
    · right; rw [q3]; simp) q4
  have y4 := hh.cell 4
  have yz := hh.frozen 4
  have yl := hh.lt
  simp only [vmCells, List.getElem?_toArray, List.getElem?_cons_succ, List.getElem?_cons_zero, Sl.v] at y4
  rw [HNK.out] at hfin y4
  have HFN : Hid (CoPostL w A m f e br bb c s i (.returned (.tuple #[])) (w3.setCell ⟨A.b, 4, none⟩ (.slice (some ⟨g, 0, none⟩) (NK + 1) cap))) := hfin
  clear hh hfin q1 q2 q3 q4
  refine ⟨y4, ?_⟩
  rw [wpChain_zero]
  simp only [Act.put, List.setIfInBounds_toArray, List.set_cons_succ, List.set_cons_zero]
  go_wp2_with fail
  go_end0
  exact HFN.out
theorem const_str_ok (h : LD w A m f e br bb c s i false) (hl : Lens m i) (hi : i < s.length) (h1 : s[i].toNat = 2) (h2 : i + 1 < s.length) (h3 : s[i + 1].toNat ≤ 40) (h4 : i + 2 + s[i + 1].toNat ≤ s.length) :
    Calls Tryz.prog 209 #[.pointer (some ⟨A.b, 0, none⟩), .pointer (some ⟨br, 0, none⟩)] w (CoPostL w A m f e br bb c s i) := by
  have hs1 : s[i] = 2 := UInt8.toNat_inj.1 (by rw [h1]; rfl)
  have hs2 : ¬ s[i] = 1 := by rw [hs1]; decide
  obtain ⟨V, hV⟩ : ∃ V, (s.drop (i + 2)).take s[i + 1].toNat = V := ⟨_, rfl⟩
  have hVl : V.length = s[i + 1].toNat := by rw [← hV]; simp; omega
  have hp : constP (s.drop i) = some (strV V, s.drop (i + 1 + 1 + s[i + 1].toNat)) := by
    rw [List.drop_eq_getElem_cons hi]
    unfold constP
    dsimp only
    rw [if_neg hs2, if_pos hs1]
    rw [List.drop_eq_getElem_cons h2]
    dsimp only
    rw [if_neg (by omega), rdTake, if_neg (by rw [List.length_drop]; omega)]
    dsimp only
    rw [show i + 1 + 1 = i + 2 by omega, hV, List.drop_drop]
  have hVb : ∀ j (hj : j < V.length), ∃ hj', V[j] = s[i + 1 + 1 + j]'hj' := by
    intro j hj
    have hj2 : j < s[i + 1].toNat := by omega
    refine ⟨by omega, ?_⟩
    subst hV
    rw [List.getElem_take, List.getElem_drop]
  have HVB : Hid (∀ j (hj : j < V.length), ∃ hj', V[j] = s[i + 1 + 1 + j]'hj') := hVb
  have HP : Hid (constP (s.drop i) = some (strV V, s.drop (i + 1 + 1 + s[i + 1].toNat))) := hp
  clear hp hV hVb
  have U := u8_ok h.rd hi
  rw [h1] at U
  have LDH : Hid (LD w A m f e br bb c s i false) := h
  have HLN : Hid (Lens m i) := hl
  clear h hl h1 hs1 hs2
  go_enter Tryz.func209, Tryz.ntmps209
  go_wp2_with fail
  refine U.mono ?_
  rintro e' w1 ⟨rfl, R1, F1⟩
  obtain ⟨L1, S1⟩ := LDH.out.ofRd R1 F1
  have U2 := u8_ok R1 h2
  have x8 := s[i + 1].toNat_lt
  generalize s[i + 1].toNat = x at U2 x8 h3 h4 hVl HP
  have h3i : ¬ (40 : Int) < (x : Int) := by omega
  clear U
  go_wp2_with fail
  refine U2.mono ?_
  rintro e' w2 ⟨rfl, R2, F2⟩
  obtain ⟨L2, S2⟩ := L1.ofRd R2 F2
  have S2 := S1.trans S2
  have HL2 : Hid (LD w2 A m f e br bb c s (i + 1 + 1) false) := L2
  have HS2 : Hid (VSt isVM w A w2 A) := S2
  subst hVl
  have T2 := rtake_ok R2 (n := V.length) (by omega)
  clear U2 R1 R2 L1 S1 L2 S2 F1 F2
  go_wp2_with fail
  refine T2.mono ?_
  rintro e' WX ⟨⟨sa, sc, rfl, ha⟩, R3, F3⟩
  have HSA : Hid (0 < V.length → sa = some ⟨bb, i + 1 + 1, none⟩ ∧ V.length ≤ sc) := ha
  obtain ⟨L2, S2⟩ := HL2.out.ofRd R3 F3
  have S2 := HS2.out.trans S2
  clear R3 F3 T2 ha
  have LX : Hid (LD WX A m f e br bb c s (i + 1 + 1 + V.length) false) := L2
  have SX : Hid (VSt isVM w A WX A) := S2
  obtain ⟨NK, HNK⟩ : ∃ NK, Hid (m.consts.length = NK) := ⟨_, rfl⟩
  have hnk : NK ≤ 32768 := by have := HLN.out.2.2.1; have := HNK.out; have := LX.out.rd.len; omega
  have HOWN : Hid (WX.ownsRow 0 68 3 (.slice A.C.consts.a NK A.C.consts.c) NK (m.consts.flatMap vCells)) := by
    have := LX.out.rep.core.consts.own
    rw [HNK.out] at this
    exact this
  have u4 := LX.out.rep.core.here.has.cell 4
  have ul := LX.out.rep.core.here.has.lt
  simp only [vmCells, List.getElem?_toArray, List.getElem?_cons_succ, List.getElem?_cons_zero, Sl.v] at u4
  rw [HNK.out] at u4
  have CB : Hid (∀ (j : Nat) (hj : j < V.length), WX.cell? ⟨bb, i + 1 + 1 + j, none⟩ = some (.int .u8 (V[j].toNat : Int))) := by
    intro j hj
    obtain ⟨hj', e⟩ := HVB.out j hj
    rw [e]
    exact LX.out.rd.bytes _ hj'
  clear L2 S2
  go_wp2_with fail
  have hconv : (convert 49 9 (.slice sa V.length sc)).run Tryz.prog WX.drew = .ok (sv V) WX.drew := by
    refine conv_text sa sc V (fun h0 => ⟨_, (HSA.out h0).1, fun j hj => ?_⟩)
    have hb : (⟨bb, i + 1 + 1, none⟩ : Addr).add j = ⟨bb, i + 1 + 1 + j, none⟩ := addr_lit _ _ _
    rw [hb]
    exact CB.out j hj
  refine wp_region_mid2 [0, 1, 2, 3, 4, 5] 6 3 (fun y => y.cell? ⟨A.b, 4, none⟩ = some (.slice A.C.consts.a NK A.C.consts.c)) (by kernel_rfl) (by kernel_rfl) (fun _ _ _ _ _ h => h) u4 [_, _, _, _, _, _] rfl _ rfl ?_
  refine wpQ_move rfl (.tmp 0) (.pointer (some ⟨A.b, 0, none⟩)) rfl (by kernel_rfl) ?_
  simp only [Act.put, List.setIfInBounds_toArray, List.set_cons_succ, List.set_cons_zero]
  refine wpQ_move rfl (.tmp 0) (.pointer (some ⟨A.b, 0, none⟩)) rfl (by kernel_rfl) ?_
  simp only [Act.put, List.setIfInBounds_toArray, List.set_cons_succ, List.set_cons_zero]
  refine wpQ_nilCheck rfl (.tmp 80) ⟨A.b, 0, none⟩ rfl (by kernel_rfl) ?_
  simp only [Act.put, List.setIfInBounds_toArray, List.set_cons_succ, List.set_cons_zero]
  refine wpQ_fieldAddr rfl (.tmp 81) 4 ⟨A.b, 0, none⟩ ⟨A.b, 4, none⟩ rfl (by kernel_rfl) (fun w => by kernel_rfl) ?_
  simp only [Act.put, List.setIfInBounds_toArray, List.set_cons_succ, List.set_cons_zero]
  refine wpQ_load1 rfl (.tmp 82) ⟨A.b, 4, none⟩ (.slice A.C.consts.a NK A.C.consts.c) rfl (by kernel_rfl) (by kernel_rfl) (fun _ h => h) ?_
  simp only [Act.put, List.setIfInBounds_toArray, List.set_cons_succ, List.set_cons_zero]
  refine wpQ_move rfl (.tmp 11) (.slice sa V.length sc) rfl (by kernel_rfl) ?_
  simp only [Act.put, List.setIfInBounds_toArray, List.set_cons_succ, List.set_cons_zero]
  refine wpQuiet_nil ?_
  go_wp2_with fail
  refine ⟨u4, ?_⟩
  simp only [List.drop_succ_cons, List.drop_zero]
  unfold wpChain
  go_wp2_with fail
  refine ⟨u4, ?_⟩
  unfold wpChain
  go_wp2_with fail
  refine ⟨((((Fr.refl (fun _ => False) WX).alloc _).drew).cellB ul (fun x => x)).trans u4, ?_⟩
  unfold wpChain
  refine wpList_appN rowVal _ rfl (.tmp 83) (.tmp 87) rfl (.slice A.C.consts.a NK A.C.consts.c) NK (m.consts.flatMap vCells) rfl (owns_drew (owns_alloc HOWN.out _)) _ 1 1 (vCells (strV V)) rfl (Has.new _ _ _).drew rfl (by omega) (vCells_oneC _) (by omega) ?_
  intro g cap w3 q1 q2 q3 q4
  obtain ⟨hh, hfin⟩ := const_fin HLN.out LX.out SX.out (by omega) (v := strV V) (fun e => by cases e) (fun _ => HP.out) (((Fr.refl _ WX).alloc (.cells #[.int .i64 3, .int .u64 0, sv V] 68)).drew) (by rw [HNK.out]; exact q1) (by rw [HNK.out]; exact q2) (by
    rw [HNK.out]
    rcases q3 with q3 | q3
    · exact .inl q3
    · right; rw [q3]; simp) q4
  have y4 := hh.cell 4
  have yz := hh.frozen 4
  have yl := hh.lt
  simp only [vmCells, List.getElem?_toArray, List.getElem?_cons_succ, List.getElem?_cons_zero, Sl.v] at y4
  rw [HNK.out] at hfin y4
  have HFN : Hid (CoPostL w A m f e br bb c s i (.returned (.tuple #[])) (w3.setCell ⟨A.b, 4, none⟩ (.slice (some ⟨g, 0, none⟩) (NK + 1) cap))) := hfin
  clear hh hfin q1 q2 q3 q4
  refine ⟨y4, ?_⟩
  rw [wpChain_zero]
  simp only [Act.put, List.setIfInBounds_toArray, List.set_cons_succ, List.set_cons_zero]
  go_wp2_with fail
  go_end0
  exact HFN.out
theorem const_any (h : LD w A m f e br bb c s i false) (hl : Lens m i) :
    Calls Tryz.prog 209 #[.pointer (some ⟨A.b, 0, none⟩), .pointer (some ⟨br, 0, none⟩)] w (CoPostL w A m f e br bb c s i) := by
  have hle := h.rd.le
  by_cases hi : i = s.length
  · exact const_end h hl hi
  have hi : i < s.length := by omega
  by_cases h1 : s[i].toNat = 1
  · by_cases h9 : i + 9 ≤ s.length
    · exact const_num h hl hi h1 h9
    · exact const_num_no h hl hi h1 (by omega)
  by_cases h2 : s[i].toNat = 2
  · by_cases h3 : i + 1 = s.length
    · exact const_str_end h hl hi h2 h3
    have h3 : i + 1 < s.length := by omega
    by_cases h4 : s[i + 1].toNat ≤ 40
    · by_cases h5 : i + 2 + s[i + 1].toNat ≤ s.length
      · exact const_str_ok h hl hi h2 h3 h4 h5
      · exact const_str_short h hl hi h2 h3 h4 (by omega)
    · exact const_str_long h hl hi h2 h3 (by omega)
  · exact const_bad h hl hi h1 h2
end
end Go.Proofs.Qxb6500574aGreatDoor
