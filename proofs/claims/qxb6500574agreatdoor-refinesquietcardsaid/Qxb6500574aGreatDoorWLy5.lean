/-
  THE WALK of comp: lay: one state.
-/
import Derived.Test.Qxb6500574aGreatDoorWLy4
namespace Go.Proofs.Qxb6500574aGreatDoor
open Go Go.RowKit
set_option linter.unusedVariables false
set_option linter.unusedSimpArgs false
open Go.Lib
theorem LyI.trans {w w1 w2 : World} {o o1 : Nat → Nat} {C : CC} {N : List Nd} {c : CmD} {l l2 : Bs} {s : Sl} (S : Stp QP w o w1 o1) (h : LyI w1 o1 { C with bf := s, bl := C.bl ++ l } N c l2 w2) : LyI w o C N c (l ++ l2) w2 := by
  obtain ⟨o2, s2, R2, S2⟩ := h
  refine ⟨o2, s2, ?_, S.trans S2⟩
  simp only [List.append_assoc] at R2
  exact R2
/-- what the numbers of a state must fit -/
structure LyOk (f : FnD) : Prop where
  np : f.np < 256
  ns : f.nslots < 256
  un : f.ups.length < 256
  up : ∀ d ∈ f.ups, d.1 < 256 ∧ d.2 < 256
  kn : f.consts.length < 65536
  kt : ∀ d ∈ f.consts, d.ok
  cn : f.code.length < 65536
  cd : ∀ d ∈ f.code, d.1 < 256 ∧ d.2 < 65536
section
set_option maxRecDepth 100000
set_option maxHeartbeats 1000000
variable {w : World} {o : Nat → Nat} {C : CC} {N : List Nd} {c : CmD} {x np : Nat}
theorem row_w (R : CRep w o C N c) (hx : x < c.np) (ok : LyOk (c.fn x)) (hl : C.bl.length + 7 + 2 * (c.fn x).ups.length + 42 * (c.fn x).consts.length + 3 * (c.fn x).code.length ≤ 800000) {u : Nat → Value} {K : Act → World → Prop} {Q : Exit → Act → World → Prop} (hQ : ∀ c a t v w, Q (.panic c) (a.put (some t) v) w → Q (.panic c) a w)
    (hK : ∀ a' w', Fr41 C.cb C.gF x np a' → LyI w o C N c (layF (c.fn x)) w' → K a' w') {a : Act} (ha : a = { tmps := List.toArray (.pointer (some ⟨C.cb, 0, none⟩) :: u 1 :: u 2 :: u 3 :: u 4 :: u 5 :: u 6 :: u 7 :: u 8 :: u 9 :: u 10 :: u 11 :: u 12 :: u 13 :: u 14 :: u 15 :: u 16 :: u 17 :: u 18 :: u 19 :: u 20 :: u 21 :: u 22 :: u 23 :: u 24 :: u 25 :: u 26 :: u 27 :: u 28 :: u 29 :: u 30 :: .int .i64 np :: .int .i64 x :: u 33 :: u 34 :: u 35 :: u 36 :: u 37 :: u 38 :: u 39 :: u 40 :: u 41 :: u 42 :: u 43 :: u 44 :: u 45 :: u 46 :: u 47 :: u 48 :: u 49 :: u 50 :: u 51 :: u 52 :: u 53 :: u 54 :: u 55 :: u 56 :: u 57 :: u 58 :: u 59 :: u 60 :: u 61 :: u 62 :: u 63 :: u 64 :: u 65 :: u 66 :: u 67 :: u 68 :: u 69 :: u 70 :: u 71 :: u 72 :: u 73 :: u 74 :: u 75 :: u 76 :: u 77 :: u 78 :: u 79 :: u 80 :: u 81 :: u 82 :: u 83 :: u 84 :: u 85 :: u 86 :: u 87 :: u 88 :: u 89 :: u 90 :: u 91 :: u 92 :: u 93 :: u 94 :: u 95 :: u 96 :: u 97 :: u 98 :: u 99 :: u 100 :: u 101 :: u 102 :: u 103 :: u 104 :: u 105 :: u 106 :: u 107 :: u 108 :: u 109 :: u 110 :: u 111 :: u 112 :: u 113 :: u 114 :: u 115 :: u 116 :: u 117 :: u 118 :: u 119 :: u 120 :: u 121 :: u 122 :: u 123 :: u 124 :: u 125 :: u 126 :: u 127 :: u 128 :: u 129 :: u 130 :: u 131 :: u 132 :: u 133 :: u 134 :: u 135 :: u 136 :: u 137 :: u 138 :: u 139 :: u 140 :: u 141 :: u 142 :: u 143 :: u 144 :: u 145 :: u 146 :: u 147 :: u 148 :: u 149 :: u 150 :: u 151 :: u 152 :: u 153 :: u 154 :: u 155 :: u 156 :: u 157 :: u 158 :: u 159 :: u 160 :: []), defers := [] }) :
    (lyY Tryz.f41.body).wp Tryz.prog (Exit.then K Q) a w := by
  obtain ⟨xs, L, F⟩ := R.fn hx
  have c2 := F.cell 2 (by omega)
  have c4 := F.cell 4 (by omega)
  have c5 := F.cell 5 (by omega)
  have fl := F.lt
  have cb3 := R.blk.has.cell 3
  have cbl := R.blk.has.lt
  have hnp13 := R.np
  simp only [fnV, comC, List.getElem?_toArray, List.getElem?_cons_succ, List.getElem?_cons_zero, Sl.v] at c2 c4 c5 cb3
  subst ha
  have HR : Hid (CRep w o C N c) := R
  have HOK : Hid (LyOk (c.fn x)) := ok
  have HL : Hid (C.bl.length + 7 + 2 * (c.fn x).ups.length + 42 * (c.fn x).consts.length + 3 * (c.fn x).code.length ≤ 800000) := hl
  have HK : Hid (∀ a' w', Fr41 C.cb C.gF x np a' → LyI w o C N c (layF (c.fn x)) w' → K a' w') := hK
  have HQ : Hid (∀ c a t v w, Q (.panic c) (a.put (some t) v) w → Q (.panic c) a w) := hQ
  obtain ⟨v1, HV1⟩ : ∃ v, Hid ((c.fn x).np = v) := ⟨_, rfl⟩
  obtain ⟨v2, HV2⟩ : ∃ v, Hid ((c.fn x).nslots = v) := ⟨_, rfl⟩
  obtain ⟨v3, HV3⟩ : ∃ v, Hid ((c.fn x).ups.length = v) := ⟨_, rfl⟩
  have b1 : v1 < 256 := by rw [← HV1.out]; exact ok.np
  have b2 : v2 < 256 := by rw [← HV2.out]; exact ok.ns
  have b3 : v3 < 256 := by rw [← HV3.out]; exact ok.un
  rw [HV1.out] at c2
  rw [HV2.out] at c4
  rw [HV3.out] at c5
  have CU : Hid (∀ {w1 o1 s l K} {Q : Exit → Act → World → Prop} {a : Act}, CRep w1 o1 { C with bf := s, bl := C.bl ++ l } N c → C.bl.length + l.length + 2 * (c.fn x).ups.length ≤ 900000 → Fr41 C.cb C.gF x np a → (∀ a' w', Fr41 C.cb C.gF x np a' → LyI w1 o1 { C with bf := s, bl := C.bl ++ l } N c ((c.fn x).ups.flatMap upB) w' → K a' w') → (lyU Tryz.f41.body).wp Tryz.prog (Exit.then K Q) a w1) :=
    fun R1 h1 h2 h3 => ups_w R1 hx ok.up (by simp only [List.length_append]; omega) h2 h3
  have CK : Hid (∀ {w1 o1 s l K} {Q : Exit → Act → World → Prop} {a : Act}, CRep w1 o1 { C with bf := s, bl := C.bl ++ l } N c → C.bl.length + l.length + 42 * (c.fn x).consts.length ≤ 900000 → Fr41 C.cb C.gF x np a → (∀ c a t v w, Q (.panic c) (a.put (some t) v) w → Q (.panic c) a w) → (∀ a' w', Fr41 C.cb C.gF x np a' → LyI w1 o1 { C with bf := s, bl := C.bl ++ l } N c ((c.fn x).consts.flatMap layC) w' → K a' w') → (lyK Tryz.f41.body).wp Tryz.prog (Exit.then K Q) a w1) :=
    fun R1 h1 h2 h4 h3 => consts_w R1 hx ok.kt (by simp only [List.length_append]; omega) h2 h4 h3
  have CD : Hid (∀ {w1 o1 s l K} {Q : Exit → Act → World → Prop} {a : Act}, CRep w1 o1 { C with bf := s, bl := C.bl ++ l } N c → C.bl.length + l.length + 3 * (c.fn x).code.length ≤ 900000 → Fr41 C.cb C.gF x np a → (∀ a' w', Fr41 C.cb C.gF x np a' → LyI w1 o1 { C with bf := s, bl := C.bl ++ l } N c ((c.fn x).code.flatMap inB) w' → K a' w') → (lyD Tryz.f41.body).wp Tryz.prog (Exit.then K Q) a w1) :=
    fun R1 h1 h2 h3 => code_w R1 hx ok.cd (by simp only [List.length_append]; omega) h2 h3
  have hx13 : x < 13 := by omega
  clear R F hK hQ hl ok
  show (Code.seq (codeL (lyY Tryz.f41.body)) (Code.seq (codeL (codeR (lyY Tryz.f41.body))) (Code.seq (codeL (codeR (codeR (lyY Tryz.f41.body)))) (Code.seq (lyU Tryz.f41.body) (Code.seq (codeL (codeR (codeR (codeR (codeR (lyY Tryz.f41.body)))))) (Code.seq (lyK Tryz.f41.body) (Code.seq (codeL (codeR (codeR (codeR (codeR (codeR (codeR (lyY Tryz.f41.body)))))))) (lyD Tryz.f41.body)))))))).wp Tryz.prog (Exit.then K Q) _ w
  generalize lyU Tryz.f41.body = PU at CU ⊢
  generalize lyK Tryz.f41.body = PK at CK ⊢
  generalize lyD Tryz.f41.body = PD at CD ⊢
  simp only [lyY, codeL, codeR, codeIn, Tryz.f41, Option.getD_some]
  go_wp2_with fail
  obtain ⟨PW, HPW⟩ : ∃ PW : World → Prop, Hid (PW = fun y => y.cell? ⟨C.gF, x * 11 + 2, none⟩ = some (.int .i64 (v1 : Nat)) ∧ y.cell? ⟨C.gF, x * 11 + 4, none⟩ = some (.int .i64 (v2 : Nat)) ∧ y.cell? ⟨C.gF, x * 11 + 5, none⟩ = some (.slice L.up.a (v3 : Nat) L.up.c)) := ⟨_, rfl⟩
  have mkP : Hid (∀ y : World, (∀ j, y.cell? ⟨C.gF, j, none⟩ = w.cell? ⟨C.gF, j, none⟩) → PW y) := by rw [HPW.out]; exact fun y h => ⟨(h _).trans c2, (h _).trans c4, (h _).trans c5⟩
  have oP : Hid (∀ y, PW y → y.cell? ⟨C.gF, x * 11 + 2, none⟩ = some (.int .i64 (v1 : Nat)) ∧ y.cell? ⟨C.gF, x * 11 + 4, none⟩ = some (.int .i64 (v2 : Nat)) ∧ y.cell? ⟨C.gF, x * 11 + 5, none⟩ = some (.slice L.up.a (v3 : Nat) L.up.c)) := by rw [HPW.out]; exact fun y h => h
  have p1 : ∀ s : WQ PW, s.y.cell? ⟨C.gF, x * 11 + 2, none⟩ = some (.int .i64 (v1 : Nat)) := fun s => (oP.out s.y s.f).1
  have p2 : ∀ s : WQ PW, s.y.cell? ⟨C.gF, x * 11 + 4, none⟩ = some (.int .i64 (v2 : Nat)) := fun s => (oP.out s.y s.f).2.1
  have p3 : ∀ s : WQ PW, s.y.cell? ⟨C.gF, x * 11 + 5, none⟩ = some (.slice L.up.a (v3 : Nat) L.up.c) := fun s => (oP.out s.y s.f).2.2
  have HNE : Nonempty (WQ PW) := WQ.non (mkP.out w (fun _ => rfl))
  clear HPW c2 c4 c5 oP
  refine Go.Proofs.Qxb6500574aGreatDoor.C.wp_region_head 17 1 (fun y => ∃ s : WQ PW, y = s.y) (by kernel_rfl) (by kernel_rfl) (fun c a t v w h => HQ.out c a t v w h) ⟨⟨w.drew, mkP.out _ (fun _ => rfl)⟩, rfl⟩ ?_
  simp only [List.take_succ_cons, List.take_zero, List.drop_succ_cons, List.drop_zero]
  repeat go_big_quiet_step (fail)
  refine wpQuiet_nil ?_
  clear p1 p2 p3 HNE
  unfold Go.Proofs.Qxb6500574aGreatDoor.C.wpChain
  go_wp2_with fail
  refine ⟨⟨⟨_, mkP.out _ (fun j => (Stp.fresh (fun _ => False) o (((Fr.refl (fun _ => False) w).alloc _).drew)).cellQ fl (fun h => h) j)⟩, rfl⟩, ?_⟩
  rw [Go.Proofs.Qxb6500574aGreatDoor.C.wpChain_zero]
  go_wp2_with fail
  have fr1 : Fr (fun _ => False) w (w.alloc (.cells #[.int .u8 (v1 : Nat), .int .u8 (v2 : Nat), .int .u8 (v3 : Nat)] 5)).drew := ((Fr.refl _ _).alloc _).drew
  have hb1 : Has (w.alloc (.cells #[.int .u8 (v1 : Nat), .int .u8 (v2 : Nat), .int .u8 (v3 : Nat)] 5)).drew w.heap.size (([byteN v1, byteN v2, byteN v3] : Bs).flatMap bCells).toArray 5 := by
    rw [List.flatMap_cons, List.flatMap_cons, List.flatMap_cons, List.flatMap_nil, byteN_low b1, byteN_low b2, byteN_low b3]
    exact (Has.new _ _ _).drew
  have hl0 := HL.out
  refine (put_any (HR.out.fresh fr1) [byteN v1, byteN v2, byteN v3] (m := 3) (cap := 3) hb1 rfl (by omega) (by omega)).mono ?_
  rintro e1 w1 ⟨rfl, o1, s1, R1, S1⟩
  have HR1 : Hid (CRep w1 o1 { C with bf := s1, bl := C.bl ++ [byteN v1, byteN v2, byteN v3] } N c) := R1
  have HS1 : Hid (Stp QP w o w1 o1) := (Stp.fresh QP o fr1).trans S1
  clear R1 S1 fr1 hb1 mkP cb3
  go_wp2_with fail
  refine CU.out HR1.out (by have := HL.out; simp only [List.length_cons, List.length_nil]; omega) ⟨by kernel_rfl, by kernel_rfl, by kernel_rfl, by kernel_rfl, by kernel_rfl, rfl⟩ ?_
  intro a2 w2 ha2 I2
  have I2 := LyI.trans HS1.out I2
  obtain ⟨o2, s2, R2, S2⟩ := I2
  obtain ⟨xs2, L2, F2⟩ := R2.fn hx
  have c6 := F2.cell 6 (by omega)
  have fl2 := F2.lt
  simp only [fnV, List.getElem?_cons_succ, List.getElem?_cons_zero, Sl.v] at c6
  obtain ⟨v4, HV4⟩ : ∃ v, Hid ((c.fn x).consts.length = v) := ⟨_, rfl⟩
  have b4 : v4 < 65536 := by rw [← HV4.out]; exact HOK.out.kn
  rw [HV4.out] at c6
  have HR2 : Hid (CRep w2 o2 { C with bf := s2, bl := C.bl ++ ([byteN v1, byteN v2, byteN v3] ++ (c.fn x).ups.flatMap upB) } N c) := R2
  have HS2 : Hid (Stp QP w o w2 o2) := S2
  have hlu : ((c.fn x).ups.flatMap upB).length = 2 * (c.fn x).ups.length := flatMap_len2 upB 2 (fun _ => rfl) _
  have HLU : Hid (((c.fn x).ups.flatMap upB).length = 2 * (c.fn x).ups.length) := hlu
  have HP2 := put16_any R2 b4 (by have := HL.out; simp only [List.length_append, List.length_cons, List.length_nil, hlu]; omega)
  obtain ⟨u2, rfl⟩ := ha2.form
  clear R2 S2 F2 hlu ha2
  go_wp2_with fail
  refine HP2.mono ?_
  rintro e3 w3 ⟨rfl, o3, s3, R3, S3⟩
  have HR3 : Hid (CRep w3 o3 { C with bf := s3, bl := C.bl ++ ([byteN v1, byteN v2, byteN v3] ++ (c.fn x).ups.flatMap upB ++ put16 v4) } N c) := by
    have := R3
    simp only [List.append_assoc] at this ⊢
    exact this
  have HS3 : Hid (Stp QP w o w3 o3) := HS2.out.trans S3
  clear R3 S3 HP2 c6 fl2
  go_wp2_with fail
  refine CK.out HR3.out (by have h1 := HL.out; have h2 := HLU.out; simp only [List.length_append, List.length_cons, List.length_nil, h2, put16]; omega) ⟨by kernel_rfl, by kernel_rfl, by kernel_rfl, by kernel_rfl, by kernel_rfl, rfl⟩ (fun c a t v w h => HQ.out c a t v w h) ?_
  intro a4 w4 ha4 I4
  have I4 := LyI.trans HS3.out I4
  obtain ⟨o4, s4, R4, S4⟩ := I4
  obtain ⟨xs4, L4, F4⟩ := R4.fn hx
  have c9 := F4.cell 9 (by omega)
  have fl4 := F4.lt
  simp only [fnV, List.getElem?_cons_succ, List.getElem?_cons_zero, Sl.v] at c9
  obtain ⟨v5, HV5⟩ : ∃ v, Hid ((c.fn x).code.length = v) := ⟨_, rfl⟩
  have b5 : v5 < 65536 := by rw [← HV5.out]; exact HOK.out.cn
  rw [HV5.out] at c9
  have HR4 : Hid (CRep w4 o4 { C with bf := s4, bl := C.bl ++ ([byteN v1, byteN v2, byteN v3] ++ (c.fn x).ups.flatMap upB ++ put16 v4 ++ (c.fn x).consts.flatMap layC) } N c) := R4
  have HS4 : Hid (Stp QP w o w4 o4) := S4
  have hlk : ((c.fn x).consts.flatMap layC).length ≤ 42 * (c.fn x).consts.length := flatm_len layC 42 _ (fun v hv => layC_len (HOK.out.kt v hv))
  have HLK : Hid (((c.fn x).consts.flatMap layC).length ≤ 42 * (c.fn x).consts.length) := hlk
  have HP4 := put16_any R4 b5 (by have h1 := HL.out; have h2 := HLU.out; simp only [List.length_append, List.length_cons, List.length_nil, h2, put16]; omega)
  obtain ⟨u4, rfl⟩ := ha4.form
  clear R4 S4 F4 hlk ha4
  go_wp2_with fail
  refine HP4.mono ?_
  rintro e5 w5 ⟨rfl, o5, s5, R5, S5⟩
  have HR5 : Hid (CRep w5 o5 { C with bf := s5, bl := C.bl ++ ([byteN v1, byteN v2, byteN v3] ++ (c.fn x).ups.flatMap upB ++ put16 v4 ++ (c.fn x).consts.flatMap layC ++ put16 v5) } N c) := by
    have := R5
    simp only [List.append_assoc] at this ⊢
    exact this
  have HS5 : Hid (Stp QP w o w5 o5) := HS4.out.trans S5
  clear R5 S5 HP4 c9 fl4
  go_wp2_with fail
  refine CD.out HR5.out (by have h1 := HL.out; have h2 := HLU.out; have h3 := HLK.out; simp only [List.length_append, List.length_cons, List.length_nil, h2, put16]; omega) ⟨by kernel_rfl, by kernel_rfl, by kernel_rfl, by kernel_rfl, by kernel_rfl, rfl⟩ ?_
  intro a6 w6 ha6 I6
  have I6 := LyI.trans HS5.out I6
  refine HK.out _ _ ha6 ?_
  have e : layF (c.fn x) = [byteN v1, byteN v2, byteN v3] ++ (c.fn x).ups.flatMap upB ++ put16 v4 ++ (c.fn x).consts.flatMap layC ++ put16 v5 ++ (c.fn x).code.flatMap inB := by
    rw [← HV1.out, ← HV2.out, ← HV3.out, ← HV4.out, ← HV5.out]
    rfl
  rw [e]
  exact I6
end
end Go.Proofs.Qxb6500574aGreatDoor
