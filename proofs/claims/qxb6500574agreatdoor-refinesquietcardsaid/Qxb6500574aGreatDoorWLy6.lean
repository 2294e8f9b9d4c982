/-
  THE WALK of comp: lay whole.
-/
import Derived.Test.Qxb6500574aGreatDoorWLy5
import Derived.Test.Qxb6500574aGreatDoorVRunC
namespace Go.Proofs.Qxb6500574aGreatDoor
open Go Go.RowKit
set_option linter.unusedVariables false
set_option linter.unusedSimpArgs false
open Go.Lib
structure Fr41a (cb x np : Nat) (a : Act) : Prop where
  size : a.tmps.size = 161
  t0 : a.tmps[0]? = some (.pointer (some ⟨cb, 0, none⟩))
  t31 : a.tmps[31]? = some (.int .i64 np)
  t32 : a.tmps[32]? = some (.int .i64 x)
  df : a.defers = []
set_option maxRecDepth 100000 in
theorem Fr41a.form {cb x np : Nat} {a : Act} (H : Fr41a cb x np a) : ∃ u : Nat → Value, a = { tmps := List.toArray (.pointer (some ⟨cb, 0, none⟩) :: u 1 :: u 2 :: u 3 :: u 4 :: u 5 :: u 6 :: u 7 :: u 8 :: u 9 :: u 10 :: u 11 :: u 12 :: u 13 :: u 14 :: u 15 :: u 16 :: u 17 :: u 18 :: u 19 :: u 20 :: u 21 :: u 22 :: u 23 :: u 24 :: u 25 :: u 26 :: u 27 :: u 28 :: u 29 :: u 30 :: .int .i64 np :: .int .i64 x :: u 33 :: u 34 :: u 35 :: u 36 :: u 37 :: u 38 :: u 39 :: u 40 :: u 41 :: u 42 :: u 43 :: u 44 :: u 45 :: u 46 :: u 47 :: u 48 :: u 49 :: u 50 :: u 51 :: u 52 :: u 53 :: u 54 :: u 55 :: u 56 :: u 57 :: u 58 :: u 59 :: u 60 :: u 61 :: u 62 :: u 63 :: u 64 :: u 65 :: u 66 :: u 67 :: u 68 :: u 69 :: u 70 :: u 71 :: u 72 :: u 73 :: u 74 :: u 75 :: u 76 :: u 77 :: u 78 :: u 79 :: u 80 :: u 81 :: u 82 :: u 83 :: u 84 :: u 85 :: u 86 :: u 87 :: u 88 :: u 89 :: u 90 :: u 91 :: u 92 :: u 93 :: u 94 :: u 95 :: u 96 :: u 97 :: u 98 :: u 99 :: u 100 :: u 101 :: u 102 :: u 103 :: u 104 :: u 105 :: u 106 :: u 107 :: u 108 :: u 109 :: u 110 :: u 111 :: u 112 :: u 113 :: u 114 :: u 115 :: u 116 :: u 117 :: u 118 :: u 119 :: u 120 :: u 121 :: u 122 :: u 123 :: u 124 :: u 125 :: u 126 :: u 127 :: u 128 :: u 129 :: u 130 :: u 131 :: u 132 :: u 133 :: u 134 :: u 135 :: u 136 :: u 137 :: u 138 :: u 139 :: u 140 :: u 141 :: u 142 :: u 143 :: u 144 :: u 145 :: u 146 :: u 147 :: u 148 :: u 149 :: u 150 :: u 151 :: u 152 :: u 153 :: u 154 :: u 155 :: u 156 :: u 157 :: u 158 :: u 159 :: u 160 :: []), defers := [] } := by
  obtain ⟨tmps, defers⟩ := a
  obtain ⟨h1, h2, h4, h6, h5⟩ := H
  simp only at h1 h2 h4 h5 h6
  subst h5
  refine ⟨fun i => tmps.getD i undef, ?_⟩
  congr 1
  apply Array.ext'
  have e : tmps.toList = (List.range 161).map (fun i => tmps.getD i undef) := by
    apply List.ext_getElem
    · simpa using h1
    · intro i a1 a2
      simp at a1
      simp [Array.getD, a1]
  rw [e]
  have g0 : tmps.getD 0 undef = .pointer (some ⟨cb, 0, none⟩) := by simp [Array.getD_eq_getD_getElem?, h2]
  have g31 : tmps.getD 31 undef = .int .i64 np := by simp [Array.getD_eq_getD_getElem?, h4]
  have g32 : tmps.getD 32 undef = .int .i64 x := by simp [Array.getD_eq_getD_getElem?, h6]
  rw [← g0, ← g31, ← g32]
  exact List.range161 (fun i => tmps.getD i undef)
theorem wp_then_self {P : Program} {c : Code} {R : Exit → Act → World → Prop} {a : Act} {w : World} (h : c.wp P (Exit.then (fun a' w' => R .normal a' w') R) a w) : c.wp P R a w := by
  refine wp_mono h ?_
  intro e a' w' hq
  cases e <;> exact hq
/-- what is laid of x states -/
def lyP (c : CmD) (x : Nat) : Bs := byteN c.np :: (c.fns.take x).flatMap layF
theorem lyP_succ {c : CmD} {x : Nat} (h : x < c.fns.length) : lyP c (x + 1) = lyP c x ++ layF (c.fn x) := by
  unfold lyP CmD.fn
  rw [List.take_add_one, List.getD_eq_getElem?_getD, List.getElem?_eq_getElem h, List.flatMap_append]
  simp only [Option.toList_some, List.flatMap_cons, List.flatMap_nil, List.append_nil, Option.getD_some, List.cons_append]
section
set_option maxRecDepth 100000
set_option maxHeartbeats 1000000
variable {w : World} {o : Nat → Nat} {C : CC} {N : List Nd} {c : CmD}
/-- the image's text -/
theorem buf_text (R : CRep w o C N c) : (convert 49 9 (.slice C.bf.a C.bl.length C.bf.c)).run Tryz.prog w = .ok (sv C.bl) w := by
  refine conv_text C.bf.a C.bf.c C.bl (fun h0 => ?_)
  obtain ⟨g, u1, _, _, _, u5, _⟩ := R.buf.at bCells_len (j := 0) (List.getElem?_eq_getElem h0)
  refine ⟨_, u1, fun j hj => ?_⟩
  obtain ⟨g2, v1, _, _, _, v5, _⟩ := R.buf.at bCells_len (j := j) (List.getElem?_eq_getElem hj)
  rw [u1] at v1
  cases v1
  have := v5 0 (by omega)
  rw [addr_lit, Nat.zero_add]
  simpa [bCells] using this
theorem clay_any (R : CRep w o C N c) (hnp : 1 ≤ c.np) (ok : ∀ x, x < c.np → LyOk (c.fn x) ∧ 7 + 2 * (c.fn x).ups.length + 42 * (c.fn x).consts.length + 3 * (c.fn x).code.length ≤ 30000) :
    Calls Tryz.prog 41 #[.pointer (some ⟨C.cb, 0, none⟩)] w fun e w' => e = .returned (sv (layP c)) ∧ ∃ o' s, CRep w' o' { C with bf := s, bl := layP c } N c ∧ Stp QP w o w' o' := by
  have h13 := R.np
  have hlen := R.len
  have d5 := R.blk.has.cell 5
  have d4 := R.blk.has.cell 4
  have dl := R.blk.has.lt
  have dz := R.blk.has.frozen 5
  simp only [comC, List.getElem?_toArray, List.getElem?_cons_succ, List.getElem?_cons_zero, Sl.v] at d5 d4
  obtain ⟨p1, p2⟩ := R.blk.put 5 (.slice C.bf.a 0 C.bf.c) (cs' := comC { C with bl := [] } N.length c.np) (by simp [comC, Sl.v])
  have s1 : Stp QP w o (w.setCell ⟨C.cb, 5, none⟩ (.slice C.bf.a 0 C.bf.c)) o := p2.weaken (fun k h => .inl h)
  have R1 : CRep (w.setCell ⟨C.cb, 5, none⟩ (.slice C.bf.a 0 C.bf.c)) o { C with bl := [] } N c := by
    obtain ⟨xs, a1, a2, a3⟩ := R.fns
    refine ⟨p1, R.nds.st s1 (by unfold QP; omega), ?_, ⟨xs, a1.st s1 (by unfold QP; omega) (by unfold QP; omega) (fun x j => by unfold QP labF; omega), a2, a3⟩, R.len, R.np, s1.hi R.ow⟩
    exact (R.buf.take 0 (Nat.zero_le _) (by simp)).st p2 (by omega)
  have HR1 : Hid (CRep (w.setCell ⟨C.cb, 5, none⟩ (.slice C.bf.a 0 C.bf.c)) o { C with bl := [] } N c) := R1
  have HS1 : Hid (Stp QP w o (w.setCell ⟨C.cb, 5, none⟩ (.slice C.bf.a 0 C.bf.c)) o) := s1
  have HOK : Hid (∀ x, x < c.np → LyOk (c.fn x) ∧ 7 + 2 * (c.fn x).ups.length + 42 * (c.fn x).consts.length + 3 * (c.fn x).code.length ≤ 30000) := ok
  have HR : Hid (CRep w o C N c) := R
  obtain ⟨q, HQ⟩ : ∃ q : Nat, Hid (C.bl.length = q) := ⟨_, rfl⟩
  rw [HQ.out] at d5
  obtain ⟨np, HNP⟩ : ∃ np : Nat, Hid (c.np = np) := ⟨_, rfl⟩
  rw [HNP.out] at d4 hnp h13
  clear R R1 p1 p2 s1 ok
  go_enter Tryz.func41, Tryz.ntmps41
  obtain ⟨Q, HQQ⟩ : ∃ Q, Hid (bodyPost Tryz.prog Tryz.f41 (fun e w' => e = .returned (sv (layP c)) ∧ ∃ o' s, CRep w' o' { C with bf := s, bl := layP c } N c ∧ Stp QP w o w' o') = Q) := ⟨_, rfl⟩
  rw [HQQ.out]
  have hQ : Hid (∀ c a t v w, Q (.panic c) (a.put (some t) v) w → Q (.panic c) a w) := by
    rw [← HQQ.out]
    intro c a t v w h
    exact h
  have CY : Hid (∀ {w1 o1 s l x K} {Q : Exit → Act → World → Prop} {a : Act}, CRep w1 o1 { C with bf := s, bl := [] ++ l } N c → x < np → l.length ≤ 13 * 30000 + 1 → Fr41a C.cb x np a → (∀ c a t v w, Q (.panic c) (a.put (some t) v) w → Q (.panic c) a w) → (∀ a' w', Fr41 C.cb C.gF x np a' → LyI w1 o1 { C with bf := s, bl := [] ++ l } N c (layF (c.fn x)) w' → K a' w') → (lyY Tryz.f41.body).wp Tryz.prog (Exit.then K Q) a w1) := by
    intro w1 o1 s l x K Q a R1 hx hl ha hq hk
    obtain ⟨u, hu⟩ := ha.form
    obtain ⟨k1, k2⟩ := HOK.out x (by rw [HNP.out]; exact hx)
    exact row_w R1 (by rw [HNP.out]; exact hx) k1 (by simp only [List.nil_append]; omega) hq hk hu
  show (Code.seq (codeL (Tryz.f41.body.getD .skip)) (Code.seq (codeL (codeR (Tryz.f41.body.getD .skip))) (Code.seq (codeL (codeR (codeR (Tryz.f41.body.getD .skip)))) (Code.seq (Code.seq (codeL (codeL (codeR (codeR (codeR (Tryz.f41.body.getD .skip)))))) (Code.block 0 (Code.loop (Code.seq (codeL (codeIn (codeIn (codeR (codeL (codeR (codeR (codeR (Tryz.f41.body.getD .skip))))))))) (Code.seq (codeL (codeR (codeIn (codeIn (codeR (codeL (codeR (codeR (codeR (Tryz.f41.body.getD .skip)))))))))) (Code.seq (Code.block 1 (lyY Tryz.f41.body)) (codeR (codeR (codeR (codeIn (codeIn (codeR (codeL (codeR (codeR (codeR (Tryz.f41.body.getD .skip))))))))))))))))) (codeR (codeR (codeR (codeR (Tryz.f41.body.getD .skip))))))))).wp Tryz.prog Q _ w
  generalize lyY Tryz.f41.body = PY at CY ⊢
  simp only [codeL, codeR, codeIn, Tryz.f41, Option.getD_some]
  go_wp2_with fail
  have I0 : LyI (w.setCell ⟨C.cb, 5, none⟩ (.slice C.bf.a 0 C.bf.c)) o { C with bl := [] } N c [] (w.setCell ⟨C.cb, 5, none⟩ (.slice C.bf.a 0 C.bf.c)) := ⟨o, C.bf, HR1.out, Stp.refl _ _ _⟩
  refine (I0.put [byteN np] (kb := w.heap.size) (m := 1) (cap := 1) (b := .cells #[.int .u8 (np : Nat)] 5) (by simp [World.setCell]) (by
    rw [List.flatMap_cons, List.flatMap_nil, byteN_low (by omega)]
    exact Has.new _ _ _) rfl (by omega) (by simp)).mono ?_
  rintro e2 w2 ⟨rfl, I2⟩
  have HI2 : Hid (LyI (w.setCell ⟨C.cb, 5, none⟩ (.slice C.bf.a 0 C.bf.c)) o { C with bl := [] } N c (lyP c 0) w2) := by
    have := I2
    rw [← HNP.out] at this
    exact this
  obtain ⟨o2, s2, R2, S2⟩ := I2
  have f4 := R2.blk.has.cell 4
  have fl := R2.blk.has.lt
  simp only [comC, List.getElem?_toArray, List.getElem?_cons_succ, List.getElem?_cons_zero] at f4
  rw [HNP.out] at f4
  clear I0 R2 S2 d4 d5
  go_wp2_with fail
  refine wp_loop_ghost (fun n a' w' => Hid (∃ x, x + n = np ∧ Fr41a C.cb x np a' ∧ LyI (w.setCell ⟨C.cb, 5, none⟩ (.slice C.bf.a 0 C.bf.c)) o { C with bl := [] } N c (lyP c x) w')) np ?_ ?_
  · exact ⟨0, by omega, ⟨by kernel_rfl, by kernel_rfl, by kernel_rfl, by kernel_rfl, rfl⟩, HI2.out⟩
  clear f4 fl HI2
  intro n a w3 hI
  obtain ⟨x, hxn, ha, I3⟩ := hI.out
  obtain ⟨u, rfl⟩ := ha.form
  have hlx : (lyP c x).length ≤ x * 30000 + 1 := by
    have : ∀ y, y ≤ np → (lyP c y).length ≤ y * 30000 + 1 := by
      intro y
      induction y with
      | zero => intro _; simp [lyP]
      | succ y ih =>
        intro hy
        have h1 := ih (by omega)
        obtain ⟨k1, k2⟩ := HOK.out y (by rw [HNP.out]; omega)
        rw [lyP_succ (by omega), List.length_append]
        have h2 : (layF (c.fn y)).length ≤ 7 + 2 * (c.fn y).ups.length + 42 * (c.fn y).consts.length + 3 * (c.fn y).code.length := by
          have e1 : ((c.fn y).ups.flatMap upB).length = 2 * (c.fn y).ups.length := flatMap_len2 upB 2 (fun _ => rfl) _
          have e2 : ((c.fn y).consts.flatMap layC).length ≤ 42 * (c.fn y).consts.length := flatm_len layC 42 _ (fun v hv => layC_len (k1.kt v hv))
          have e3 : ((c.fn y).code.flatMap inB).length = 3 * (c.fn y).code.length := flatMap_len2 inB 3 (fun _ => rfl) _
          have e4 : (layF (c.fn y)).length = 3 + ((c.fn y).ups.flatMap upB).length + 2 + ((c.fn y).consts.flatMap layC).length + 2 + ((c.fn y).code.flatMap inB).length := by
            show ([_, _, _] ++ (c.fn y).ups.flatMap upB ++ put16 _ ++ (c.fn y).consts.flatMap layC ++ put16 _ ++ (c.fn y).code.flatMap inB).length = _
            simp only [List.length_append, List.length_cons, List.length_nil, put16]
          omega
        omega
    exact this x (by omega)
  have HLX : Hid ((lyP c x).length ≤ x * 30000 + 1) := hlx
  have HI3 : Hid (LyI (w.setCell ⟨C.cb, 5, none⟩ (.slice C.bf.a 0 C.bf.c)) o { C with bl := [] } N c (lyP c x) w3) := I3
  have HXN : Hid (x + n = np) := hxn
  by_cases hx : x < np
  · have hx' : (x : Int) < (np : Int) := by omega
    clear hI ha I3 hlx hxn
    go_wp2_with fail
    refine wp_then_self ?_
    obtain ⟨o3, s3, R3, S3⟩ := HI3.out
    refine CY.out R3 hx (by have := HLX.out; omega) ⟨by kernel_rfl, by kernel_rfl, by kernel_rfl, by kernel_rfl, rfl⟩ (fun c a t v w h => hQ.out c a t v w h) ?_
    intro a4 w4 ha4 I4
    have I5 := LyI.trans (C := { C with bl := [] }) S3 I4
    have HI5 : Hid (LyI (w.setCell ⟨C.cb, 5, none⟩ (.slice C.bf.a 0 C.bf.c)) o { C with bl := [] } N c (lyP c (x + 1)) w4) := by
      rw [lyP_succ (by omega)]
      exact I5
    obtain ⟨u4, rfl⟩ := ha4.form
    clear I4 I5 R3 S3 ha4
    go_wp2_with fail
    refine ⟨n - 1, by have := HXN.out; omega, x + 1, by have := HXN.out; omega, ⟨by kernel_rfl, by kernel_rfl, by kernel_rfl, by kernel_rfl, rfl⟩, HI5.out⟩
  · have hx' : ¬ (x : Int) < (np : Int) := by omega
    have hxe : x = np := by omega
    obtain ⟨o3, s3, R3, S3⟩ := I3
    have htx := buf_text R3
    have g5 := R3.blk.has.cell 5
    have gl := R3.blk.has.lt
    simp only [comC, List.getElem?_toArray, List.getElem?_cons_succ, List.getElem?_cons_zero, Sl.v] at g5 htx
    have hfin : [] ++ lyP c x = layP c := by
      rw [hxe, List.nil_append, ← HNP.out]
      rfl
    rw [hfin] at g5 htx
    have HFIN : Hid (∃ o' s, CRep w3 o' { C with bf := s, bl := layP c } N c ∧ Stp QP w o w3 o') := by
      refine ⟨o3, s3, ?_, HS1.out.trans S3⟩
      have := R3
      simp only [hfin] at this
      exact this
    obtain ⟨tl, HTL⟩ : ∃ tl : Nat, Hid ((layP c).length = tl) := ⟨_, rfl⟩
    rw [HTL.out] at g5 htx
    clear hI ha R3 S3 hlx hxn hfin
    go_wp2_with fail
    rw [← HQQ.out]
    go_ret
    exact ⟨rfl, HFIN.out⟩
end
end Go.Proofs.Qxb6500574aGreatDoor
