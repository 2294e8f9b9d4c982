/-
  THE WALKS of comp: Run, Left.
-/
import Derived.Test.Qxb6500574aGreatDoorWRu0
namespace Go.Proofs.Qxb6500574aGreatDoor
open Go Go.RowKit
set_option linter.unusedVariables false
set_option linter.unusedSimpArgs false
/-- what Run comes to -/
def RuQ (bc : Nat) (w : World) (o : Nat → Nat) (C : CC) (sx : Nat) (num : Value) (an : AnD) (e : Ending) (w' : World) : Prop :=
  e = .returned (.agg (anCells an)) ∧ ∃ o' A' C' c', CM bc w' o' A' C' sx num c' ∧ C'.cb = C.cb ∧ C'.gF = C.gF ∧ Stp QM w o w' o'
section
set_option maxRecDepth 100000
set_option maxHeartbeats 1000000
variable {w w9 : World} {o o9 : Nat → Nat} {C C9 : CC} {sx bc ba : Nat} {num : Value} {c c9 : CmD} {A A9 : VL}
/-- the answer is written -/
theorem ru_put {an : AnD} (h : CM bc w9 o9 A9 C9 sx num c9) (hcb : C9.cb = C.cb) (hgF : C9.gF = C.gF) (S : Stp QM w o w9 o9) (ha : Has w9 ba #[.int .i64 0, .int .i64 0, .int .i64 0, sv [], sv []] 54) (oa : o9 ba = 998) :
    RuQ bc w o C sx num an (.returned (.agg (anCells an))) (((((w9.setCell ⟨ba, 0, none⟩ (.int .i64 an.e)).setCell ⟨ba, 1, none⟩ (.int .i64 an.n)).setCell ⟨ba, 2, none⟩ (.int .i64 an.m)).setCell ⟨ba, 3, none⟩ (sv an.s)).setCell ⟨ba, 4, none⟩ (sv an.t)) ∧
      Has (((((w9.setCell ⟨ba, 0, none⟩ (.int .i64 an.e)).setCell ⟨ba, 1, none⟩ (.int .i64 an.n)).setCell ⟨ba, 2, none⟩ (.int .i64 an.m)).setCell ⟨ba, 3, none⟩ (sv an.s)).setCell ⟨ba, 4, none⟩ (sv an.t)) ba (anCells an) 54 := by
  have s0 := h.set (p := ⟨ba, 0, none⟩) oa (.int .i64 an.e)
  have s1 := s0.1.set (p := ⟨ba, 1, none⟩) oa (.int .i64 an.n)
  have s2 := s1.1.set (p := ⟨ba, 2, none⟩) oa (.int .i64 an.m)
  have s3 := s2.1.set (p := ⟨ba, 3, none⟩) oa (sv an.s)
  have s4 := s3.1.set (p := ⟨ba, 4, none⟩) oa (sv an.t)
  refine ⟨⟨rfl, o9, A9, C9, c9, s4.1, hcb, hgF, ((((S.trans s0.2).trans s1.2).trans s2.2).trans s3.2).trans s4.2⟩, ?_⟩
  have := ((((ha.put 0 (.int .i64 an.e)).put 1 (.int .i64 an.n)).put 2 (.int .i64 an.m)).put 3 (sv an.s)).put 4 (sv an.t)
  simpa using this
theorem cleft_any (h : CM bc w o A C sx num c) : Calls Tryz.prog 18 #[.pointer (some ⟨C.cb, 0, none⟩)] w fun e' w' => e' = .returned (.int .i64 0) ∧ w' = w := by
  obtain ⟨⟨m, f, e, s, R, hc, _⟩, _⟩ := h.I
  have L := left_any hc
  have b1 := h.X.R.blk.has.cell 1
  have bl := h.X.R.blk.has.lt
  simp only [comC, List.getElem?_toArray, List.getElem?_cons_succ, List.getElem?_cons_zero, h.dv] at b1
  clear h R hc
  go_enter Tryz.func18, Tryz.ntmps18
  go_wp2_with fail
  refine L.mono ?_
  rintro e' w' ⟨rfl, hw⟩
  rw [hw]
  go_wp2_with fail
  go_ret
  exact ⟨rfl, rfl⟩
theorem crun_any (h : CM bc w o A C sx num c) {src : Bs} {fuel : Int} (hf1 : fuel ≤ 9223372036854775807) {n : Nat} {an : AnD} (hr : ∀ img, imageP src = .inr img → runN n img fuel = some an) (he : ∀ y, imageP src = .inl y → an = ⟨y.1, y.2, 0, [], []⟩) :
    Calls Tryz.prog 17 #[.pointer (some ⟨C.cb, 0, none⟩), sv src, .int .i64 fuel] w (RuQ bc w o C sx num an) := by
  obtain ⟨ba, HBA⟩ : ∃ b, Hid (w.heap.size = b) := ⟨_, rfl⟩
  obtain ⟨W1, HW1⟩ : ∃ W, Hid (w.alloc (.cells #[.int .i64 0, .int .i64 0, .int .i64 0, sv [], sv []] 54) = W) := ⟨_, Eq.refl _⟩
  have e1 : w.alloc (.cells #[.int .i64 0, .int .i64 0, .int .i64 0, sv [], sv []] 54) = W1 := HW1.out
  have hL := h.local (.cells #[.int .i64 0, .int .i64 0, .int .i64 0, sv [], sv []] 54)
  have hA : Has _ ba #[.int .i64 0, .int .i64 0, .int .i64 0, sv [], sv []] 54 := Has.newC w _ _ HBA.out.symm
  rw [HBA.out, HW1.out] at hL
  rw [HW1.out] at hA
  have HM1 : Hid (CM bc W1 (upd o ba 998) A C sx num c) := hL.1
  have HS1 : Hid (Stp QM w o W1 (upd o ba 998)) := hL.2
  have HA1 : Hid (Has W1 ba #[.int .i64 0, .int .i64 0, .int .i64 0, sv [], sv []] 54) := hA
  have HI : Hid (Calls Tryz.prog 23 #[.pointer (some ⟨C.cb, 0, none⟩), sv src] W1 (ImQ W1 (upd o ba 998) C sx num c src)) := image_any HM1.out.X src
  have HR : Hid (∀ img, imageP src = .inr img → runN n img fuel = some an) := hr
  have HE : Hid (∀ y, imageP src = .inl y → an = ⟨y.1, y.2, 0, [], []⟩) := he
  clear h hL hA hr he
  go_enter Tryz.func17, Tryz.ntmps17
  go_wp2_with fail
  rw [HBA.out]
  refine HI.out.mono ?_
  rintro e2 w2 ⟨o2, C2, c2, X2, hcb, hgF, hdv, S2, (⟨y, hy, rfl, hC, hc⟩ | ⟨N, root, hy, rfl, hc, hbl⟩)⟩
  · have M2 : CM bc w2 o2 A C2 sx num c2 := HM1.out.turn X2 hdv S2 (fun q => by have := q.lo; omega) (by rw [hC, hc]; exact HM1.out.ok)
    have ha2 := S2.has HA1.out (by rw [upd_self]; exact fun q => by have := q.lo; omega)
    have oa2 : o2 ba = 998 := by rw [S2.ext ba HA1.out.lt]; exact upd_self _ _ _
    have hne : y.1 ≠ 0 := tree_ne hy
    have han := HE.out y (by unfold imageP; rw [hy])
    obtain ⟨ye, yp⟩ := y
    have HF := ru_put (an := ⟨ye, yp, 0, [], []⟩) M2 hcb hgF (HS1.out.trans (S2.weaken (fun l hl => .inl hl))) ha2 oa2
    have hne' : ((ye : Int) != 0) = true := by rw [bne_iff_ne]; simp only at hne; omega
    have HF2 : Hid (RuQ bc w o C sx num an (.returned (.agg #[.int .i64 ye, .int .i64 yp, .int .i64 0, sv [], sv []])) (((((w2.setCell ⟨ba, 0, none⟩ (.int .i64 ye)).setCell ⟨ba, 1, none⟩ (.int .i64 yp)).setCell ⟨ba, 2, none⟩ (.int .i64 0)).setCell ⟨ba, 3, none⟩ (sv [])).setCell ⟨ba, 4, none⟩ (sv [])) ∧
      Has (((((w2.setCell ⟨ba, 0, none⟩ (.int .i64 ye)).setCell ⟨ba, 1, none⟩ (.int .i64 yp)).setCell ⟨ba, 2, none⟩ (.int .i64 0)).setCell ⟨ba, 3, none⟩ (sv [])).setCell ⟨ba, 4, none⟩ (sv [])) ba #[.int .i64 ye, .int .i64 yp, .int .i64 0, sv [], sv []] 54) := by
      rw [han]
      exact HF
    have a0 := ha2.cell 0
    have a1 := ha2.cell 1
    have a2 := ha2.cell 2
    have a3 := ha2.cell 3
    have a4 := ha2.cell 4
    have az := ha2.frozen
    have az0 := az 0
    have az1 := az 1
    have az2 := az 2
    have az3 := az 3
    have az4 := az 4
    have al := ha2.lt
    simp only [List.getElem?_toArray, List.getElem?_cons_succ, List.getElem?_cons_zero] at a0 a1 a2 a3 a4
    clear HF X2 hcb hgF hdv S2 M2 hC hc hy ha2 oa2 han az hne HI HR HE e1 HW1
    go_wp2_with fail
    exact bodyPost_ret (res_cell isAns rfl rfl HF2.out.2 rfl) rfl HF2.out.1
  · have M2 : CM bc w2 o2 A C2 sx num c2 := HM1.out.turn X2 hdv S2 (fun q => by have := q.lo; omega) (.inr ⟨src, N, root, hy, hc, hbl⟩)
    have ha2 := S2.has HA1.out (by rw [upd_self]; exact fun q => by have := q.lo; omega)
    have oa2 : o2 ba = 998 := by rw [S2.ext ba HA1.out.lt]; exact upd_self _ _ _
    obtain ⟨im, HIM⟩ : ∃ im, Hid (layP (comP N root) = im) := ⟨_, rfl⟩
    have hrn := HR.out im (by unfold imageP; rw [hy, ← HIM.out])
    rw [HIM.out]
    have HRN : Hid (Calls Tryz.prog 32 #[.pointer (some ⟨bc, 0, none⟩), sv im, .int .i64 fuel] w2 (RnPost bc w2 A an)) := runC_any M2.I hf1 hrn
    have b1 := M2.X.R.blk.has.cell 1
    have bl := M2.X.R.blk.has.lt
    simp only [comC, List.getElem?_toArray, List.getElem?_cons_succ, List.getElem?_cons_zero, M2.dv] at b1
    rw [hcb] at b1 bl
    have HM2 : Hid (CM bc w2 o2 A C2 sx num c2 ∧ C2.cb = C.cb ∧ C2.gF = C.gF) := ⟨M2, hcb, hgF⟩
    have HS2 : Hid (Stp QM w o w2 o2) := HS1.out.trans (S2.weaken (fun l hl => .inl hl))
    have HA2 : Hid (Has w2 ba #[.int .i64 0, .int .i64 0, .int .i64 0, sv [], sv []] 54 ∧ o2 ba = 998) := ⟨ha2, oa2⟩
    clear X2 hcb hgF hdv S2 M2 hc hbl hy ha2 oa2 hrn HI HR HE e1 HW1
    go_wp2_with fail
    refine HRN.out.mono ?_
    rintro e3 w3 ⟨rfl, A3, I3, S3⟩
    obtain ⟨o3, M3, T3⟩ := HM2.out.1.run I3 S3
    have ha3 := T3.has HA2.out.1 (by rw [HA2.out.2]; omega)
    have oa3 : o3 ba = 998 := by rw [T3.ext ba HA2.out.1.lt]; exact HA2.out.2
    have HF2 : Hid _ := ru_put (an := an) M3 HM2.out.2.1 HM2.out.2.2 (HS2.out.trans (T3.weaken (fun l hl => .inr (.inl hl)))) ha3 oa3
    have a0 := ha3.cell 0
    have a1 := ha3.cell 1
    have a2 := ha3.cell 2
    have a3 := ha3.cell 3
    have a4 := ha3.cell 4
    have az := ha3.frozen
    have az0 := az 0
    have az1 := az 1
    have az2 := az 2
    have az3 := az 3
    have az4 := az 4
    have al := ha3.lt
    simp only [List.getElem?_toArray, List.getElem?_cons_succ, List.getElem?_cons_zero] at a0 a1 a2 a3 a4
    obtain ⟨ae, an', am, ax, ay⟩ := an
    clear HRN HM2 HS2 HA2 M3 T3 I3 S3 ha3 oa3 az
    go_wp2_with fail
    exact bodyPost_ret (res_cell isAns rfl rfl HF2.out.2 rfl) rfl HF2.out.1
end
end Go.Proofs.Qxb6500574aGreatDoor
