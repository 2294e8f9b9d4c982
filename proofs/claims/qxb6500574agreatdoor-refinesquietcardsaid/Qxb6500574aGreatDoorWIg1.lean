/-
  THE WALK of comp: Image.
-/
import Derived.Test.Qxb6500574aGreatDoorWIg0
import Derived.Test.Qxb6500574aGreatDoorWNe
namespace Go.Proofs.Qxb6500574aGreatDoor
open Go Go.RowKit
set_option linter.unusedVariables false
set_option linter.unusedSimpArgs false
open Go.Lib
theorem tree_ne {src : Bs} {y : Nat × Nat} (h : treeP src = .inl y) : y.1 ≠ 0 := by
  unfold treeP at h
  split at h
  · cases h
    exact Nat.one_ne_zero
  · rename_i hl
    have E := (scan_tka src).etk
    dsimp only at h
    split at h
    · rename_i e he
      cases h
      exact par_eo E _ _ _ _ _ _ he
    · rename_i x hx
      split at h
      · obtain ⟨z, hz⟩ : ∃ z, failP (scanP src) x.2 15 = .inl z := ⟨_, rfl⟩
        rw [hz] at h
        cases h
        exact EO.fail E x.2 (e := 15) (by decide) y hz
      · split at h
        · cases h
          exact (by decide : (17 : Nat) ≠ 0)
        · cases h
/-- labels that a compilation may turn -/
def QI (l : Nat) : Prop := QS l ∨ QC l
/-- the compiler between two calls -/
structure CX (w : World) (o : Nat → Nat) (C : CC) (sx : Nat) (num : Value) (c : CmD) : Prop where
  R : CRep w o C [] c
  sn : C.sn = sl0
  ps : C.ps = .pointer (some ⟨sx, 0, none⟩)
  S : ∃ T A, SyRep w o sx num T A ∧ SyOk T A
/-- what Image comes to -/
def ImQ (w : World) (o : Nat → Nat) (C : CC) (sx : Nat) (num : Value) (c : CmD) (src : Bs) (e : Ending) (w' : World) : Prop :=
  ∃ o' C' c', CX w' o' C' sx num c' ∧ C'.cb = C.cb ∧ C'.gF = C.gF ∧ C'.dv = C.dv ∧ Stp QI w o w' o' ∧
    ((∃ y, treeP src = .inl y ∧ e = .returned (.tuple #[sv [], .int .i64 (y.1 : Nat), .int .i64 (y.2 : Nat)]) ∧ C' = C ∧ c' = c) ∨
     (∃ N root, treeP src = .inr (N, root) ∧ e = .returned (.tuple #[sv (layP (comP N root)), .int .i64 0, .int .i64 0]) ∧ c' = comP N root ∧ C'.bl = layP (comP N root)))
section
set_option maxRecDepth 100000
set_option maxHeartbeats 1000000
variable {w : World} {o : Nat → Nat} {C : CC} {sx : Nat} {num : Value} {c : CmD}
theorem image_any (h : CX w o C sx num c) (src : Bs) : Calls Tryz.prog 23 #[.pointer (some ⟨C.cb, 0, none⟩), sv src] w (ImQ w o C sx num c src) := by
  obtain ⟨T, A, hS, hK⟩ := h.S
  have b0 := h.R.blk.has.cell 0
  have bl := h.R.blk.has.lt
  simp only [comC, List.getElem?_toArray, List.getElem?_cons_zero, h.ps] at b0
  have HX : Hid (CX w o C sx num c) := h
  have HP : Hid (Calls Tryz.prog 38 #[.pointer (some ⟨sx, 0, none⟩), sv src] w (PaQ w o sx num src)) := sparse_any hS hK src
  clear h hS hK
  go_enter Tryz.func23, Tryz.ntmps23
  go_wp2_with fail
  refine HP.out.mono ?_
  rintro e1 w1 ⟨o1, T1, A1, S1, K1, St1, (⟨y, hy, rfl⟩ | ⟨N, root, tb, hy, rfl, TA⟩)⟩
  · have hne : y.1 ≠ 0 := tree_ne hy
    obtain ⟨ye, yp⟩ := y
    simp only at hne
    have hne' : ((ye : Int) != 0) = true := by simp; exact hne
    have HF : Hid (ImQ w o C sx num c src (.returned (.tuple #[sv [], .int .i64 (ye : Nat), .int .i64 (yp : Nat)])) w1) :=
      ⟨o1, C, c, ⟨HX.out.R.stN HX.out.sn St1 (by unfold QS; omega) (fun l hl => by unfold QC at hl; unfold QS; omega), HX.out.sn, HX.out.ps, T1, A1, S1, K1⟩, rfl, rfl, rfl, St1.weaken (fun l hl => .inl hl), .inl ⟨(ye, yp), hy, rfl, rfl, rfl⟩⟩
    clear S1 K1 St1 hy HX HP
    go_wp2_with fail
    go_ret3
    exact HF.out
  · obtain ⟨g, t1, t2, t3, t4, t5, t6, t7, t8⟩ := TA.ex
    have T0 := tree_shape hy
    obtain ⟨h0, _⟩ := tree_zero hy
    have hle := T0.le
    have hn1 := T0.n1
    obtain ⟨bb, l, al', CO, hc, hs⟩ := com_ok T0 h0
    have FI := com_fits T0.le h0 CO hc hs
    have St2 : Stp QS w o w1 (upd o1 g 1042) := ⟨St1.fr, fun k hk => (upd_ne o1 1042 (by omega)).trans (St1.ext k hk), fun hh k hk => by rw [upd_ne o1 1042 (by omega)]; exact St1.hi hh k hk⟩
    have R1 := HX.out.R.stN HX.out.sn St2 (by unfold QS; omega) (fun l hl => by unfold QC at hl; unfold QS; omega)
    have Sy1 := S1.lab (lb := 1042) t7 t4
    obtain ⟨n, HNN⟩ : ∃ n : Nat, Hid (N.length = n) := ⟨_, rfl⟩
    rw [HNN.out] at t1 t2
    obtain ⟨R2, P2⟩ := R1.take t2 HNN.out (upd_self _ _ _)
    obtain ⟨R3, P3⟩ := R2.zero
    have otb : upd o1 g 1042 tb = 0 ∨ upd o1 g 1042 tb = 1042 := by
      by_cases e : tb = g
      · right; rw [e]; exact upd_self _ _ _
      · left; rw [upd_ne o1 1042 e]; exact t8
    have HT1 : Hid (Has w1 tb #[.slice (some ⟨g, 0, none⟩) n n, .int .i64 (root : Nat)] 111) := t1
    have HTB : Hid (upd o1 g 1042 tb = 0 ∨ upd o1 g 1042 tb = 1042) := otb
    have d0 : w1.cell? ⟨tb, 0, none⟩ = some (.slice (some ⟨g, 0, none⟩) n n) := by rw [t1.cell]; rfl
    have dl := t1.lt
    have cbl := R1.blk.has.lt
    have cz2 := R1.blk.has.frozen 2
    have cz4 := R1.blk.has.frozen 4
    have c2 := R1.blk.has.cell 2
    have c4 := R1.blk.has.cell 4
    simp only [comC, List.getElem?_toArray, List.getElem?_cons_succ, List.getElem?_cons_zero, Sl.v] at c2 c4
    have HR3 : Hid (CRep _ _ { C with sn := ⟨some ⟨g, 0, none⟩, n⟩ } N cm00) := R3
    have HS3 : Hid (Stp QI w o _ (upd o1 g 1042)) := ((St2.weaken (fun l hl => .inl hl)).trans (P2.weaken (fun l hl => .inr (by unfold QC; omega)))).trans (P3.weaken (fun l hl => .inr (by unfold QC; omega)))
    have HP3 : Hid (Stp (fun l => l = 1050) w1 (upd o1 g 1042) _ (upd o1 g 1042)) := P2.trans P3
    have HSy : Hid (SyRep w1 (upd o1 g 1042) sx num T1 A1) := Sy1
    have HK1 : Hid (SyOk T1 A1) := K1
    have HFR := fresh_any R3 (x := 0) rfl (by decide) none
    have HPL : Hid (treeP src = .inr (N, root)) := hy
    have HFI : Hid (DI2 N (comP N root) bb) := FI
    have HC : Hid (Chain N root l) := hc
    have HQ : Hid (SeqS (fun x lo a b al al' => Sh N 0 x lo a b 120 al al' false) l 0 (N.length - 1) 0 bb 0 al') := hs
    have HH0 : Hid ((N.getD 0 nd0).k = 0) := h0
    have HLE : Hid (N.length ≤ 301 ∧ 1 ≤ N.length) := ⟨hle, hn1⟩
    clear S1 K1 St1 hy TA t1 t2 t3 t4 t5 t6 t7 t8 T0 h0 hle hn1 CO FI hc hs St2 R1 Sy1 R2 P2 R3 P3 otb HP
    unfold pptr at HFR
    go_wp2_with fail
    refine HFR.mono ?_
    rintro e4 w4 ⟨rfl, o4, R4, S4⟩
    have HT4 : Hid (Has w4 tb #[.slice (some ⟨g, 0, none⟩) n n, .int .i64 (root : Nat)] 111) := S4.has (HP3.out.has HT1.out (by rcases HTB.out with h | h <;> (rw [h]; omega))) (by rcases HTB.out with h | h <;> (rw [h]; unfold QC; omega))
    have HS4 : Hid (Stp QI w o w4 o4) := HS3.out.trans (S4.weaken (fun l hl => .inr hl))
    have HSy4 : Hid (SyRep w4 o4 sx num T1 A1) := (HSy.out.st HP3.out (by omega) (by omega) (by omega) (by omega)).st S4 (by unfold QC; omega) (by unfold QC; omega) (by unfold QC; omega) (by unfold QC; omega)
    have d1 : w4.cell? ⟨tb, 1, none⟩ = some (.int .i64 (root : Nat)) := by rw [HT4.out.cell]; rfl
    have dl4 := HT4.out.lt
    have HB := body_w (CA.all HH0.out (2 * N.length + 5)) (CW.all (C := { C with sn := ⟨some ⟨g, 0, none⟩, n⟩ }) (by have := HLE.out; omega) HH0.out (CA.all HH0.out) (2 * N.length + 5)) (main_cb R4 HLE.out.1) (lo := 0) (hi := N.length - 1) (b := bb) (lb := 0) (lp := false) HC.out HQ.out (by have := HLE.out; omega) (fun e => by cases e) (LpB.nil _) (by omega) (by omega) (by omega)
    clear R4 S4 HFR
    unfold fptr at HB ⊢
    go_wp2_with fail
    refine HB.mono ?_
    rintro e5 w5 ⟨rfl, o5, B5, S5⟩
    have R5 : CRep w5 o5 { C with sn := ⟨some ⟨g, 0, none⟩, n⟩ } N (comP N root) := B5.R
    obtain ⟨R6, P6⟩ := R5.drop
    have HSy6 : Hid (SyRep _ o5 sx num T1 A1) := (HSy4.out.st S5 (by unfold QC; omega) (by unfold QC; omega) (by unfold QC; omega) (by unfold QC; omega)).st P6 (by omega) (by omega) (by omega) (by omega)
    have HS6 : Hid (Stp QI w o _ o5) := (HS4.out.trans (S5.weaken (fun l hl => .inr hl))).trans (P6.weaken (fun l hl => .inr (by unfold QC; omega)))
    have HLY := clay_any R6 (by have := HFI.out.np; omega) (HFI.out.lay HLE.out.1)
    have k2 := R5.blk.has.cell 2
    have kl := R5.blk.has.lt
    have kz := R5.blk.has.frozen 2
    simp only [comC, List.getElem?_toArray, List.getElem?_cons_succ, List.getElem?_cons_zero, Sl.v] at k2
    rw [HNN.out] at k2
    clear B5 S5 R5 R6 P6 HB
    go_wp2_with fail
    refine HLY.mono ?_
    rintro e7 w7 ⟨rfl, o7, s7, R7, S7⟩
    have HF : Hid (ImQ w o C sx num c src (.returned (.tuple #[sv (layP (comP N root)), .int .i64 0, .int .i64 0])) w7) :=
      ⟨o7, _, comP N root, ⟨R7, rfl, HX.out.ps, T1, A1, HSy6.out.st S7 (by unfold QP; omega) (by unfold QP; omega) (by unfold QP; omega) (by unfold QP; omega), HK1.out⟩, rfl, rfl, rfl, HS6.out.trans (S7.weaken (fun l hl => .inr (by unfold QP at hl; unfold QC; omega))), .inr ⟨N, root, HPL.out, rfl, rfl, rfl⟩⟩
    clear R7 S7 HLY
    obtain ⟨im, HIM⟩ : ∃ im, Hid (layP (comP N root) = im) := ⟨_, rfl⟩
    rw [HIM.out] at HF ⊢
    go_wp2_with fail
    go_ret3
    exact HF.out
end
end Go.Proofs.Qxb6500574aGreatDoor
