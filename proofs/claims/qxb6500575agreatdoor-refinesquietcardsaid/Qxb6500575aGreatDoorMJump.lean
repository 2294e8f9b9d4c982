/-
  THE WALK of prepm.chk.jump.
-/
import Derived.Test.Qxb6500575aGreatDoorMPops
import Derived.Test.Qxb6500575aGreatDoorReg2
import Derived.Test.Qxb6500575aGreatDoorAns0
namespace Go.Proofs.Qxb6500575aGreatDoor
open Go Go.RowKit
set_option linter.unusedVariables false
set_option linter.unusedSimpArgs false

theorem jump_res (tmps : Array Value) (w : World) (b : Nat) (x y z u : Value) (hp : tmps.getD 6 undef = .pointer (some ⟨b, 0, none⟩)) (hb : Has w b #[x, y, z, u] 176) :
    (results Tryz.f81 tmps).run Tryz.prog w = .ok (.agg #[x, y, z, u]) w := by
  obtain ⟨fs, hu⟩ : ∃ fs, Tryz.prog.underlying 176 = some (.struct fs) := by
    have hk : (match Tryz.prog.underlying 176 with | some (.struct _) => true | _ => false) = true := by kernel_rfl
    split at hk
    · rename_i fs he
      exact ⟨fs, he⟩
    · cases hk
  exact results_cell_row (p := 6) (ty := 176) rfl tmps w b 176 #[x, y, z, u] _ _ hp hb hu rfl (by kernel_rfl)

/-- what the walk asks of an open block -/
structure Ctl.Fit (c : Ctl) (n : Nat) : Prop where
  b0 : 0 ≤ c.bt
  b1 : c.bt ≤ 255
  ht : c.height ≤ 1000
  at_ : c.at_ = -1 ∨ (0 ≤ c.at_ ∧ c.at_ < n)
  loop : c.op = 2 → 0 ≤ c.at_

theorem endT_range {src : List Ins} {a : Int} (hn : 0 < src.length) (h : a = -1 ∨ (0 ≤ a ∧ a < src.length)) : 0 ≤ endT src a ∧ endT src a < src.length := by
  unfold endT
  rcases h with h | h
  · rw [if_neg (by omega)]; omega
  · rw [if_pos h.1]
    have := (endsR_range (src.drop (a.toNat + 1)) ((a.toNat : Int) + 1) (-1) 0 (by omega) (by omega) (by omega)).2
    unfold endsM
    have hl : (src.drop (a.toNat + 1)).length = src.length - (a.toNat + 1) := by simp
    rw [hl] at this
    omega

set_option maxRecDepth 100000 in
set_option maxHeartbeats 4000000 in
theorem mjump_any (bk : Nat) (L : MkL) (s : Mk) (src : List Ins) (a : Option Addr) (cap l : Nat) (w : World) (h : MkRep w bk L s) (hv : w.ownsRow 0 67 3 (.slice a src.length cap) src.length (insCells src)) {c : Ctl} (hc : s.cs[l]? = some c) (hcf : c.Fit src.length) (hcl : s.cs.length ≤ 1000)
    (hsl : src.length ≤ 1000) (hsn : 0 < src.length) (htab : ∀ c ∈ src, c.tab.length ≤ 100) :
    Calls Tryz.prog 81 #[.pointer (some ⟨bk, 0, none⟩), .slice a src.length cap, .int .i64 l] w fun e w' => e = .returned (c.jump src).val ∧ Fr (fun _ => False) w w' := by
  have hlt0 : l < s.cs.length := (List.getElem?_eq_some_iff.1 hc).1
  obtain ⟨go, ha, hcc, hf, hlt, hbo⟩ := h.at l hc
  obtain ⟨m, hm⟩ : ∃ m, s.cs.length = m + 1 + l := ⟨s.cs.length - 1 - l, by omega⟩
  have hml : s.cs.length - 1 - l = m := by omega
  have c1 := h.here.cell 1
  have k0 := hcc 0 (by omega)
  have k1 := hcc 1 (by omega)
  have k2 := hcc 2 (by omega)
  have k3 := hcc 3 (by omega)
  have k4 := hcc 4 (by omega)
  rw [hml] at k0 k1 k2 k3 k4
  rw [hm] at c1
  simp [ctlCells, ha] at c1 k0 k1 k2 k3 k4
  have hb := h.here.lt
  have hb1 : bk < w.heap.size + 1 := by omega
  have hg1 : go < w.heap.size + 1 := by omega
  have hb2 : bk < w.heap.size + 1 + 1 := by omega
  have hg2 : go < w.heap.size + 1 + 1 := by omega
  have hzb := zeroCtl
  have HV : Hid (∀ w', Fr (fun _ => False) w w' → w'.ownsRow 0 67 3 (.slice a src.length cap) src.length (insCells src)) := fun w' hf => owns_fr hv hf (fun _ _ h => h)
  have her := endT_range hsn hcf.at_
  have hcat := hcf.at_
  have hcht := hcf.ht
  have hclp := hcf.loop
  have HP : Hid (∀ (i : Nat) w', Fr (fun _ => False) w w' → i ≤ src.length → _) := fun i w' hf hi => pos_any src a cap i w' (HV.out w' hf) hsl hi htab
  have HE : Hid (∀ (i : Nat) w', Fr (fun _ => False) w w' → i < src.length → _) := fun i w' hf hi => ends_any src a cap i w' (HV.out w' hf) hsl hi
  obtain ⟨lab, hlab0⟩ : ∃ lab, lab = c.label := ⟨_, rfl⟩
  have hlab : lab.length ≤ 1 := by rw [hlab0]; unfold Ctl.label resOf; split; simp; split <;> simp
  have HL : Hid (∀ w', Calls Tryz.prog 82 #[.agg #[.int .i64 c.op, .int .i64 c.bt, .int .i64 c.height, .int .i64 c.at_, .bool c.dead]] w' fun e w'' => e = .returned (sv lab) ∧ Fr (fun _ => False) w' w'') := fun w' => by rw [hlab0]; exact label_any c w' hcf.b0 hcf.b1
  obtain ⟨tgt, htgt⟩ : ∃ tgt : Nat, (tgt : Int) = (if c.op = 2 then c.at_ else endT src c.at_) ∧ tgt ≤ src.length := by
    split
    · rename_i h2
      have := hclp h2
      exact ⟨c.at_.toNat, by omega, by omega⟩
    · exact ⟨(endT src c.at_).toNat, by omega, by omega⟩
  have hjv : (c.jump src).val = .agg #[.int .i64 6, .int .i64 (posM src tgt), .int .i64 lab.length, .int .i64 c.height] := by
    unfold Ctl.jump Flat.val
    rw [← htgt.1, hlab0]
    simp
  rw [hjv]
  have HT1 : Hid ((tgt : Int) = (if c.op = 2 then c.at_ else endT src c.at_)) := htgt.1
  have htl := htgt.2
  clear h hv hcc hf ha hjv htgt hc hml hcf hlab0
  obtain ⟨cop, cbt, ch, cat, cd⟩ := c
  simp only at k0 k1 k2 k3 k4 her hcat hcht hclp HL HT1 ⊢
  by_cases h2 : cop = 2
  · subst h2
    have hat : cat = tgt := by have := HT1.out; rw [if_pos rfl] at this; omega
    subst hat
    clear HT1 her hcat hclp
    go_enter Tryz.func81, Tryz.ntmps81
    go_wp2
    refine wp_region_head 14 1 (fun x => x = (w.alloc (.cells #[.int .i64 0, .int .i64 0, .int .i64 0, .int .i64 0] 176)).drew ∨ x = ((w.alloc (.cells #[.int .i64 0, .int .i64 0, .int .i64 0, .int .i64 0] 176)).alloc (.cells #[.int .i64 0, .int .i64 0, .int .i64 0, .int .i64 0, .bool false] 132)).drew) (by kernel_rfl) (by kernel_rfl) (fun _ _ _ _ _ h => h) (.inl rfl) ?_
    simp only [List.take_succ_cons, List.take_zero, List.drop_succ_cons, List.drop_zero]
    repeat go_big_quiet_step (fail)
    refine wpQuiet_nil ?_
    unfold wpChain
    go_wp2
    refine ⟨by simp, ?_⟩
    rw [wpChain_zero]
    go_wp2_with fail
    refine (HL.out _).mono ?_
    rintro e w2 ⟨rfl, hf2⟩
    have F2 : Fr (fun _ => False) w w2 := ((((Fr.refl _ w).alloc _).alloc _).drew).trans hf2 (fun _ _ h => h)
    have C2 : Has w2 (w.heap.size + 1) #[.int .i64 2, .int .i64 cbt, .int .i64 ch, .int .i64 tgt, .bool cd] 132 := by
      have := (Has.new (w.alloc (.cells #[.int .i64 0, .int .i64 0, .int .i64 0, .int .i64 0] 176)) #[.int .i64 2, .int .i64 cbt, .int .i64 ch, .int .i64 tgt, .bool cd] 132)
      simp at this
      exact (Has.drew this).fr hf2 id
    have D2 : Has w2 w.heap.size #[.int .i64 0, .int .i64 0, .int .i64 0, .int .i64 0] 176 := (((Has.new w _ _).alloc _).drew).fr hf2 id
    have x2 := C2.cell 2
    have y0 := D2.cell 0
    have y1 := D2.cell 1
    have y2 := D2.cell 2
    have y3 := D2.cell 3
    simp at x2 y0 y1 y2 y3
    have z0 := D2.frozen 0
    have z1 := D2.frozen 1
    have z2 := D2.frozen 2
    have z3 := D2.frozen 3
    have l1 := C2.lt
    have l2 := D2.lt
    have HF2 : Hid (Fr (fun _ => False) w w2) := F2
    have HD2 : Hid (Has w2 w.heap.size #[.int .i64 0, .int .i64 0, .int .i64 0, .int .i64 0] 176) := D2
    clear hf2 F2 C2 D2 HL HE k0 k1 k2 k3 k4 c1 hzb
    go_wp2
    refine wp_region_mid [0, 1, 3, 4, 5, 6] 2 7 (fun x => x = w2.drew) (by kernel_rfl) (by kernel_rfl) (fun _ _ _ _ _ h => h) rfl [_, _, _, _, _, _] rfl _ rfl ?_
    simp only [List.getElem_toArray, List.getElem_cons_zero, List.getElem_cons_succ]
    repeat go_big_quiet_step (fail)
    refine wpQuiet_nil ?_
    go_wp2_with fail
    refine (HP.out tgt _ (HF2.out.drew) htl).mono ?_
    rintro e w3 ⟨rfl, rfl⟩
    go_wp2
    refine ⟨trivial, ?_⟩
    go_wp2
    (try simp only [Exit.inBlock, Exit.then])
    have hq := (Has.drew HD2.out).put4 (.int .i64 6) (.int .i64 (posM src tgt)) (.int .i64 lab.length) (.int .i64 ch)
    refine bodyPost_ret (jump_res _ _ w.heap.size _ _ _ _ rfl hq.1) rfl ?_
    exact ⟨rfl, HF2.out.drew.trans hq.2 (fun j hj e => by omega)⟩
  · rw [if_neg h2] at HT1
    have b2 : (cop == 2) = false := beq_eq_false_iff_ne.2 h2
    by_cases hneg : cat = -1
    · have hat : (src.length : Int) - 1 = tgt := by
        have := HT1.out
        unfold endT at this
        rw [if_neg (by omega)] at this
        omega
      subst hneg
      have HAT : Hid ((src.length : Int) - 1 = tgt) := hat
      clear HT1 h2 hat her hcat hclp
      go_enter Tryz.func81, Tryz.ntmps81
      go_wp2
      refine wp_region_head 14 1 (fun x => x = (w.alloc (.cells #[.int .i64 0, .int .i64 0, .int .i64 0, .int .i64 0] 176)).drew ∨ x = ((w.alloc (.cells #[.int .i64 0, .int .i64 0, .int .i64 0, .int .i64 0] 176)).alloc (.cells #[.int .i64 0, .int .i64 0, .int .i64 0, .int .i64 0, .bool false] 132)).drew) (by kernel_rfl) (by kernel_rfl) (fun _ _ _ _ _ h => h) (.inl rfl) ?_
      simp only [List.take_succ_cons, List.take_zero, List.drop_succ_cons, List.drop_zero]
      repeat go_big_quiet_step (fail)
      refine wpQuiet_nil ?_
      unfold wpChain
      go_wp2
      refine ⟨by simp, ?_⟩
      rw [wpChain_zero]
      go_wp2_with fail
      refine (HL.out _).mono ?_
      rintro e w2 ⟨rfl, hf2⟩
      rw [HAT.out]
      have F2 : Fr (fun _ => False) w w2 := ((((Fr.refl _ w).alloc _).alloc _).drew).trans hf2 (fun _ _ h => h)
      have C2 : Has w2 (w.heap.size + 1) #[.int .i64 cop, .int .i64 cbt, .int .i64 ch, .int .i64 (-1), .bool cd] 132 := by
        have := (Has.new (w.alloc (.cells #[.int .i64 0, .int .i64 0, .int .i64 0, .int .i64 0] 176)) #[.int .i64 cop, .int .i64 cbt, .int .i64 ch, .int .i64 (-1), .bool cd] 132)
        simp at this
        exact (Has.drew this).fr hf2 id
      have D2 : Has w2 w.heap.size #[.int .i64 0, .int .i64 0, .int .i64 0, .int .i64 0] 176 := (((Has.new w _ _).alloc _).drew).fr hf2 id
      have x2 := C2.cell 2
      have y0 := D2.cell 0
      have y1 := D2.cell 1
      have y2 := D2.cell 2
      have y3 := D2.cell 3
      simp at x2 y0 y1 y2 y3
      have z0 := D2.frozen 0
      have z1 := D2.frozen 1
      have z2 := D2.frozen 2
      have z3 := D2.frozen 3
      have l1 := C2.lt
      have l2 := D2.lt
      have HF2 : Hid (Fr (fun _ => False) w w2) := F2
      have HD2 : Hid (Has w2 w.heap.size #[.int .i64 0, .int .i64 0, .int .i64 0, .int .i64 0] 176) := D2
      clear hf2 F2 C2 D2 HL HE k0 k1 k2 k3 k4 c1 hzb
      go_wp2
      refine wp_region_mid [0, 1, 3, 4, 5, 6] 2 7 (fun x => x = w2.drew) (by kernel_rfl) (by kernel_rfl) (fun _ _ _ _ _ h => h) rfl [_, _, _, _, _, _] rfl _ rfl ?_
      simp only [List.getElem_toArray, List.getElem_cons_zero, List.getElem_cons_succ]
      repeat go_big_quiet_step (fail)
      refine wpQuiet_nil ?_
      go_wp2_with fail
      refine (HP.out tgt _ (HF2.out.drew) htl).mono ?_
      rintro e w3 ⟨rfl, rfl⟩
      go_wp2
      refine ⟨trivial, ?_⟩
      go_wp2
      (try simp only [Exit.inBlock, Exit.then])
      have hq := (Has.drew HD2.out).put4 (.int .i64 6) (.int .i64 (posM src tgt)) (.int .i64 lab.length) (.int .i64 ch)
      refine bodyPost_ret (jump_res _ _ w.heap.size _ _ _ _ rfl hq.1) rfl ?_
      exact ⟨rfl, HF2.out.drew.trans hq.2 (fun j hj e => by omega)⟩
    · obtain ⟨at2, hat2⟩ : ∃ at2 : Nat, cat = at2 := ⟨cat.toNat, by omega⟩
      have hat3 : at2 < src.length := by omega
      have hte : (endsM src at2).2 = tgt := by
        have := HT1.out
        unfold endT at this
        rw [if_pos (by omega), hat2] at this
        simp only [Int.toNat_natCast] at this
        exact this.symm
      have HTE : Hid ((endsM src at2).2 = tgt) := hte
      subst hat2
      clear HT1 h2 hte her hcat hclp hneg
      go_enter Tryz.func81, Tryz.ntmps81
      go_wp2
      refine wp_region_head 14 1 (fun x => x = (w.alloc (.cells #[.int .i64 0, .int .i64 0, .int .i64 0, .int .i64 0] 176)).drew ∨ x = ((w.alloc (.cells #[.int .i64 0, .int .i64 0, .int .i64 0, .int .i64 0] 176)).alloc (.cells #[.int .i64 0, .int .i64 0, .int .i64 0, .int .i64 0, .bool false] 132)).drew) (by kernel_rfl) (by kernel_rfl) (fun _ _ _ _ _ h => h) (.inl rfl) ?_
      simp only [List.take_succ_cons, List.take_zero, List.drop_succ_cons, List.drop_zero]
      repeat go_big_quiet_step (fail)
      refine wpQuiet_nil ?_
      unfold wpChain
      go_wp2
      refine ⟨by simp, ?_⟩
      rw [wpChain_zero]
      go_wp2_with fail
      refine (HE.out at2 _ ((((Fr.refl _ w).alloc _).alloc _).drew) hat3).mono ?_
      rintro e w1 ⟨rfl, rfl⟩
      rw [HTE.out]
      go_wp2_with fail
      refine (HL.out _).mono ?_
      rintro e w2 ⟨rfl, hf2⟩
      have F2 : Fr (fun _ => False) w w2 := ((((Fr.refl _ w).alloc _).alloc _).drew).trans hf2 (fun _ _ h => h)
      have C2 : Has w2 (w.heap.size + 1) #[.int .i64 cop, .int .i64 cbt, .int .i64 ch, .int .i64 at2, .bool cd] 132 := by
        have := (Has.new (w.alloc (.cells #[.int .i64 0, .int .i64 0, .int .i64 0, .int .i64 0] 176)) #[.int .i64 cop, .int .i64 cbt, .int .i64 ch, .int .i64 at2, .bool cd] 132)
        simp at this
        exact (Has.drew this).fr hf2 id
      have D2 : Has w2 w.heap.size #[.int .i64 0, .int .i64 0, .int .i64 0, .int .i64 0] 176 := (((Has.new w _ _).alloc _).drew).fr hf2 id
      have x2 := C2.cell 2
      have y0 := D2.cell 0
      have y1 := D2.cell 1
      have y2 := D2.cell 2
      have y3 := D2.cell 3
      simp at x2 y0 y1 y2 y3
      have z0 := D2.frozen 0
      have z1 := D2.frozen 1
      have z2 := D2.frozen 2
      have z3 := D2.frozen 3
      have l1 := C2.lt
      have l2 := D2.lt
      have HF2 : Hid (Fr (fun _ => False) w w2) := F2
      have HD2 : Hid (Has w2 w.heap.size #[.int .i64 0, .int .i64 0, .int .i64 0, .int .i64 0] 176) := D2
      clear hf2 F2 C2 D2 HL HE k0 k1 k2 k3 k4 c1 hzb
      go_wp2
      refine wp_region_mid [0, 1, 3, 4, 5, 6] 2 7 (fun x => x = w2.drew) (by kernel_rfl) (by kernel_rfl) (fun _ _ _ _ _ h => h) rfl [_, _, _, _, _, _] rfl _ rfl ?_
      simp only [List.getElem_toArray, List.getElem_cons_zero, List.getElem_cons_succ]
      repeat go_big_quiet_step (fail)
      refine wpQuiet_nil ?_
      go_wp2_with fail
      refine (HP.out tgt _ (HF2.out.drew) htl).mono ?_
      rintro e w3 ⟨rfl, rfl⟩
      go_wp2
      refine ⟨trivial, ?_⟩
      go_wp2
      (try simp only [Exit.inBlock, Exit.then])
      have hq := (Has.drew HD2.out).put4 (.int .i64 6) (.int .i64 (posM src tgt)) (.int .i64 lab.length) (.int .i64 ch)
      refine bodyPost_ret (jump_res _ _ w.heap.size _ _ _ _ rfl hq.1) rfl ?_
      exact ⟨rfl, HF2.out.drew.trans hq.2 (fun j hj e => by omega)⟩
end Go.Proofs.Qxb6500575aGreatDoor
