/-
  THE WALK of comp: a jump lands; jump.
-/
import Derived.Test.Qxb6500574aGreatDoorWCm3
namespace Go.Proofs.Qxb6500574aGreatDoor
open Go Go.RowKit
set_option linter.unusedVariables false
set_option linter.unusedSimpArgs false
open Go.Lib
section
set_option maxRecDepth 100000
set_option maxHeartbeats 1000000
variable {w : World} {o : Nat → Nat} {C : CC} {N : List Nd} {c : CmD} {x : Nat}
theorem conv16 (w : World) {n : Nat} (h : n < 65536) : (convert 3 103 (.int .i64 (n : Nat))).run Tryz.prog w = .ok (.int .u16 (n : Nat)) w := by
  have e : Tryz.prog.intKind 103 = .u16 := by kernel_rfl
  rw [run_convert_int w 3 103 .i64 (n : Nat) (by kernel_rfl) (by rw [e]; kernel_rfl), e]
  congr 2
  show ((n : Int) % _) = _
  simp [IntKind.bits]
  omega
theorem land_any (R : CRep w o C N c) (hx : x < c.np) {b1 b2 p : Nat} (hp : Pat w o C.gF x (b1, b2) p) (hl : p < (c.fn x).code.length) (hk : (c.fn x).code.length < 65536) :
    Calls Tryz.prog 240 #[.pointer (some ⟨b1, 0, none⟩), .pointer (some ⟨b2, 0, none⟩)] w fun e w' => e = .returned (.tuple #[]) ∧ CRep w' o C N (c.land x p) ∧ Stp (fun k => k = labF x 5) w o w' o := by
  obtain ⟨xs, L, F⟩ := R.fn hx
  have c9 := F.cell 9 (by omega)
  have hlt := F.lt
  simp only [fnV, List.getElem?_cons_succ, List.getElem?_cons_zero, Sl.v] at c9
  obtain ⟨g1, a1, a2, a3, a4, a5, a6⟩ := F.one.cd.cells (Nat.lt_of_le_of_lt (Nat.zero_le _) hl)
  obtain ⟨r1, r2⟩ := F.one.cd.put a1 (p * 2 + 1) (.int .u16 ((c.fn x).code.length : Nat)) (ys := ((c.fn x).code.set p (((c.fn x).code.getD p (0, 0)).1, (c.fn x).code.length)).flatMap iCells) (by
    obtain ⟨a, ha⟩ : ∃ a, (c.fn x).code[p]? = some a := ⟨_, List.getElem?_eq_getElem hl⟩
    rw [flatMap_set iCells 2 iCells_len _ p 1 a _ (.int .u16 ((c.fn x).code.length : Nat)) ha (by omega) (by rw [List.getD_eq_getElem?_getD, ha]; rfl)])
  have FIN : Hid (CRep (w.setCell ⟨g1, p * 2 + 1, none⟩ (.int .u16 ((c.fn x).code.length : Nat))).drew o C N (c.land x p) ∧ Stp (fun k => k = labF x 5) w o (w.setCell ⟨g1, p * 2 + 1, none⟩ (.int .u16 ((c.fn x).code.length : Nat))).drew o) := by
    have sF : Stp (QF1 x) w o _ o := r2.weaken (fun k h => .inr ⟨5, h⟩)
    have hu : c.land x p = c.upd x (fun d => { d with code := d.code.set p ((d.code.getD p (0, 0)).1, d.code.length) }) := by
      unfold CmD.land CmD.upd
      simp only [Nat.mod_eq_of_lt hk]
    rw [hu]
    refine ⟨CRep.fresh (F.set (l' := L) (u := fun d => { d with code := d.code.set p ((d.code.getD p (0, 0)).1, d.code.length) }) R hx sF ?_ ?_ F.ok) ((Fr.refl _ _).drew), r2.drew⟩
    · have hb := (F.rep.here.st r2 (by unfold labF; omega)).has
      have : xs.set x ({ c.fn x with code := (c.fn x).code.set p (((c.fn x).code.getD p (0, 0)).1, (c.fn x).code.length) }, L) = xs.set x ({ c.fn x with code := (c.fn x).code.set p (((c.fn x).code.getD p (0, 0)).1, (c.fn x).code.length) }, L) := rfl
      have e : ((xs.set x ({ c.fn x with code := (c.fn x).code.set p (((c.fn x).code.getD p (0, 0)).1, (c.fn x).code.length) }, L)).flatMap (fnV C.gF)) = xs.flatMap (fnV C.gF) := by
        have h9 := flatMap_set (fnV C.gF) 11 (fnV_len _) xs x 9 (c.fn x, L) ({ c.fn x with code := (c.fn x).code.set p (((c.fn x).code.getD p (0, 0)).1, (c.fn x).code.length) }, L) (L.cd.v (c.fn x).code.length) F.at_ (by omega) (by simp [fnV])
        rw [h9]
        have hc := flatMap_at (fnV C.gF) 11 (fnV_len C.gF) xs x 9 _ F.at_ (by omega)
        apply List.ext_getElem?
        intro j
        rw [List.getElem?_set]
        split
        · rename_i hj
          subst hj
          rw [hc]
          split
          · rfl
          · rename_i hn
            rw [List.getElem?_eq_none (by omega)] at hc
            simp [fnV] at hc
        · rfl
      rw [e]
      exact hb
    · refine F.one.code (s := L.cd) (r2.weaken (fun k h => .inr h)) ?_
      rw [List.length_set]
      exact r1
  have q1 := hp.f.cell 0
  have q2 := hp.a.cell 0
  have q3 := hp.f.lt
  have q4 := hp.a.lt
  obtain ⟨n, HN⟩ : ∃ n : Nat, Hid ((c.fn x).code.length = n) := ⟨_, rfl⟩
  rw [HN.out] at c9 hl hk FIN
  have a2 : n ≤ L.cd.c := HN.out ▸ a2
  simp only [fptr, List.getElem?_toArray, List.getElem?_cons_zero] at q1 q2
  have z1 := a6 (p * 2 + 1)
  have k1 := a5 (p * 2 + 1) (by rw [HN.out]; omega)
  obtain ⟨v1, HV⟩ : ∃ v1, w.cell? ⟨g1, p * 2 + 1, none⟩ = some v1 := by
    rw [k1]
    exact ⟨_, List.getElem?_eq_getElem (by rw [flatMap_len _ 2 iCells_len, HN.out]; omega)⟩
  clear F R hp a5 a6 a3 r1 r2 k1
  go_enter Tryz.func240, Tryz.ntmps240
  go_wp2_with fail
  refine wp_region_head 10 1 (fun x => x = w.drew) (by kernel_rfl) (by kernel_rfl) (fun _ _ _ _ _ h => h) rfl ?_
  simp only [List.take_succ_cons, List.take_zero, List.drop_succ_cons, List.drop_zero]
  repeat go_big_quiet_step (fail)
  refine wpQuiet_nil ?_
  refine chain_of_run (v := .int .u16 (n : Nat)) (w' := w.drew) rfl ?_ ⟨rfl, ?_⟩
  · simp only [execOp, Sem.run_bind]
    have := conv16 w.drew (n := n) hk
    show ((convert _ _ (.int .i64 (n : Nat))).run _ _).andThen _ = _
    rw [this]
    rfl
  · rw [wpChain_zero]
    go_wp2_with fail
    go_end0
    exact ⟨rfl, FIN.out⟩
theorem jumpF {xs : List (FnD × FnL)} {L : FnL} (F : FnAt w o C c x xs L) (R : CRep w o C N c) (hx : x < c.np) (op : Nat) (hk : (c.fn x).code.length < 65535) :
    Calls Tryz.prog 174 #[fptr C.gF x, .int .u8 op] w fun e w' => ∃ b1 b2 o', e = .returned (patV (b1, b2)) ∧ CRep w' o' C N (c.jump x op) ∧ Stp (fun k => k = 1051 ∨ k = labF x 5) w o w' o' ∧ Pat w' o' C.gF x (b1, b2) (c.fn x).code.length ∧ ∃ s', FnAt w' o' C (c.jump x op) x (xs.set x ({ c.fn x with code := (c.fn x).code ++ [(op, 65535)] }, { L with cd := s' })) { L with cd := s' } := by
  have c9 := F.cell 9 (by omega)
  have hlt := F.lt
  simp only [fnV, List.getElem?_cons_succ, List.getElem?_cons_zero, Sl.v] at c9
  obtain ⟨n, HN⟩ : ∃ n : Nat, Hid ((c.fn x).code.length = n) := ⟨_, rfl⟩
  rw [HN.out] at c9 ⊢
  have F2 := (F.fresh ((Fr.refl _ _).alloc (.cells #[fptr C.gF x] 94))).fresh ((Fr.refl _ _).alloc (.cells #[.int .i64 (n : Nat)] 3))
  have R2 := (R.alloc (.cells #[fptr C.gF x] 94)).alloc (.cells #[.int .i64 (n : Nat)] 3)
  have hS : Stp (fun k => k = 1051 ∨ k = labF x 5) w o ((w.alloc (.cells #[fptr C.gF x] 94)).alloc (.cells #[.int .i64 (n : Nat)] 3)) o := ((Stp.refl _ _ _).alloc _).alloc _
  have hP : Hid (Pat ((w.alloc (.cells #[fptr C.gF x] 94)).alloc (.cells #[.int .i64 (n : Nat)] 3)) o C.gF x (w.heap.size, w.heap.size + 1) n) := by
    refine ⟨(Has.new w _ _).alloc _, ?_, R.ow _ (Nat.le_refl _), R.ow _ (by omega)⟩
    have := Has.new (w.alloc (.cells #[fptr C.gF x] 94)) #[.int .i64 (n : Nat)] 3
    simpa using this
  have hE := emitKF F2 R2 hx (op := op) (y := 65535) (kb := w.heap.size + 1 + 1) rfl rfl (by omega) (by simp)
  have HJ : Hid (c.jump x op = c.emit x [(op, 65535)]) := rfl
  unfold fptr at hE hP R2 hS
  unfold fptr
  clear R F F2
  go_enter Tryz.func174, Tryz.ntmps174
  go_wp2_with (go_at_call 65; refine hE.mono ?_; rintro e w1 ⟨rfl, o1, R1, S1, s1, F1⟩)
  go_ret
  refine ⟨_, _, o1, rfl, ?_, hS.trans S1, hP.out.st S1 (by unfold labF; omega), s1, ?_⟩
  · rw [HJ.out]
    exact R1
  · rw [HJ.out]
    exact F1
theorem jump_any (R : CRep w o C N c) (hx : x < c.np) (op : Nat) (hk : (c.fn x).code.length < 65535) :
    Calls Tryz.prog 174 #[fptr C.gF x, .int .u8 op] w fun e w' => ∃ b1 b2 o', e = .returned (patV (b1, b2)) ∧ CRep w' o' C N (c.jump x op) ∧ Stp (QF1 x) w o w' o' ∧ Pat w' o' C.gF x (b1, b2) (c.fn x).code.length := by
  obtain ⟨xs, L, F⟩ := R.fn hx
  refine (jumpF F R hx op hk).mono ?_
  rintro e w' ⟨b1, b2, o', h1, h2, h3, h4, _⟩
  exact ⟨b1, b2, o', h1, h2, h3.code, h4⟩
end
end Go.Proofs.Qxb6500574aGreatDoor
