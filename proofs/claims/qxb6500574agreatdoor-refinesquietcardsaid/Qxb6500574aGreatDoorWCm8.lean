/-
  THE WALK of comp: the pool of constants. Written by tools/gen_pool.py.
-/
import Derived.Test.Qxb6500574aGreatDoorWCm7
namespace Go.Proofs.Qxb6500574aGreatDoor
open Go Go.RowKit
set_option linter.unusedVariables false
set_option linter.unusedSimpArgs false
open Go.Lib
section
variable {w w' : World} {o o' : Nat → Nat} {g x : Nat} {d : FnD} {l : FnL}
theorem FnOne.consts (h : FnOne w o g x (d, l)) (t : Stp (fun k => k = 1051 ∨ k = labF x 2 ∨ k = labF x 3 ∨ k = labF x 4) w o w' o') {s : Sl} {cn : List Vl} (r : Row w' o' (labF x 2) 68 3 s cn.length (cn.flatMap vCells)) (hn : ∀ b, l.nu = some b → MapAt w' o' (labF x 3) b (ent16 nk (numsF 0 cn))) (hs : ∀ b, l.st = some b → MapAt w' o' (labF x 4) b (ent16 sk (strsF 0 cn))) : FnOne w' o' g x ({ d with consts := cn }, { l with cn := s }) :=
  ⟨h.lo.st t (by unfold labF; omega), h.up.st t (by unfold labF; omega), r, hn, hs, h.cd.st t (by unfold labF; omega), h.lp.st t (by unfold labF; omega), h.bl, fun i l b a1 a2 => (h.br i l b a1 a2).st t (by unfold labF; omega) (by unfold labF; omega)⟩
end
section
set_option maxRecDepth 100000
set_option maxHeartbeats 1000000
variable {w : World} {o : Nat → Nat} {C : CC} {N : List Nd} {c : CmD} {x : Nat}
theorem cnumber_any (R : CRep w o C N c) (hx : x < c.np) (n : Nat) (hok : ∀ v ∈ (c.fn x).consts, v.ok) (hl : (c.fn x).consts.length ≤ 65000) :
    Calls Tryz.prog 231 #[fptr C.gF x, nk n] w fun e w' => e = .returned (.int .u16 ((c.const x (numV n)).2 : Nat)) ∧ ∃ o', CRep w' o' C N (c.const x (numV n)).1 ∧ Stp (QF1 x) w o w' o' := by
  obtain ⟨xs, L, F⟩ := R.fn hx
  have hlt0 : x < c.fns.length := by have := R.len; have := R.np; omega
  have c6 := F.cell 6 (by omega)
  have c7 := F.cell 7 (by omega)
  have hlt := F.lt
  obtain ⟨_, ⟨bn, hbn⟩, bs, hbs⟩ := F.ok
  have hM := F.one.nu bn hbn
  have hlk := look16 isK_u64 mapN16 hM n
  have hf := look_numsF n (c.fn x).consts 0 hok
  simp only [fnV, List.getElem?_cons_succ, List.getElem?_cons_zero, Sl.v, hbn] at c6 c7
  unfold CmD.const
  cases hi : (c.fn x).consts.findIdx? (fun e => e.same (numV n)) with
  | some k =>
    rw [hi] at hf
    rw [hf] at hlk
    simp only [Option.map_some, Option.getD_some, Option.isSome_some, Nat.zero_add] at hlk
    simp only
    have HR : Hid (CRep w o C N c) := R
    clear R F hM hf hi hok hl
    unfold fptr
    go_enter Tryz.func231, Tryz.ntmps231
    go_wp2_with fail
    go_ret
    exact ⟨rfl, o, HR.out, Stp.refl _ _ _⟩
  | none =>
    rw [hi] at hf
    have hf0 : look (numsF 0 (c.fn x).consts) n = none := hf
    rw [hf0] at hlk
    simp only [Option.getD_none, Option.isSome_none] at hlk
    simp only
    obtain ⟨w1, hu, hM1, hS1⟩ := upd16 isK_u64 mapN16 hM n (c.fn x).consts.length hf0
    obtain ⟨m, HM⟩ : ∃ m : Nat, Hid ((c.fn x).consts.length = m) := ⟨_, rfl⟩
    have hmm : m % 65536 = m := Nat.mod_eq_of_lt (by have := HM.out; omega)
    rw [HM.out] at hl hu c6 hM1 ⊢
    rw [hmm]
    have F1 := F.rep.here.st hS1 (by unfold labF; omega)
    have d6 : w1.cell? ⟨C.gF, x * 11 + 6, none⟩ = some (.slice L.cn.a m L.cn.c) := by rw [hS1.cellQ hlt (by rw [F.rep.here.lb]; unfold labF; omega)]; exact c6
    have d7 : w1.cell? ⟨C.gF, x * 11 + 7, none⟩ = some (.map (some bn)) := by rw [hS1.cellQ hlt (by rw [F.rep.here.lb]; unfold labF; omega)]; exact c7
    have dl := F1.has.lt
    have row1 := (F.one.cn.st hS1 (by unfold labF; omega))
    have HROW : Hid ((w1.alloc (.cells (vCells (numV n)).toArray 68)).ownsRow 0 68 3 (L.cn.v m) m ((c.fn x).consts.flatMap vCells)) := by
      have := owns_alloc row1.own (.cells (vCells (numV n)).toArray 68)
      rw [HM.out] at this
      exact this
    have HF : Hid (FnAt w o C c x xs L) := F
    have HR : Hid (CRep w o C N c) := R
    have HS1 : Hid (Stp (fun k => k = labF x 3) w o w1 o) := hS1
    have HM1 : Hid (MapAt w1 o (labF x 3) bn (ent16 nk (numsF 0 (c.fn x).consts ++ [(n, m)]))) := hM1
    have HROW1 : Hid (Row w1 o (labF x 2) 68 3 L.cn (c.fn x).consts.length ((c.fn x).consts.flatMap vCells)) := row1
    have HF1 : Hid (Blk w1 o 1051 C.gF (xs.flatMap (fnV C.gF)).toArray 102) := F1
    clear R F hM hf hi hok hM1 hS1 hmm hf0 row1 F1
    unfold fptr
    go_enter Tryz.func231, Tryz.ntmps231
    go_wp2_with (at_builtin; go_must (refine wpList_appN rowVal _ rfl (.tmp 34) (.tmp 37) rfl (L.cn.v m) m _ rfl HROW.out w1.heap.size 1 1 (vCells (numV n)) rfl (Has.new _ _ _) rfl (by omega) (vCells_oneC _) ?bd ?go))
    case bd => omega
    case go =>
      intro g' cap' w2 q1 q2 q3 q4
      have hf : Fr (fun _ => False) w1 (w1.alloc (.cells (vCells (numV n)).toArray 68)) := (Fr.refl _ _).alloc _
      have hq3 : (L.cn.v (c.fn x).consts.length).ownBlock = some g' ∨ w1.heap.size ≤ g' := by rw [HM.out]; exact q3.imp_right (fun h => by rw [h]; simp)
      obtain ⟨r1, r2⟩ := HROW1.out.app hf q1 (by rw [HM.out]; exact q2) hq3 q4
      have hb2 := HF1.out.st r2 (by unfold labF; omega)
      have e6 : w2.cell? ⟨C.gF, x * 11 + 6, none⟩ = some (.slice L.cn.a m L.cn.c) := by
        rw [r2.cellQ dl (by rw [HF1.out.lb]; unfold labF; omega)]
        exact d6
      have d3 := hb2.has.frozen (x * 11 + 6)
      have k3 := hb2.has.lt
      have s12 : Stp (fun k => k = labF x 2 ∨ k = labF x 3) w o w2 (upd o g' (labF x 2)) := (HS1.out.weaken (fun k h => .inr h)).trans (r2.weaken (fun k h => .inl h))
      have FIN : Hid (∃ o', CRep (w2.setCell ⟨C.gF, x * 11 + 6, none⟩ (.slice (some ⟨g', 0, none⟩) (m + 1) cap')) o' C N (c.upd x fun d => { d with consts := d.consts ++ [numV n] }) ∧ Stp (QF1 x) w o (w2.setCell ⟨C.gF, x * 11 + 6, none⟩ (.slice (some ⟨g', 0, none⟩) (m + 1) cap')) o') := by
        obtain ⟨p1, p2⟩ := HF.out.put s12 (by unfold labF; omega) (j := 6) (by omega) (d' := ({ c.fn x with consts := (c.fn x).consts ++ [numV n] }, { L with cn := ⟨some ⟨g', 0, none⟩, cap'⟩ })) (u := .slice (some ⟨g', 0, none⟩) (m + 1) cap') (by simp [fnV, HM.out])
        have s2 : Stp (fun k => k = 1051 ∨ k = labF x 2 ∨ k = labF x 3 ∨ k = labF x 4) w o _ (upd o g' (labF x 2)) := (s12.weaken (fun k h => by rcases h with h | h <;> simp [h])).trans (p2.weaken (fun k h => .inl h))
        have sF : Stp (QF1 x) w o _ (upd o g' (labF x 2)) := s2.weaken (fun k h => by
          rcases h with h | h | h | h
          · exact .inl h
          · exact .inr ⟨2, h⟩
          · exact .inr ⟨3, h⟩
          · exact .inr ⟨4, h⟩)
        refine ⟨_, HF.out.set (u := fun d => { d with consts := d.consts ++ [numV n] }) HR.out hx sF p1 (HF.out.one.consts s2 ?_ ?_ ?_) HF.out.ok, sF⟩
        · have := r1.st p2 (by unfold labF; omega)
          rw [List.length_append, List.flatMap_append, HM.out]
          simpa using this
        · intro b hb
          rw [show b = bn from by rw [hbn] at hb; cases hb; rfl]
          have := (HM1.out.st r2 (by unfold labF; omega)).st p2 (by unfold labF; omega)
          have e : numsF 0 ((c.fn x).consts ++ [numV n]) = numsF 0 (c.fn x).consts ++ [(n, m)] := by
            rw [numsF_app, HM.out]
            simp [numV]
          rw [e]
          exact this
        · intro b hb
          have e : strsF 0 ((c.fn x).consts ++ [numV n]) = strsF 0 (c.fn x).consts := by
            rw [strsF_app]
            simp [numV]
          show MapAt _ _ _ _ (ent16 _ (strsF 0 ((c.fn x).consts ++ [numV n])))
          rw [e]
          exact ((HF.out.one.ss b hb).st s12 (by unfold labF; omega)).st p2 (by unfold labF; omega)
      clear q1 q2 q3 q4 hq3 r1 r2 hb2 s12 hf
      go_wp2
      go_ret
      exact ⟨rfl, FIN.out⟩
end
section
set_option maxRecDepth 100000
set_option maxHeartbeats 1000000
variable {w : World} {o : Nat → Nat} {C : CC} {N : List Nd} {c : CmD} {x : Nat}
theorem ctext_any (R : CRep w o C N c) (hx : x < c.np) (n : Bs) (hok : ∀ v ∈ (c.fn x).consts, v.ok) (hl : (c.fn x).consts.length ≤ 65000) :
    Calls Tryz.prog 232 #[fptr C.gF x, sk n] w fun e w' => e = .returned (.int .u16 ((c.const x (strV n)).2 : Nat)) ∧ ∃ o', CRep w' o' C N (c.const x (strV n)).1 ∧ Stp (QF1 x) w o w' o' := by
  obtain ⟨xs, L, F⟩ := R.fn hx
  have hlt0 : x < c.fns.length := by have := R.len; have := R.np; omega
  have c6 := F.cell 6 (by omega)
  have c7 := F.cell 8 (by omega)
  have hlt := F.lt
  obtain ⟨_, ⟨bn, hbn⟩, bs, hbs⟩ := F.ok
  have hM := F.one.ss bs hbs
  have hlk := look16 isK_str mapS16 hM n
  have hf := look_strsF n (c.fn x).consts 0 hok
  simp only [fnV, List.getElem?_cons_succ, List.getElem?_cons_zero, Sl.v, hbs] at c6 c7
  unfold CmD.const
  cases hi : (c.fn x).consts.findIdx? (fun e => e.same (strV n)) with
  | some k =>
    rw [hi] at hf
    rw [hf] at hlk
    simp only [Option.map_some, Option.getD_some, Option.isSome_some, Nat.zero_add] at hlk
    simp only
    have HR : Hid (CRep w o C N c) := R
    clear R F hM hf hi hok hl
    unfold fptr
    go_enter Tryz.func232, Tryz.ntmps232
    go_wp2_with fail
    go_ret
    exact ⟨rfl, o, HR.out, Stp.refl _ _ _⟩
  | none =>
    rw [hi] at hf
    have hf0 : look (strsF 0 (c.fn x).consts) n = none := hf
    rw [hf0] at hlk
    simp only [Option.getD_none, Option.isSome_none] at hlk
    simp only
    obtain ⟨w1, hu, hM1, hS1⟩ := upd16 isK_str mapS16 hM n (c.fn x).consts.length hf0
    obtain ⟨m, HM⟩ : ∃ m : Nat, Hid ((c.fn x).consts.length = m) := ⟨_, rfl⟩
    have hmm : m % 65536 = m := Nat.mod_eq_of_lt (by have := HM.out; omega)
    rw [HM.out] at hl hu c6 hM1 ⊢
    rw [hmm]
    have F1 := F.rep.here.st hS1 (by unfold labF; omega)
    have d6 : w1.cell? ⟨C.gF, x * 11 + 6, none⟩ = some (.slice L.cn.a m L.cn.c) := by rw [hS1.cellQ hlt (by rw [F.rep.here.lb]; unfold labF; omega)]; exact c6
    have d7 : w1.cell? ⟨C.gF, x * 11 + 8, none⟩ = some (.map (some bs)) := by rw [hS1.cellQ hlt (by rw [F.rep.here.lb]; unfold labF; omega)]; exact c7
    have dl := F1.has.lt
    have row1 := (F.one.cn.st hS1 (by unfold labF; omega))
    have HROW : Hid ((w1.alloc (.cells (vCells (strV n)).toArray 68)).ownsRow 0 68 3 (L.cn.v m) m ((c.fn x).consts.flatMap vCells)) := by
      have := owns_alloc row1.own (.cells (vCells (strV n)).toArray 68)
      rw [HM.out] at this
      exact this
    have HF : Hid (FnAt w o C c x xs L) := F
    have HR : Hid (CRep w o C N c) := R
    have HS1 : Hid (Stp (fun k => k = labF x 4) w o w1 o) := hS1
    have HM1 : Hid (MapAt w1 o (labF x 4) bs (ent16 sk (strsF 0 (c.fn x).consts ++ [(n, m)]))) := hM1
    have HROW1 : Hid (Row w1 o (labF x 2) 68 3 L.cn (c.fn x).consts.length ((c.fn x).consts.flatMap vCells)) := row1
    have HF1 : Hid (Blk w1 o 1051 C.gF (xs.flatMap (fnV C.gF)).toArray 102) := F1
    clear R F hM hf hi hok hM1 hS1 hmm hf0 row1 F1
    unfold fptr
    go_enter Tryz.func232, Tryz.ntmps232
    go_wp2_with (at_builtin; go_must (refine wpList_appN rowVal _ rfl (.tmp 34) (.tmp 37) rfl (L.cn.v m) m _ rfl HROW.out w1.heap.size 1 1 (vCells (strV n)) rfl (Has.new _ _ _) rfl (by omega) (vCells_oneC _) ?bd ?go))
    case bd => omega
    case go =>
      intro g' cap' w2 q1 q2 q3 q4
      have hf : Fr (fun _ => False) w1 (w1.alloc (.cells (vCells (strV n)).toArray 68)) := (Fr.refl _ _).alloc _
      have hq3 : (L.cn.v (c.fn x).consts.length).ownBlock = some g' ∨ w1.heap.size ≤ g' := by rw [HM.out]; exact q3.imp_right (fun h => by rw [h]; simp)
      obtain ⟨r1, r2⟩ := HROW1.out.app hf q1 (by rw [HM.out]; exact q2) hq3 q4
      have hb2 := HF1.out.st r2 (by unfold labF; omega)
      have e6 : w2.cell? ⟨C.gF, x * 11 + 6, none⟩ = some (.slice L.cn.a m L.cn.c) := by
        rw [r2.cellQ dl (by rw [HF1.out.lb]; unfold labF; omega)]
        exact d6
      have d3 := hb2.has.frozen (x * 11 + 6)
      have k3 := hb2.has.lt
      have s12 : Stp (fun k => k = labF x 2 ∨ k = labF x 4) w o w2 (upd o g' (labF x 2)) := (HS1.out.weaken (fun k h => .inr h)).trans (r2.weaken (fun k h => .inl h))
      have FIN : Hid (∃ o', CRep (w2.setCell ⟨C.gF, x * 11 + 6, none⟩ (.slice (some ⟨g', 0, none⟩) (m + 1) cap')) o' C N (c.upd x fun d => { d with consts := d.consts ++ [strV n] }) ∧ Stp (QF1 x) w o (w2.setCell ⟨C.gF, x * 11 + 6, none⟩ (.slice (some ⟨g', 0, none⟩) (m + 1) cap')) o') := by
        obtain ⟨p1, p2⟩ := HF.out.put s12 (by unfold labF; omega) (j := 6) (by omega) (d' := ({ c.fn x with consts := (c.fn x).consts ++ [strV n] }, { L with cn := ⟨some ⟨g', 0, none⟩, cap'⟩ })) (u := .slice (some ⟨g', 0, none⟩) (m + 1) cap') (by simp [fnV, HM.out])
        have s2 : Stp (fun k => k = 1051 ∨ k = labF x 2 ∨ k = labF x 3 ∨ k = labF x 4) w o _ (upd o g' (labF x 2)) := (s12.weaken (fun k h => by rcases h with h | h <;> simp [h])).trans (p2.weaken (fun k h => .inl h))
        have sF : Stp (QF1 x) w o _ (upd o g' (labF x 2)) := s2.weaken (fun k h => by
          rcases h with h | h | h | h
          · exact .inl h
          · exact .inr ⟨2, h⟩
          · exact .inr ⟨3, h⟩
          · exact .inr ⟨4, h⟩)
        refine ⟨_, HF.out.set (u := fun d => { d with consts := d.consts ++ [strV n] }) HR.out hx sF p1 (HF.out.one.consts s2 ?_ ?_ ?_) HF.out.ok, sF⟩
        · have := r1.st p2 (by unfold labF; omega)
          rw [List.length_append, List.flatMap_append, HM.out]
          simpa using this
        · intro b hb
          have e : numsF 0 ((c.fn x).consts ++ [strV n]) = numsF 0 (c.fn x).consts := by
            rw [numsF_app]
            simp [strV]
          show MapAt _ _ _ _ (ent16 _ (numsF 0 ((c.fn x).consts ++ [strV n])))
          rw [e]
          exact ((HF.out.one.nu b hb).st s12 (by unfold labF; omega)).st p2 (by unfold labF; omega)
        · intro b hb
          rw [show b = bs from by rw [hbs] at hb; cases hb; rfl]
          have := (HM1.out.st r2 (by unfold labF; omega)).st p2 (by unfold labF; omega)
          have e : strsF 0 ((c.fn x).consts ++ [strV n]) = strsF 0 (c.fn x).consts ++ [(n, m)] := by
            rw [strsF_app, HM.out]
            simp [strV]
          rw [e]
          exact this
      clear q1 q2 q3 q4 hq3 r1 r2 hb2 s12 hf
      go_wp2
      go_ret
      exact ⟨rfl, FIN.out⟩
end
end Go.Proofs.Qxb6500574aGreatDoor
