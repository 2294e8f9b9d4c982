/-
  THE WALK of comp: a list of a function state turned; emit.
-/
import Derived.Test.Qxb6500574aGreatDoorWCm1
namespace Go.Proofs.Qxb6500574aGreatDoor
open Go Go.RowKit
set_option linter.unusedVariables false
set_option linter.unusedSimpArgs false
open Go.Lib
section
variable {w w' : World} {o o' : Nat → Nat} {g x : Nat} {d : FnD} {l : FnL}
theorem FnOne.code (h : FnOne w o g x (d, l)) (t : Stp (fun k => k = 1051 ∨ k = labF x 5) w o w' o') {s : Sl} {cd : List In} (r : Row w' o' (labF x 5) 105 2 s cd.length (cd.flatMap iCells)) : FnOne w' o' g x ({ d with code := cd }, { l with cd := s }) :=
  ⟨h.lo.st t (by unfold labF; omega), h.up.st t (by unfold labF; omega), h.cn.st t (by unfold labF; omega), fun b e => (h.nu b e).st t (by unfold labF; omega), fun b e => (h.ss b e).st t (by unfold labF; omega), r, h.lp.st t (by unfold labF; omega), h.bl, fun i l b a1 a2 => (h.br i l b a1 a2).st t (by unfold labF; omega) (by unfold labF; omega)⟩
theorem FnOne.locals (h : FnOne w o g x (d, l)) (t : Stp (fun k => k = 1051 ∨ k = labF x 0) w o w' o') {s : Sl} {lo : List Bs} {ns : Nat} (r : Row w' o' (labF x 0) 9 1 s lo.length (lo.flatMap nmV)) : FnOne w' o' g x ({ d with locals := lo, nslots := ns }, { l with lo := s }) :=
  ⟨r, h.up.st t (by unfold labF; omega), h.cn.st t (by unfold labF; omega), fun b e => (h.nu b e).st t (by unfold labF; omega), fun b e => (h.ss b e).st t (by unfold labF; omega), h.cd.st t (by unfold labF; omega), h.lp.st t (by unfold labF; omega), h.bl, fun i l b a1 a2 => (h.br i l b a1 a2).st t (by unfold labF; omega) (by unfold labF; omega)⟩
theorem FnOne.ups (h : FnOne w o g x (d, l)) (t : Stp (fun k => k = 1051 ∨ k = labF x 1) w o w' o') {s : Sl} {up : List (Nat × Nat)} (r : Row w' o' (labF x 1) 135 2 s up.length (up.flatMap dCells)) : FnOne w' o' g x ({ d with ups := up }, { l with up := s }) :=
  ⟨h.lo.st t (by unfold labF; omega), r, h.cn.st t (by unfold labF; omega), fun b e => (h.nu b e).st t (by unfold labF; omega), fun b e => (h.ss b e).st t (by unfold labF; omega), h.cd.st t (by unfold labF; omega), h.lp.st t (by unfold labF; omega), h.bl, fun i l b a1 a2 => (h.br i l b a1 a2).st t (by unfold labF; omega) (by unfold labF; omega)⟩
/-- no list turned: a plain cell -/
theorem FnOne.plain (h : FnOne w o g x (d, l)) (t : Stp (fun k => k = 1051) w o w' o') {d' : FnD} (e1 : d'.locals = d.locals) (e2 : d'.ups = d.ups) (e3 : d'.consts = d.consts) (e4 : d'.code = d.code) (e5 : d'.loops = d.loops) {l' : FnL} (e6 : l' = { l with c := l'.c }) : FnOne w' o' g x (d', l') := by
  obtain ⟨a1, a2, a3, a4, a5, a6, a7, a8, a9⟩ := h
  obtain ⟨b1, b2, b3, b4, b5, b6, b7, b8⟩ := d'
  simp only at e1 e2 e3 e4 e5
  subst e1 e2 e3 e4 e5
  rw [e6]
  exact ⟨a1.st t (by unfold labF; omega), a2.st t (by unfold labF; omega), a3.st t (by unfold labF; omega), fun b e => (a4 b e).st t (by unfold labF; omega), fun b e => (a5 b e).st t (by unfold labF; omega), a6.st t (by unfold labF; omega), a7.st t (by unfold labF; omega), a8, fun i l b u1 u2 => (a9 i l b u1 u2).st t (by omega) (by unfold labF; omega)⟩
end
theorem rowIns : IsRow Tryz.prog 99 105 (.agg #[.int .u8 0, .int .u16 0]) 2 4 := ⟨by kernel_rfl, by kernel_rfl, rfl, by decide⟩
theorem rowStr : IsRow Tryz.prog 95 9 (sv []) 1 16 := ⟨by kernel_rfl, by kernel_rfl, rfl, by decide⟩
theorem iCells_ones (l : List In) : ∀ u ∈ l.flatMap iCells, u.oneCell' = true := by
  intro u hu
  obtain ⟨i, _, h⟩ := List.mem_flatMap.1 hu
  exact iCells_oneC i u h
section
set_option maxRecDepth 100000
set_option maxHeartbeats 1000000
variable {w : World} {o : Nat → Nat} {C : CC} {N : List Nd} {c : CmD} {x : Nat}
theorem emitF {xs : List (FnD × FnL)} {L : FnL} (F : FnAt w o C c x xs L) (R : CRep w o C N c) (hx : x < c.np) (l : List In) {kb m cap : Nat} (hb : Has w kb (l.flatMap iCells).toArray 105) (hm : l.length = m) (hp : 0 < m) (hl : (c.fn x).code.length + m ≤ 65535) :
    Calls Tryz.prog 65 #[fptr C.gF x, .slice (some ⟨kb, 0, none⟩) m cap] w fun e w' => e = .returned (.tuple #[]) ∧ ∃ o', CRep w' o' C N (c.emit x l) ∧ Stp (fun k => k = 1051 ∨ k = labF x 5) w o w' o' ∧ ∃ s', FnAt w' o' C (c.emit x l) x (xs.set x ({ c.fn x with code := (c.fn x).code ++ l }, { L with cd := s' })) { L with cd := s' } := by
  have c9 := F.cell 9 (by omega)
  have hlt := F.lt
  have HF : Hid (FnAt w o C c x xs L) := F
  have HRR : Hid (CRep w o C N c) := R
  have HR : Hid (w.ownsRow 0 105 2 (L.cd.v (c.fn x).code.length) (c.fn x).code.length ((c.fn x).code.flatMap iCells)) := F.one.cd.own
  have HB : Hid (Has w kb (l.flatMap iCells).toArray 105) := hb
  have HM : Hid (l.length = m) := hm
  simp only [fnV, List.getElem?_cons_succ, List.getElem?_cons_zero, Sl.v] at c9
  obtain ⟨n, HN⟩ : ∃ n : Nat, Hid ((c.fn x).code.length = n) := ⟨_, rfl⟩
  rw [HN.out] at c9 hl
  clear F R hb hm
  unfold fptr
  go_enter Tryz.func65, Tryz.ntmps65
  go_wp2_with (at_builtin; go_must (refine wpList_appN rowIns _ rfl (.tmp 8) (.tmp 9) rfl (L.cd.v (c.fn x).code.length) (c.fn x).code.length _ (by rw [HN.out]; rfl) HR.out kb m cap (l.flatMap iCells) rfl HB.out (by rw [flatMap_len _ 2 iCells_len, HM.out]) hp (iCells_ones l) ?bd ?go))
  case bd => rw [HN.out]; omega
  case go =>
    intro g' cap' w2 q1 q2 q3 q4
    have hq3 : (L.cd.v (c.fn x).code.length).ownBlock = some g' ∨ w.heap.size ≤ g' := q3.imp_right (fun h => by rw [h]; exact Nat.le_refl _)
    obtain ⟨r1, r2⟩ := HF.out.one.cd.app (Fr.refl _ _) q1 q2 hq3 q4
    have hb2 := HF.out.rep.here.st r2 (by unfold labF; omega)
    obtain ⟨p1, p2⟩ := HF.out.put r2 (by unfold labF; omega) (j := 9) (by omega) (d' := ({ c.fn x with code := (c.fn x).code ++ l }, { L with cd := ⟨some ⟨g', 0, none⟩, cap'⟩ })) (u := .slice (some ⟨g', 0, none⟩) ((c.fn x).code.length + m) cap') (by simp [fnV, HM.out])
    have d4 : w2.cell? ⟨C.gF, x * 11 + 9, none⟩ = some (.slice L.cd.a n L.cd.c) := by
      have := flatMap_at (fnV C.gF) 11 (fnV_len C.gF) xs x 9 _ HF.out.at_ (by omega)
      rw [hb2.has.cell, List.getElem?_toArray, this]
      simp [fnV, HN.out]
    have d3 := hb2.has.frozen (x * 11 + 9)
    have k3 := hb2.has.lt
    have s2 : Stp (fun k => k = 1051 ∨ k = labF x 5) w o _ (upd o g' (labF x 5)) := (r2.weaken (fun k h => .inr h)).trans (p2.weaken (fun k h => .inl h))
    have FIN : Hid (∃ o', CRep (w2.setCell ⟨C.gF, x * 11 + 9, none⟩ (.slice (some ⟨g', 0, none⟩) (n + m) cap')) o' C N (c.emit x l) ∧ Stp (fun k => k = 1051 ∨ k = labF x 5) w o (w2.setCell ⟨C.gF, x * 11 + 9, none⟩ (.slice (some ⟨g', 0, none⟩) (n + m) cap')) o' ∧ ∃ s', FnAt (w2.setCell ⟨C.gF, x * 11 + 9, none⟩ (.slice (some ⟨g', 0, none⟩) (n + m) cap')) o' C (c.emit x l) x (xs.set x ({ c.fn x with code := (c.fn x).code ++ l }, { L with cd := s' })) { L with cd := s' }) := by
      rw [← HN.out]
      have sF : Stp (QF1 x) w o _ _ := s2.weaken (fun k h => h.imp_right (fun h => ⟨5, h⟩))
      have hone : FnOne (w2.setCell ⟨C.gF, x * 11 + 9, none⟩ (.slice (some ⟨g', 0, none⟩) ((c.fn x).code.length + m) cap')) (upd o g' (labF x 5)) C.gF x ({ c.fn x with code := (c.fn x).code ++ l }, { L with cd := ⟨some ⟨g', 0, none⟩, cap'⟩ }) := by
        refine HF.out.one.code s2 ?_
        have := r1.st p2 (by unfold labF; omega)
        rw [List.length_append, List.flatMap_append, HM.out]
        exact this
      exact ⟨_, HF.out.set (u := fun d => { d with code := d.code ++ l }) HRR.out hx sF p1 hone HF.out.ok, s2, _, HF.out.setA (u := fun d => { d with code := d.code ++ l }) HRR.out hx sF p1 hone HF.out.ok⟩
    rw [HN.out]
    clear q1 q2 q3 q4 hq3 r1 r2 hb2 p1 p2 s2
    go_wp2
    go_end0
    exact ⟨rfl, FIN.out⟩
theorem Stp.code {w' : World} {o' : Nat → Nat} (h : Stp (fun k => k = 1051 ∨ k = labF x 5) w o w' o') : Stp (QF1 x) w o w' o' := h.weaken (fun k h => h.imp_right (fun h => ⟨5, h⟩))
theorem emit_any (R : CRep w o C N c) (hx : x < c.np) (l : List In) {kb m cap : Nat} (hb : Has w kb (l.flatMap iCells).toArray 105) (hm : l.length = m) (hp : 0 < m) (hl : (c.fn x).code.length + m ≤ 65535) :
    Calls Tryz.prog 65 #[fptr C.gF x, .slice (some ⟨kb, 0, none⟩) m cap] w fun e w' => e = .returned (.tuple #[]) ∧ ∃ o', CRep w' o' C N (c.emit x l) ∧ Stp (QF1 x) w o w' o' := by
  obtain ⟨xs, L, F⟩ := R.fn hx
  refine (emitF F R hx l hb hm hp hl).mono ?_
  rintro e w' ⟨h1, o', h2, h3, _⟩
  exact ⟨h1, o', h2, h3.code⟩
/-- one instruction, laid at the call -/
theorem emit1 (R : CRep w o C N c) (hx : x < c.np) {op y : Nat} {a b : Int} (ha : a = op) (hb : b = y) (hl : (c.fn x).code.length + 1 ≤ 65535) :
    Calls Tryz.prog 65 #[fptr C.gF x, .slice (some ⟨w.heap.size, 0, none⟩) 1 1] (w.alloc (.cells #[.int .u8 a, .int .u16 b] 105)) fun e w' => e = .returned (.tuple #[]) ∧ ∃ o', CRep w' o' C N (c.emit x [(op, y)]) ∧ Stp (QF1 x) w o w' o' := by
  subst ha hb
  refine (emit_any (R.alloc (.cells #[.int .u8 op, .int .u16 y] 105)) hx [(op, y)] (m := 1) (Has.new _ _ _) rfl (by omega) hl).mono ?_
  rintro e w' ⟨h1, o', h2, h3⟩
  exact ⟨h1, o', h2, ((Stp.refl _ _ _).alloc _).trans h3⟩
theorem emitK (R : CRep w o C N c) (hx : x < c.np) {op y kb : Nat} {a b : Int} (ha : a = op) (hb : b = y) (hl : (c.fn x).code.length + 1 ≤ 65535) (hk : kb = w.heap.size) :
    Calls Tryz.prog 65 #[fptr C.gF x, .slice (some ⟨kb, 0, none⟩) 1 1] (w.alloc (.cells #[.int .u8 a, .int .u16 b] 105)) fun e w' => e = .returned (.tuple #[]) ∧ ∃ o', CRep w' o' C N (c.emit x [(op, y)]) ∧ Stp (QF1 x) w o w' o' := by
  subst hk
  exact emit1 R hx ha hb hl
theorem emitKF {xs : List (FnD × FnL)} {L : FnL} (F : FnAt w o C c x xs L) (R : CRep w o C N c) (hx : x < c.np) {op y kb : Nat} {a b : Int} (ha : a = op) (hb : b = y) (hl : (c.fn x).code.length + 1 ≤ 65535) (hk : kb = w.heap.size) :
    Calls Tryz.prog 65 #[fptr C.gF x, .slice (some ⟨kb, 0, none⟩) 1 1] (w.alloc (.cells #[.int .u8 a, .int .u16 b] 105)) fun e w' => e = .returned (.tuple #[]) ∧ ∃ o', CRep w' o' C N (c.emit x [(op, y)]) ∧ Stp (fun k => k = 1051 ∨ k = labF x 5) w o w' o' ∧ ∃ s', FnAt w' o' C (c.emit x [(op, y)]) x (xs.set x ({ c.fn x with code := (c.fn x).code ++ [(op, y)] }, { L with cd := s' })) { L with cd := s' } := by
  subst hk ha hb
  refine (emitF (F.fresh ((Fr.refl _ _).alloc (.cells #[.int .u8 op, .int .u16 y] 105))) (R.alloc (.cells #[.int .u8 op, .int .u16 y] 105)) hx [(op, y)] (m := 1) (Has.new _ _ _) rfl (by omega) hl).mono ?_
  rintro e w' ⟨h1, o', h2, h3, h4⟩
  exact ⟨h1, o', h2, ((Stp.refl _ _ _).alloc _).trans h3, h4⟩
theorem upd_upd (c : CmD) (h : x < c.fns.length) (u v : FnD → FnD) : (c.upd x u).upd x v = c.upd x (fun d => v (u d)) := by
  have e := fn_upd c h u x
  rw [if_pos rfl] at e
  unfold CmD.upd at *
  rw [e, List.set_set]
end
end Go.Proofs.Qxb6500574aGreatDoor
