/-
  moon: THE MACHINE's OWN ARENAS TURNED; the walks of burn, Fuel, Status, Out.
-/
import Derived.Test.Qxb6500574aGreatDoorVPop
import Derived.Test.Qxb6500574aGreatDoorVFly
namespace Go.Proofs.Qxb6500574aGreatDoor
open Go Go.RowKit
set_option linter.unusedVariables false
set_option linter.unusedSimpArgs false

section
variable {w w1 : World} {A : VL} {m m' : VMD} {f e f' e' i : Nat} {t : ThD} {l : ThL} {o' : Nat → Nat} {C' : CoL}
theorem VRep.setCore (h : VRep w A m f e) (s : Stp isCo w A.o w1 o') (hc : CoreRep w1 o' A.b A.bn A.bt A.bT C' m' m'.ths.length f' e') (ht : m'.ths = m.ths) (hb : m'.tabs = m.tabs) :
    VRep w1 { A with o := o', C := C' } m' f' e' ∧ VSt isCo w A w1 { A with o := o', C := C' } := by
  obtain ⟨k, hk, htb⟩ := h.tabs
  have n5 := h.len5
  refine ⟨⟨hc, ?_, by rw [ht]; exact h.lenX, by rw [ht]; exact n5, h.num.st s (fun q => by rcases q with q | q | q <;> omega) (fun q => by rcases q with q | q | q <;> omega), ⟨k, by rw [hb]; exact hk, ?_⟩, s.hi h.own⟩, s, rfl, rfl, rfl, rfl, rfl⟩
  · rw [ht]
    exact h.ths.st s (by have := h.lenX; simp; omega) (fun l hl q => by rcases q with q | q | q <;> rcases hl with hl | hl <;> omega)
  · rw [hb]
    exact htb.st s (fun l hl q => by rcases q with q | q | q <;> rcases hl with hl | hl | hl <;> omega)
/-- a plain field of the machine -/
theorem CoreRep.field {o : Nat → Nat} {b bn bt bT n : Nat} {L : CoL} (h : CoreRep w o b bn bt bT L m n f e) (j : Nat) (u : Value) (he : (vmCells bn bt bT L m n f e).setIfInBounds j u = vmCells bn bt bT L m n f' e') :
    CoreRep (w.setCell ⟨b, j, none⟩ u) o b bn bt bT L m n f' e' ∧ Stp (fun k => k = 1) w o (w.setCell ⟨b, j, none⟩ u) o := by
  obtain ⟨h1, h2⟩ := h.here.put j u he
  exact ⟨⟨h1, h.protos.st h2 (by omega), h.descs.st h2 (by omega), h.consts.st h2 (by omega), h.code.st h2 (by omega), h.clos.st h2 (by omega), h.upix.st h2 (by omega), h.cells.st h2 (by omega), h.out.st h2 (by omega)⟩, h2⟩
theorem VRep.setFuel (h : VRep w A m f e) (g : Nat) : VRep (w.setCell ⟨A.b, 10, none⟩ (.int .i64 g)) A m g e ∧ VSt isCo w A (w.setCell ⟨A.b, 10, none⟩ (.int .i64 g)) A := by
  obtain ⟨h1, h2⟩ := h.core.field (f' := g) (e' := e) 10 (.int .i64 g) rfl
  exact h.setCore (h2.weaken (fun k hk => .inl hk)) h1 rfl rfl
theorem VRep.cell0 (h : VRep w A m f e) (j : Nat) : w.cell? ⟨A.b, j, none⟩ = (vmCells A.bn A.bt A.bT A.C m m.ths.length f e)[j]? := h.core.here.has.cell j
theorem VRep.bl (h : VRep w A m f e) : A.b < w.heap.size := h.core.here.has.lt
set_option maxRecDepth 100000
set_option maxHeartbeats 400000
theorem burn_no (h : VRep w A m 0 e) : Calls Tryz.prog 284 #[.pointer (some ⟨A.b, 0, none⟩)] w fun e' w' => e' = .panicked (trapE 9) ∧ w' = w := by
  have c := h.cell0 10
  simp only [vmCells, List.getElem?_toArray, List.getElem?_cons_succ, List.getElem?_cons_zero] at c
  have hb := h.bl
  clear h
  go_enter Tryz.func284, Tryz.ntmps284
  go_wp2_with fail
  refine (stop_any 9).mono ?_
  rintro e w1 ⟨rfl, rfl⟩
  exact ⟨rfl, rfl, rfl⟩
theorem burn_ok (h : VRep w A m (f + 1) e) (hf : f + 1 < 9223372036854775808) : Calls Tryz.prog 284 #[.pointer (some ⟨A.b, 0, none⟩)] w fun e' w' => e' = .returned (.tuple #[]) ∧ VRep w' A m f e ∧ VSt isCo w A w' A := by
  have c := h.cell0 10
  simp only [vmCells, List.getElem?_toArray, List.getElem?_cons_succ, List.getElem?_cons_zero] at c
  have z := h.core.here.has.frozen 10
  have hb := h.bl
  have FIN : Hid (_ ∧ _) := h.setFuel f
  have hz : (((f + 1 : Nat) : Int) == 0) = false := by rw [beq_eq_false_iff_ne]; omega
  have h1 : ((f + 1 : Nat) : Int) - 1 = f := by omega
  clear h
  obtain ⟨F, HF⟩ : ∃ F : Int, Hid (((f + 1 : Nat) : Int) = F) := ⟨_, rfl⟩
  rw [HF.out] at c hz h1
  have hF2 : F = (f : Int) + 1 := by rw [← HF.out]; omega
  go_enter Tryz.func284, Tryz.ntmps284
  go_wp2_with fail
  go_end0
  exact ⟨rfl, FIN.out⟩
theorem fuel_any (h : VRep w A m f e) : Calls Tryz.prog 57 #[.pointer (some ⟨A.b, 0, none⟩)] w fun e' w' => e' = .returned (.int .i64 f) ∧ w' = w := by
  have c := h.cell0 10
  simp only [vmCells, List.getElem?_toArray, List.getElem?_cons_succ, List.getElem?_cons_zero] at c
  have hb := h.bl
  clear h
  go_enter Tryz.func57, Tryz.ntmps57
  go_wp2_with fail
  go_ret
  exact ⟨rfl, rfl⟩
theorem status_any (h : VRep w A m f e) (hi : m.ths[i]? = some t) : Calls Tryz.prog 85 #[.pointer (some ⟨A.b, 0, none⟩), .int .i64 i] w fun e' w' => e' = .returned (.int .i64 t.st) ∧ w' = w := by
  obtain ⟨l, hx⟩ := h.lays hi
  have c := h.cell0 9
  simp only [vmCells, List.getElem?_toArray, List.getElem?_cons_succ, List.getElem?_cons_zero] at c
  have c2 := h.thCell hi hx (j := 0) (by omega)
  simp only [thCells, List.getElem?_cons_zero, Nat.add_zero] at c2
  have hb := h.bl
  have hT := h.ths.here.has.lt
  have h5 := h.i5 hi
  have hlt := (List.getElem?_eq_some_iff.1 hi).1
  have hl5 := h.len5
  obtain ⟨N, HN⟩ : ∃ N : Nat, Hid (m.ths.length = N) := ⟨_, rfl⟩
  rw [HN.out] at c hlt hl5
  have hN5 : N ≤ 5 := by omega
  have h1 : ¬ (i : Int) < 0 := by omega
  have h2 : ¬ (N : Int) ≤ (i : Int) := by omega
  clear h hi hx
  go_enter Tryz.func85, Tryz.ntmps85
  go_wp2_with fail
  go_ret
  exact ⟨rfl, rfl⟩
/-- the cells of a frame -/
theorem VRep.fm (h : VRep w A m f e) (hi : m.ths[i]? = some t) (hx : A.X[i]? = some l) {j : Nat} {r : FmD} (hj : t.frames[j]? = some r) :
    ∃ g, l.f.a = some ⟨g, 0, none⟩ ∧ t.frames.length ≤ l.f.c ∧ A.o g = 21 + 3 * i ∧ g < w.heap.size ∧ (∀ k, k < 5 → w.cell? ⟨g, j * 5 + k, none⟩ = (fCells r)[k]?) ∧ (∀ k, w.frozen? ⟨g, k, none⟩ = false) := by
  have hlt := (List.getElem?_eq_some_iff.1 hj).1
  obtain ⟨g, h1, h2, h3, h4, h5, h6⟩ := (h.one hi hx).f.cells (show 0 < t.frames.length by omega)
  refine ⟨g, h1, h2, h3, h4, fun k hk => ?_, h6⟩
  rw [h5 _ (show _ < t.frames.length * 5 by omega)]
  exact flatMap_at _ 5 fCells_len t.frames j k r hj hk
/-- a row of the thread turned in place -/
theorem VRep.inTh (h : VRep w A m f e) (hi : m.ths[i]? = some t) (hl : A.X[i]? = some l) {t' : ThD} (s : Stp (fun k => 20 + 3 * i ≤ k ∧ k < 23 + 3 * i) w A.o w1 A.o) (he : thCells (t', l) = thCells (t, l)) (ho : ThOne w1 A.o i (t', l)) : VRep w1 A (m.setTh i t') f e ∧ VSt (isT i) w A w1 A := by
  have s2 : Stp (isT i) w A.o w1 A.o := s.weaken (fun k hk => .inr hk)
  have hh := s.has h.ths.here.has (by rw [h.ths.here.lb]; omega)
  have e2 : ((m.ths.zip A.X ++ A.Z).set i (t', l)).flatMap thCells = (m.ths.zip A.X ++ A.Z).flatMap thCells := by
    have hz := h.zipAt hi hl
    rw [flatMap_set _ 5 thCells_len _ i 0 (t, l) (t', l) (.int .i64 t.st) hz (by omega) (by rw [he]; rfl)]
    apply List.ext_getElem?
    intro j
    rw [List.getElem?_set]
    split
    · rename_i ej
      subst ej
      rw [flatMap_at _ 5 thCells_len _ i 0 _ hz (by omega)]
      split
      · rfl
      · rename_i hh2
        rw [flatMap_len _ 5 thCells_len] at hh2
        have := (List.getElem?_eq_some_iff.1 hz).1
        omega
    · rfl
  have := h.turn hi hl (t' := t') (l' := l) s2 (by rw [e2]; exact hh) ho
  rw [VL.same A hl] at this
  exact this
theorem VRep.setPc (h : VRep w A m f e) (hi : m.ths[i]? = some t) (hx : A.X[i]? = some l) {g j : Nat} (hg : l.f.a = some ⟨g, 0, none⟩) {r : FmD} (hj : t.frames[j]? = some r) (x : Nat) :
    VRep (w.setCell ⟨g, j * 5 + 1, none⟩ (.int .i64 x)) A (m.setTh i { t with frames := t.frames.set j { r with pc := x } }) f e ∧ VSt (isT i) w A (w.setCell ⟨g, j * 5 + 1, none⟩ (.int .i64 x)) A := by
  have one := h.one hi hx
  obtain ⟨r1, r2⟩ := one.f.put hg (j * 5 + 1) (.int .i64 x) (flatMap_set _ 5 fCells_len t.frames j 1 r { r with pc := x } (.int .i64 x) hj (by omega) rfl).symm
  refine h.inTh hi hx (r2.weaken (fun k hk => by omega)) (by simp [thCells]) ⟨one.s.st r2 (by omega), ?_, one.p.st r2 (by omega)⟩
  simpa using r1
theorem jump_fw (h : VRep w A m f e) (hi : m.ths[i]? = some t) (hx : A.X[i]? = some l) {g j : Nat} (hg : l.f.a = some ⟨g, 0, none⟩) {r : FmD} (hj : t.frames[j]? = some r) {x : Nat} (hx2 : r.pc < x) (hx3 : x < 65536) :
    Calls Tryz.prog 265 #[.pointer (some ⟨A.b, 0, none⟩), .pointer (some ⟨g, j * 5, none⟩), .int .i64 x] w fun e' w' => e' = .returned (.tuple #[]) ∧ VRep w' A (m.setTh i { t with frames := t.frames.set j { r with pc := x } }) f e ∧ VSt (isT i) w A w' A := by
  obtain ⟨g', ga, _, _, gl, gc, gf⟩ := h.fm hi hx hj
  rw [hg] at ga
  cases ga
  have c1 := gc 1 (by omega)
  simp only [fCells, List.getElem?_cons_succ, List.getElem?_cons_zero] at c1
  have z1 := gf (j * 5 + 1)
  have FIN : Hid (_ ∧ _) := h.setPc hi hx hg hj x
  have hle : ¬ (x : Int) ≤ (r.pc : Int) := by omega
  clear h hi hx hj gc gf hg
  go_enter Tryz.func265, Tryz.ntmps265
  go_wp2_with fail
  go_end0
  exact ⟨rfl, FIN.out⟩
theorem jump_no (h : VRep w A m 0 e) (hi : m.ths[i]? = some t) (hx : A.X[i]? = some l) {g j : Nat} (hg : l.f.a = some ⟨g, 0, none⟩) {r : FmD} (hj : t.frames[j]? = some r) {x : Nat} (hx2 : x ≤ r.pc) :
    Calls Tryz.prog 265 #[.pointer (some ⟨A.b, 0, none⟩), .pointer (some ⟨g, j * 5, none⟩), .int .i64 x] w fun e' w' => e' = .panicked (trapE 9) ∧ w' = w := by
  obtain ⟨g', ga, _, _, gl, gc, gf⟩ := h.fm hi hx hj
  rw [hg] at ga
  cases ga
  have c1 := gc 1 (by omega)
  simp only [fCells, List.getElem?_cons_succ, List.getElem?_cons_zero] at c1
  have H : Hid (VRep w A m 0 e) := h
  have hle : (x : Int) ≤ (r.pc : Int) := by omega
  clear h hi hx hj gc gf hg
  go_enter Tryz.func265, Tryz.ntmps265
  go_wp2_with fail
  refine (burn_no H.out).mono ?_
  rintro e w1 ⟨rfl, rfl⟩
  exact ⟨rfl, rfl, rfl⟩
theorem jump_bw (h : VRep w A m (f + 1) e) (hf : f + 1 < 9223372036854775808) (hi : m.ths[i]? = some t) (hx : A.X[i]? = some l) {g j : Nat} (hg : l.f.a = some ⟨g, 0, none⟩) {r : FmD} (hj : t.frames[j]? = some r) {x : Nat} (hx2 : x ≤ r.pc) (hx3 : x < 65536) :
    Calls Tryz.prog 265 #[.pointer (some ⟨A.b, 0, none⟩), .pointer (some ⟨g, j * 5, none⟩), .int .i64 x] w fun e' w' => e' = .returned (.tuple #[]) ∧ VRep w' A (m.setTh i { t with frames := t.frames.set j { r with pc := x } }) f e ∧ VSt (fun k => isCo k ∨ isT i k) w A w' A := by
  obtain ⟨g', ga, _, _, gl, gc, gf⟩ := h.fm hi hx hj
  rw [hg] at ga
  cases ga
  have c1 := gc 1 (by omega)
  simp only [fCells, List.getElem?_cons_succ, List.getElem?_cons_zero] at c1
  have H : Hid (VRep w A m (f + 1) e) := h
  have HI : Hid (m.ths[i]? = some t) := hi
  have HX : Hid (A.X[i]? = some l) := hx
  have HG : Hid (l.f.a = some ⟨g, 0, none⟩) := hg
  have HJ : Hid (t.frames[j]? = some r) := hj
  have hle : (x : Int) ≤ (r.pc : Int) := by omega
  clear h hi hx hj gc gf hg
  go_enter Tryz.func265, Tryz.ntmps265
  go_wp2_with fail
  refine (burn_ok H.out hf).mono ?_
  rintro e w1 ⟨rfl, R1, S1⟩
  obtain ⟨g', ga, _, _, gl1, gc, gf⟩ := R1.fm HI.out HX.out HJ.out
  rw [HG.out] at ga
  cases ga
  have d1 := gc 1 (by omega)
  simp only [fCells, List.getElem?_cons_succ, List.getElem?_cons_zero] at d1
  have z1 := gf (j * 5 + 1)
  obtain ⟨p1, p2⟩ := R1.setPc HI.out HX.out HG.out HJ.out x
  have FIN : Hid (_ ∧ _) := And.intro p1 ((S1.weaken (Q' := fun k => isCo k ∨ isT i k) (fun k hk => .inl hk)).trans (p2.weaken (fun k hk => .inr hk)))
  clear R1 S1 gc gf p1 p2
  go_wp2_with fail
  go_end0
  exact ⟨rfl, FIN.out⟩
end
end Go.Proofs.Qxb6500574aGreatDoor
