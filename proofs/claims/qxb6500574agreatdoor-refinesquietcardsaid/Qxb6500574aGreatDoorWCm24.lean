/-
  THE WALK of comp: leave as a deferred call; a block.
-/
import Derived.Test.Qxb6500574aGreatDoorWCm23
import Derived.Defers
namespace Go.Proofs.Qxb6500574aGreatDoor
open Go Go.RowKit
set_option linter.unusedVariables false
set_option linter.unusedSimpArgs false
open Go.Lib
section
set_option maxRecDepth 100000
set_option maxHeartbeats 1000000
variable {w : World} {o : Nat → Nat} {C : CC} {N : List Nd} {c : CmD} {x : Nat}
theorem leave_d (u : FrameMode) (R : CRep w o C N c) (hx : x < c.np) (base : Nat) (hb : base < 65536) (hk : (c.fn x).code.length + 1 ≤ 65535) :
    CallsD Tryz.prog 100 #[fptr C.gF x, .int .i64 base] u w fun e u' w' => u' = u ∧ (e = .returned (.tuple #[]) ∧ ∃ o', CRep w' o' C N (c.leave x base) ∧ Stp (QF1 x) w o w' o') := by
  have hlt0 : x < c.fns.length := by have := R.len; have := R.np; omega
  obtain ⟨xs, L, F⟩ := R.fn hx
  have c3 := F.cell 3 (by omega)
  have hlt := F.lt
  simp only [fnV, List.getElem?_cons_succ, List.getElem?_cons_zero, Sl.v] at c3
  have HL : Hid (c.leave x base = if base < (c.fn x).locals.length then (c.emit x [(29, base % 65536)]).upd x fun d => { d with locals := d.locals.take base } else c) := rfl
  obtain ⟨n, HN⟩ : ∃ n : Nat, Hid ((c.fn x).locals.length = n) := ⟨_, rfl⟩
  rw [HN.out] at c3 HL
  rw [Nat.mod_eq_of_lt hb] at HL
  clear F
  by_cases hc : base < n
  · rw [if_pos hc] at HL
    have hcd : decide ((base : Int) < (n : Int)) = true := by simp; omega
    unfold fptr
    go_enter_d Tryz.func100, Tryz.ntmps100
    have he : ((c.emit x [(29, base)]).fn x).locals.length = n := by unfold CmD.emit; rw [fn_upd c hlt0, if_pos rfl]; exact HN.out
    have HE : Hid (((c.emit x [(29, base)]).fn x).locals.length = n) := he
    clear he
    go_wp2_with (go_at_call 65; refine (emit1 R hx rfl rfl hk).mono ?_; rintro e w1 ⟨rfl, o1, R1, S1⟩; obtain ⟨xs1, L1, F1⟩ := R1.fn (x := x) hx; have e3 := F1.cell 3 (by omega); have l3 := F1.lt; have z3 := F1.frozen (x * 11 + 3); simp only [fnV, List.getElem?_cons_succ, List.getElem?_cons_zero, Sl.v] at e3; rw [HE.out] at e3; obtain ⟨g1, a1, a2, a3, a4, a5, a6⟩ := F1.one.lo.cells (by show 0 < ((c.emit x [(29, base)]).fn x).locals.length; rw [HE.out]; omega); have a2 : n ≤ L1.lo.c := HE.out ▸ a2; clear a3 a5 a6)
    go_end0
    obtain ⟨p1, p2⟩ := F1.put (Stp.refl (fun _ => False) _ _) (fun x => x) (j := 3) (by omega) (d' := ({ (c.emit x [(29, base)]).fn x with locals := ((c.emit x [(29, base)]).fn x).locals.take base }, L1)) (u := .slice (some ⟨g1, 0, none⟩) base L1.lo.c) (by
      simp only [fnV, List.set_cons_succ, List.set_cons_zero, List.length_take, HE.out, Sl.v, a1]
      rw [Nat.min_eq_left (by omega)])
    have sF : Stp (QF1 x) w1 o1 _ o1 := p2.weaken (fun k h => .inl h)
    refine ⟨rfl, o1, ?_, S1.trans sF⟩
    rw [HL.out]
    refine F1.set (u := fun d => { d with locals := d.locals.take base }) R1 hx sF p1 ?_ F1.ok
    refine F1.one.locals (s := L1.lo) (ns := ((c.emit x [(29, base)]).fn x).nslots) (p2.weaken (fun k h => .inl h)) ?_
    have hr := (F1.one.lo.take base (by show base ≤ ((c.emit x [(29, base)]).fn x).locals.length; rw [HE.out]; omega) (flatMap_take nmV 1 nmV_len _ base).symm).st p2 (by unfold labF; omega)
    rw [List.length_take, HE.out, Nat.min_eq_left (by omega)]
    exact hr
  · rw [if_neg hc] at HL
    have hcd : decide (base < n) = false := by simp; omega
    unfold fptr
    go_enter_d Tryz.func100, Tryz.ntmps100
    go_wp2
    go_end0
    refine ⟨rfl, o, ?_, Stp.refl _ _ _⟩
    rw [HL.out]
    exact R
end
/-- statements still to come: rem -/
def BkP (C : CC) (N : List Nd) (k f : Nat) (L : List Bs) (r : En) (hi b al' lb : Nat) (lp : Bool) (w0 : World) (o0 : Nat → Nat) (cE : CmD) (rem : List Nat) (w : World) : Prop :=
  ∃ o' a' lo' Lc p' q' c', CB w o' C N f Lc r a' p' q' c' ∧ Stp QC w0 o0 w o' ∧ SeqS (fun x lo a b al al' => Sh N 0 x lo a b 120 al al' lp) rem lo' hi a' b Lc.length al' ∧ LpI lp lb Lc (c'.fn f).loops ∧ LpB lo' (c'.fn f).loops ∧ 17 * (hi - lo') + 1 ≤ p' ∧ hi - lo' ≤ q' ∧ L <+: Lc ∧ rem.foldl (fun c m => comN N k 0 f m c) c' = cE
section
variable {w : World} {o : Nat → Nat} {C : CC} {N : List Nd} {c : CmD} {f n k a b lo p q : Nat} {L : List Bs} {r : En}
theorem addB_len (l : List LpD) (h : List Nat) : (addB l h).length = l.length := by
  rcases snoc_ex l with rfl | ⟨l', x, rfl⟩
  · rfl
  · rw [addB_snoc]; simp
theorem LpI.add {lp : Bool} {lb : Nat} {L L' : List Bs} {l : List LpD} (h : LpI lp lb L l) (hL : L <+: L') (hs : List Nat) : LpI lp lb L' (addB l hs) := by
  intro e
  obtain ⟨h1, l', br, h2⟩ := h e
  exact ⟨Nat.le_trans h1 hL.length_le, l', br ++ hs, by rw [h2, addB_snoc]⟩
theorem holes_len : ∀ (s : List In) (p : Nat), (holes p s).length ≤ s.length := by
  intro s
  induction s with
  | nil => intro p; simp [holes]
  | cons i s ih => intro p; unfold holes; split <;> (have := ih (p + 1); simp; omega)
theorem CB.stm (A : CA N k) (W : CW N C k) {al' lb : Nat} {lp : Bool} (h : CB w o C N f L r a p q c) (hs : Sh N 0 n lo a b 120 L.length al' lp) (hL : LpI lp lb L (c.fn f).loops) (hll : LpB lo (c.fn f).loops) (hp : 17 * (n - lo) ≤ p) (hq : n - lo ≤ q) (hk : 2 * n + 2 ≤ k) :
    Calls Tryz.prog 102 #[fptr C.gF f, .int .i64 n] w fun e w' => e = .returned (.tuple #[]) ∧ ∃ o' L', CB w' o' C N f L' r b (p - 17 * (n - lo)) (q - (n - lo)) (comN N k 0 f n c) ∧ Stp QC w o w' o' ∧ L <+: L' ∧ L'.length = al' ∧ LpI lp lb L' ((comN N k 0 f n c).fn f).loops ∧ LpB n ((comN N k 0 f n c).fn f).loops := by
  refine (W.st w o f L r lo a b n al' lp lb c hs (h.le hp hq) hL hll hk).mono ?_
  rintro e w' ⟨rfl, o', R', S'⟩
  obtain ⟨seg, L', kc, p1, p2, p3, p4, p5, p6, _, p7, _⟩ := A.st f L r lo a b n al' lp lb c hs (h.pre hp hq) hL hk
  simp (config := {decide := true}) only [if_false, Nat.add_zero] at p7
  refine ⟨rfl, o', L', h.go (d := seg.length) p1 (by rw [p5, List.length_append]; exact Nat.le_refl _) (by omega) (by omega) R', S', p3, p4, ?_, ?_⟩
  · rw [p6]; exact hL.add p3 _
  · rw [p6]
    have := hs.lt
    refine hll.add (by omega) ?_
    have := holes_len seg (c.fn f).code.length
    omega
theorem BkP.step (A : CA N k) (W : CW N C k) {hi al' lb : Nat} {lp : Bool} {w0 : World} {o0 : Nat → Nat} {cE : CmD} (hh : hi < N.length) (hk : 2 * hi + 2 ≤ k) (x : Nat) (rem : List Nat) (w : World) (h : BkP C N k f L r hi b al' lb lp w0 o0 cE (x :: rem) w) :
    x < N.length ∧ Calls Tryz.prog 102 #[fptr C.gF f, .int .i64 x] w fun e w' => e = .returned (.tuple #[]) ∧ BkP C N k f L r hi b al' lb lp w0 o0 cE rem w' := by
  obtain ⟨o', a', lo', Lc, p', q', c', B, S, ⟨b1, al1, s1, s2⟩, hL, hll, hp, hq, hpf, he⟩ := h
  have i1 := Sh.lt s1
  have i2 := (SeqS.in_ Sh.ltS s2).1
  refine ⟨by omega, ?_⟩
  refine (B.stm A W s1 hL hll (by omega) (by omega) (by omega)).mono ?_
  rintro e w2 ⟨rfl, o2, L2, B2, S2, t1, t2, t3, t4⟩
  exact ⟨rfl, o2, b1, x, L2, _, _, _, B2, S.trans S2, by rw [t2]; exact s2, t3, t4, by omega, by omega, hpf.trans t1, he⟩
end
section
set_option maxRecDepth 100000
set_option maxHeartbeats 1000000
variable {w : World} {o : Nat → Nat} {C : CC} {N : List Nd} {c : CmD} {f n k a b lo : Nat} {L : List Bs} {r : En}
theorem block_w (A : CA N k) (W : CW N C k) (hN : N.length ≤ 3000) {hi al' lb : Nat} {lp : Bool} {l : List Nat} (hc : Chain N n l) (hs : SeqS (fun x lo a b al al' => Sh N 0 x lo a b 120 al al' lp) l lo hi a b L.length al') (hh : hi < N.length) (B : CB w o C N f L r a (17 * (hi - lo) + 1) (hi - lo) c) (hL : LpI lp lb L (c.fn f).loops) (hll : LpB lo (c.fn f).loops) (hk : 2 * hi + 3 ≤ k + 1) :
    Calls Tryz.prog 64 #[fptr C.gF f, .int .i64 n] w (CQ w o C N (comN N (k + 1) 3 f n c)) := by
  have hss := SeqS.in_ Sh.ltS hs
  have hinc := Inc.len (SeqS.inc Sh.ltS hs) hss.1 (fun x hx => (hss.2 x hx).2)
  have hch : nextL N N.length n = l := chain_eq hc (by omega)
  have e : comN N (k + 1) 3 f n c = (l.foldl (fun c m => comN N k 0 f m c) c).leave f L.length := by
    conv => lhs; unfold comN
    simp (config := {decide := true}) only [if_true, if_false]
    rw [hch, B.I.loc]
  rw [e]
  obtain ⟨xs, FL, F⟩ := B.R.fn B.hf
  have c3 := F.cell 3 (by omega)
  have fl := F.lt
  simp only [fnV, List.getElem?_cons_succ, List.getElem?_cons_zero, Sl.v] at c3
  rw [B.I.loc] at c3
  have h12 := B.I.l12
  have HE := each_stmt (u1 := fptr C.gF f) (f := f) (w := w) (BkP C N k f L r hi b al' lb lp w o (l.foldl (fun c m => comN N k 0 f m c) c)) (fun r w h => by obtain ⟨o', _, _, _, _, _, c', B, _⟩ := h; exact ⟨o', c', B.R, B.hf⟩) (BkP.step A W hh (by omega)) l n hc (by omega) ⟨o, a, lo, L, _, _, _, B, Stp.refl _ _ _, hs, hL, hll, Nat.le_refl _, Nat.le_refl _, List.prefix_refl _, rfl⟩
  obtain ⟨m, HM⟩ : ∃ m : Nat, Hid (L.length = m) := ⟨_, rfl⟩
  rw [HM.out] at c3 h12 ⊢
  clear B F hc hs hL hll hk hss hinc hch e hh
  unfold fptr at HE ⊢
  go_enter_defers Tryz.func64, Tryz.ntmps64
  go_wp2_with fail
  refine HE.mono ?_
  rintro e1 w1 ⟨rfl, o1, a1, lo1, Lc, p1, q1, c1, B1, S1, ⟨t1, t2, t3⟩, t4, t5, t6, t7, t8, t9⟩
  have HB1 : Hid (CB w1 o1 C N f Lc r a1 p1 q1 c1) := B1
  have HS1 : Hid (Stp QC w o w1 o1) := S1
  have HP1 : Hid (1 ≤ p1) := by show _ ≤ _; omega
  have HC1 : Hid (c1 = l.foldl (fun c m => comN N k 0 f m c) c) := t9
  clear HE B1 S1 t1 t2 t3 t4 t5 t6 t7 t8 t9
  go_wp2_with fail
  refine leaves_cons (f := 100) (args := #[.pointer (some ⟨C.gF, f * 11, none⟩), .int .i64 m]) (by simp) (by simp [go_sem]) ?_
  refine (leave_d .returning HB1.out.R HB1.out.hf m (by omega) (by have h1 := HB1.out.pc; have h2 := HP1.out; omega)).mono ?_
  rintro e2 u2 w2 ⟨rfl, rfl, o2, R2, S2⟩
  refine ⟨_, results_none rfl _ _ _, rfl, o2, ?_, HS1.out.trans (CB.qs S2)⟩
  rw [← HC1.out]
  exact R2
end
end Go.Proofs.Qxb6500574aGreatDoor
