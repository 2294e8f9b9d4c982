/-
  THE WALK of comp: parameters, a function's body.
-/
import Derived.Test.Qxb6500574aGreatDoorWCm20
namespace Go.Proofs.Qxb6500574aGreatDoor
open Go Go.RowKit
set_option linter.unusedVariables false
set_option linter.unusedSimpArgs false
open Go.Lib
/-- parameters still to come: rem -/
def PmP (C : CC) (N : List Nd) (g : Nat) (r : En) (a P K : Nat) (d : Nd) (bk : Nat) (w0 : World) (o0 : Nat → Nat) (cE : CmD) (LE : List Bs) (rem : List Nat) (w : World) : Prop :=
  ∃ o' Lc c', CB w o' C N g Lc r a P K c' ∧ Bn w o' d bk ∧ Stp QC w0 o0 w o' ∧ (∀ m ∈ rem, m < N.length) ∧ Lc.length + rem.length ≤ 12 ∧ rem.foldl (fun c m => c.declare g (N.getD m nd0).s) c' = cE ∧ Lc ++ rem.map (fun m => (N.getD m nd0).s) = LE
section
set_option maxRecDepth 100000
set_option maxHeartbeats 1000000
variable {w : World} {o : Nat → Nat} {C : CC} {N : List Nd} {c : CmD} {f g n k a b lo p q : Nat} {L L' : List Bs} {r : En}
theorem PmP.step {P K bk : Nat} {d : Nd} {w0 : World} {o0 : Nat → Nat} {cE : CmD} {LE : List Bs} (x : Nat) (rem : List Nat) (w : World) (h : PmP C N g r a P K d bk w0 o0 cE LE (x :: rem) w) :
    x < N.length ∧ Calls Tryz.prog 275 #[fptr C.gF g, .int .i64 x] w fun e w' => e = .returned (.tuple #[]) ∧ PmP C N g r a P K d bk w0 o0 cE LE rem w' := by
  obtain ⟨o', Lc, c', B, X, S, hm, hl, he, hL⟩ := h
  have hx : x < N.length := hm x (by simp)
  refine ⟨hx, ?_⟩
  simp only [List.length_cons] at hl
  obtain ⟨gg, ha, ⟨q1, q2, q3, q4, q5, q6, q7⟩⟩ := B.R.nd B.hf (by omega)
  have x6 := q7 x 6 hx (by omega)
  simp only [ndV, List.getElem?_cons_succ, List.getElem?_cons_zero] at x6
  have HD := B.declare (N.getD x nd0).s (by omega)
  have HF : Hid (∀ w' o2, CB w' o2 C N g (Lc ++ [(N.getD x nd0).s]) r a P K (c'.declare g (N.getD x nd0).s) → Stp QC w o' w' o2 → PmP C N g r a P K d bk w0 o0 cE LE rem w') :=
    fun w' o2 B2 S2 => ⟨o2, _, _, B2, X.st S2 q0c, S.trans S2, fun m hmm => hm m (by simp [hmm]), by simp; omega, by rw [← he, List.foldl_cons], by rw [← hL]; simp⟩
  obtain ⟨s, HSS⟩ : ∃ s, Hid ((N.getD x nd0).s = s) := ⟨_, rfl⟩
  rw [HSS.out] at HD x6 HF
  clear B X S hm hl he hL q7 ha
  unfold fptr at HD ⊢
  go_enter Tryz.func275, Tryz.ntmps275
  go_wp2_with fail
  refine HD.mono ?_
  rintro e w2 ⟨rfl, o2, B2, S2⟩
  have HE : Hid (PmP C N g r a P K d bk w0 o0 cE LE rem w2) := HF.out w2 o2 B2 S2
  clear B2 S2
  go_wp2_with fail
  go_end0
  exact ⟨rfl, HE.out⟩
/-- a body: its block, and the return behind it -/
theorem body_w (A : CA N k) (W : CW N C k) {l : List Nat} {hi al' lb : Nat} {lp : Bool} (h : CB w o C N f L r a p q c) (hc : Chain N n l) (hs : SeqS (fun x lo a b al al' => Sh N 0 x lo a b 120 al al' lp) l lo hi a b L.length al') (hN : hi < N.length) (hL : LpI lp lb L (c.fn f).loops) (hll : LpB lo (c.fn f).loops) (hp : 17 * (hi - lo) + 4 ≤ p) (hq : hi - lo ≤ q) (hk : 2 * hi + 3 ≤ k) :
    Calls Tryz.prog 40 #[fptr C.gF f, .int .i64 n] w (CT w o C N f L r b (p - (17 * (hi - lo) + 1) - 3) (q - (hi - lo)) ((comN N k 3 f n c).emit f [(2, 0), (2, 0), (27, 0)])) := by
  have H1 := h.bl A W hc hs hN hL hll (by omega) hq hk
  have HP : Hid (3 ≤ p - (17 * (hi - lo) + 1)) := by show _ ≤ _; omega
  clear h hc hs hL hp hq hk
  unfold fptr at H1 ⊢
  go_enter Tryz.func40, Tryz.ntmps40
  go_wp2_with fail
  refine H1.mono ?_
  rintro e1 w1 ⟨rfl, o1, B1, S1⟩
  have HB1 : Hid (CB w1 o1 C N f L r b _ _ _) := B1
  have HS1 : Hid (Stp QC w o w1 o1) := S1
  clear B1 S1 H1
  go_wp2_with fail
  refine ((HB1.out.alloc (.cells #[.int .u8 2, .int .u16 0, .int .u8 2, .int .u16 0, .int .u8 27, .int .u16 0] 105)).emit [(2, 0), (2, 0), (27, 0)] (kb := w1.heap.size) (m := 3) (cap := 3) (Has.new _ _ _) rfl (by omega) HP.out).mono ?_
  rintro e2 w2 ⟨rfl, o2, B2, S2⟩
  have HB2 : Hid (CB w2 o2 C N f L r b _ _ _) := B2
  have HS2 : Hid (Stp QC w o w2 o2) := HS1.out.trans (((Stp.refl _ _ _).alloc _).trans S2)
  clear B2 S2
  go_wp2_with fail
  go_end0
  exact ⟨rfl, o2, HB2.out, HS2.out⟩
/-- the count of parameters is written -/
theorem np_set (R : CRep w o C N c) (hx : g < c.np) (v : Nat) : CRep (w.setCell ⟨C.gF, g * 11 + 2, none⟩ (.int .i64 v)) o C N (c.upd g fun d => { d with np := v }) ∧ Stp (QF1 g) w o (w.setCell ⟨C.gF, g * 11 + 2, none⟩ (.int .i64 v)) o := by
  obtain ⟨xs, l, F⟩ := R.fn hx
  obtain ⟨h1, h2⟩ := F.put (Stp.refl (fun _ => False) w o) (fun x => x) (j := 2) (by omega) (d' := ({ c.fn g with np := v }, l)) (u := .int .i64 v) rfl
  have s2 : Stp (QF1 g) w o (w.setCell ⟨C.gF, g * 11 + 2, none⟩ (.int .i64 v)) o := h2.weaken (fun k h => .inl h)
  exact ⟨F.set (u := fun d => { d with np := v }) R hx s2 h1 (F.one.plain (d' := { c.fn g with np := v }) (l' := l) h2 rfl rfl rfl rfl rfl rfl) F.ok, s2⟩
/-- a new function within f -/
theorem fresh_inv (I : Inv c ((f, L) :: r)) (hf : f ≤ a) (ha : a + 1 ≤ 12) : Inv (c.fresh (a + 1) (some f)) ((a + 1, []) :: (f, L) :: r) := by
  have hr : ∀ e ∈ r, e.1 < f := I.1.2.2.2
  have hl13 : c.fns.length = 13 := I.len
  have f0 := fn_fresh c (x := a + 1) (by omega) (some f)
  have e0 : (c.fresh (a + 1) (some f)).fn (a + 1) = { fn0 with parent := some f } := by rw [f0, if_pos rfl]
  have len0 : (c.fresh (a + 1) (some f)).fns.length = c.fns.length := by simp [CmD.fresh, CmD.upd]
  refine ⟨⟨by show a + 1 < 13; omega, by rw [e0]; rfl, by rw [e0]; rfl, fun x hx => ?_⟩, by rw [e0]; exact ⟨Nat.le_refl _, Nat.zero_le _⟩, by rw [e0]; exact ⟨List.nodup_nil, fun v hv => by cases hv⟩, by rw [e0]; exact ⟨List.nodup_nil, fun v hv => by cases hv⟩, I.congr len0 fun x hx => ?_⟩
  · rcases List.mem_cons.1 hx with rfl | hx
    · show f < a + 1; omega
    · have := hr x hx; show x.1 < a + 1; omega
  · rw [f0, if_neg]
    rcases List.mem_cons.1 hx with rfl | hx
    · show f ≠ a + 1; omega
    · have := hr x hx; omega
theorem np_inv {v : Nat} (J : Inv c ((g, L) :: (f, L') :: r)) : Inv (c.upd g fun x => { x with np := v }) ((g, L) :: (f, L') :: r) := by
  have fu := fn_upd c J.lt (fun x => { x with np := v })
  have eu : (c.upd g fun x => { x with np := v }).fn g = { c.fn g with np := v } := by rw [fu, if_pos rfl]
  have ho : ∀ x ∈ ((f, L') :: r : En), (c.upd g fun x => { x with np := v }).fn x.1 = c.fn x.1 := fun x hx => by
    have := J.1.2.2.2 x hx
    rw [fu, if_neg (by simp only at this; omega)]
  refine ⟨by rw [eu]; exact J.1, by rw [eu]; exact J.2.1, ?_, by rw [eu]; exact J.2.2.2.1, J.tail.congr (upd_len _ _ _) ho⟩
  rw [eu]
  refine ⟨J.2.2.1.1, fun d' hd' => ?_⟩
  rw [ho (f, L') (by simp)]
  exact J.2.2.1.2 d' hd'
end
end Go.Proofs.Qxb6500574aGreatDoor
