/-
  moon: CODE THAT IS LAID OUT IS TYPED: every statement. Plain; no memory, no walk.
-/
import Derived.Test.Qxb6500574aGreatDoorWLt3
namespace Go.Proofs.Qxb6500574aGreatDoor
set_option linter.unusedVariables false
set_option linter.unusedSimpArgs false
section
variable {N : List Nd} {D : CmD} {k f n p a b : Nat} {L L' : List Bs} {r : En} {s : List In} {lp : Bool} {lb ex : Nat}
theorem k_jfL {X : Fx} {R : Nat → Ty → Prop} {pc h x : Nat} {hid : List Bool} {F : List Nat} (w : Wf X hid F) (hh : h + 1 ≤ 128) (hc : X.code[pc]? = some (22, x)) (hx : x < X.code.length) (k : ∀ R' : Nat → Ty → Prop, (∀ q t, R q t → R' q t) → R' pc (ty (h + 1) hid F) → Kt X R' x (ty h hid F) ∧ Kt X R' (pc + 1) (ty h hid F)) : Kt X R pc (ty (h + 1) hid F) := by
  obtain ⟨k1, k2⟩ := k (fun q t => R q t ∨ (q = pc ∧ t = ty (h + 1) hid F)) (fun _ _ z => .inl z) (.inr ⟨rfl, rfl⟩)
  exact Kt.goL w (by omega) hc ⟨hx, by show 1 ≤ h + 1; omega, k1, k2⟩
theorem k_testL {X : Fx} {R : Nat → Ty → Prop} {pc h x : Nat} {hid : List Bool} {F : List Nat} (w : Wf X hid F) (hh : h + 1 ≤ 128) (hc : X.code[pc]? = some (31, x)) (hx : x + 3 < X.ns) (hf : x ∈ F) (k : ∀ R' : Nat → Ty → Prop, (∀ q t, R q t → R' q t) → R' pc (ty h hid F) → Kt X R' (pc + 1) (ty (h + 1) hid F)) : Kt X R pc (ty h hid F) :=
  Kt.goL w (by omega) hc ⟨hx, hf, hh, k (fun q t => R q t ∨ (q = pc ∧ t = ty h hid F)) (fun _ _ z => .inl z) (.inr ⟨rfl, rfl⟩)⟩
theorem k_nextL {X : Fx} {R : Nat → Ty → Prop} {pc h x : Nat} {hid : List Bool} {F : List Nat} (w : Wf X hid F) (hh : h + 1 ≤ 128) (hc : X.code[pc]? = some (32, x)) (hx : x + 3 < X.ns) (hf : ∀ b ∈ F, b + 3 ≤ x + 1) (k : ∀ R' : Nat → Ty → Prop, (∀ q t, R q t → R' q t) → R' pc (ty h hid F) → Kt X R' (pc + 1) (ty (h + 1) hid F)) : Kt X R pc (ty h hid F) :=
  Kt.goL w (by omega) hc ⟨hx, hf, hh, k (fun q t => R q t ∨ (q = pc ∧ t = ty h hid F)) (fun _ _ z => .inl z) (.inr ⟨rfl, rfl⟩)⟩
theorem TA.t1 (T : TA N D k) (h0 : (N.getD 0 nd0).k = 0) {lo x : Nat} {nm : Bs} (hb : b < D.np) (hl : L.length ≤ (D.fn f).nslots) (hn : (L ++ [nm]).length ≤ (D.fn f).nslots) {s1 : List In} (y : LayN N D k 1 ((f, L) :: r) x p s1 [] 0 0) (g : (x = 0 ∧ b = a) ∨ Sh N 1 x lo a b 120 0 0 false) :
    TS D f L (L ++ [nm]) p (s1 ++ [(6, L.length)]) lp lb ex ∧ TF D a b := by
  obtain ⟨e1, f1⟩ := T.exo h0 y g (by decide) hb
  refine ⟨fun R F at_ wf hlp kk => ?_, f1⟩
  obtain ⟨a1, a2⟩ := at_.split (.inr trivial)
  rw [List.length_append, ← Nat.add_assoc] at kk
  refine e1 R 0 F a1 wf (by decide) ?_
  rw [List.length_append] at hn
  exact k_setl (t := false) wf (by decide) a2.head.1 hn (.inr (wf.new (Nat.le_refl _))) (kk.sub (sub_ty 0 (hidL_pre (List.prefix_append _ _)) F false))
theorem TA.t2 (T : TA N D k) {lo x : Nat} {n1 n2 : Bs} (hb : b < D.np) (hl : L.length ≤ (D.fn f).nslots) (hn : (L ++ [n1, n2]).length ≤ (D.fn f).nslots) {s1 : List In} (y : LayN N D k 2 ((f, L) :: r) x p s1 [] 0 0) (hk : (N.getD x nd0).k = 19) (g : Sh N 1 x lo a b 120 0 0 false) :
    TS D f L (L ++ [n1, n2]) p (s1 ++ [(6, L.length + 1), (6, L.length)]) lp lb ex ∧ TF D a b := by
  obtain ⟨e1, f1⟩ := T.ca f L r x lo a b 120 p s1 y hk g hb
  refine ⟨fun R F at_ wf hlp kk => ?_, f1⟩
  obtain ⟨a1, a2⟩ := at_.split (.inr trivial)
  obtain ⟨a3, a4⟩ := a2.head
  rw [List.length_append, ← Nat.add_assoc] at kk
  refine e1 R 0 F a1 wf (by decide) ?_
  rw [List.length_append] at hn
  have hn : L.length + 2 ≤ (D.fn f).nslots := hn
  refine k_setl (t := false) wf (by decide) a3 (by show _ < (D.fn f).nslots; omega) (.inr (wf.new (by omega))) ?_
  exact k_setl (t := false) wf (by decide) a4.head.1 (by show _ < (D.fn f).nslots; omega) (.inr (wf.new (Nat.le_refl _))) (kk.sub (sub_ty 0 (hidL_pre (List.prefix_append _ _)) F false))
theorem TA.t3 (T : TA N D k) {lo x : Nat} {nm : Bs} (hb : b < D.np) (hl : L.length ≤ (D.fn f).nslots) (hn : (L ++ [nm]).length ≤ (D.fn f).nslots) {s1 : List In} (y : LayN N D k 1 ((f, L ++ [nm]) :: r) x p s1 [] 0 0) (g : Sh N 1 x lo a b 120 0 0 false) :
    TS D f L (L ++ [nm]) p (s1 ++ [(6, L.length)]) lp lb ex ∧ TF D a b := by
  obtain ⟨e1, f1⟩ := T.ex f (L ++ [nm]) r x lo a b 120 p s1 y g hb
  refine ⟨fun R F at_ wf hlp kk => ?_, f1⟩
  obtain ⟨a1, a2⟩ := at_.split (.inr trivial)
  have wf' := wf.grow (List.prefix_append L [nm]) hn
  rw [List.length_append, ← Nat.add_assoc] at kk
  refine Kt.sub (sub_ty 0 (hidL_pre (List.prefix_append L [nm])) F false) (e1 R 0 F a1 wf' (by decide) ?_)
  rw [List.length_append] at hn
  exact k_setl (t := false) wf' (by decide) a2.head.1 hn (.inr (wf.new (Nat.le_refl _))) kk
theorem TA.t7 (T : TA N D k) {A B b1 lo h1 al x1 : Nat} {l : List Nat} (hb : b < D.np) (hl : L.length ≤ (D.fn f).nslots) {s1 s2 : List In} (y1 : LayN N D k 1 ((f, L) :: r) A p s1 [] 0 0) (y2 : LayN N D k 3 ((f, L) :: r) B (p + (s1.length + 1)) s2 L L.length (p + (s1.length + 1 + s2.length + 1)))
    (g3 : Sh N 1 A lo a b1 120 0 0 false) (g4 : Chain N B l) (g5 : SeqS (fun x lo a b al al' => Sh N 0 x lo a b 120 al al' true) l A h1 b1 b al x1) : TS D f L L p (s1 ++ (22, p + (s1.length + 1 + s2.length + 1)) :: s2 ++ [(21, p)]) lp lb ex ∧ TF D a b := by
  have ab := SeqS.ab (fun _ _ _ _ _ _ h => Sh.ab h) g5
  obtain ⟨e1, f1⟩ := T.ex f L r A lo a b1 120 p s1 y1 g3 (by omega)
  obtain ⟨e2, f2⟩ := T.bl f L r B l _ h1 b1 b al x1 _ s2 L true L.length _ y2 g4 g5 hb hl
  refine ⟨fun R F at_ wf hlp kk => ?_, f1.add f2⟩
  have alt := at_.lt
  obtain ⟨a1, a2⟩ := at_.split (.inr trivial)
  obtain ⟨a3, a4⟩ := a1.split (.inr trivial)
  obtain ⟨a5, a6⟩ := a4.head
  obtain ⟨a7, _⟩ := a2.head
  simp only [List.length_append, List.length_cons, List.length_nil, Nat.zero_add] at kk alt a7
  have kk : Kt (fxD D f) R (p + (s1.length + 1 + s2.length + 1)) (ty 0 (hidL L) F) := by
    rw [show p + (s1.length + 1 + s2.length + 1) = p + (s1.length + (s2.length + 1) + 1) by omega]
    exact kk
  refine e1 R 0 F a3 wf (by decide) ?_
  refine k_jfL wf (by decide) a5 (by show _ < (D.fn f).code.length; omega) fun R' hR hp => ?_
  have kk' := kk.mono hR
  refine ⟨kk', e2 R' F (by rw [← Nat.add_assoc]; exact a6) wf (fun _ => ⟨Nat.le_refl _, by omega, ?_⟩) ?_⟩
  · rw [List.take_length, filt_all fun b hb => by have := wf.le hb; rw [hidL_len] at this; exact this]
    exact kk'
  · rw [show p + (s1.length + 1) + s2.length = p + (s1.length + (s2.length + 1)) by omega]
    refine k_jmp (t := false) wf (by decide) a7 (by show _ < (D.fn f).code.length; omega) ?_
    exact e1 R' 0 F a3 wf (by decide) ⟨_, Sub.refl _, .inr hp⟩
end
end Go.Proofs.Qxb6500574aGreatDoor
