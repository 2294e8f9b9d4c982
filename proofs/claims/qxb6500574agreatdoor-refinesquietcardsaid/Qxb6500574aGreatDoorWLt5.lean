/-
  moon: CODE THAT IS LAID OUT IS TYPED: stores, branches, the for loops; the whole law. Plain; no memory, no walk.
-/
import Derived.Test.Qxb6500574aGreatDoorWLt4
namespace Go.Proofs.Qxb6500574aGreatDoor
set_option linter.unusedVariables false
set_option linter.unusedSimpArgs false
section
variable {N : List Nd} {D : CmD} {k f n p a b : Nat} {L L' : List Bs} {r : En} {s : List In} {lp : Bool} {lb ex : Nat}
theorem Kt.by_ {X : Fx} {R : Nat → Ty → Prop} {pc : Nat} {a b : Ty} (g : Kt X R pc b) (s : Sub a b) : Kt X R pc a := g.sub s
theorem TA.t4n (T : TA N D k) {lo x w : Nat} {nm : Bs} {i : In} (hn : nmOk nm) (hb : b < D.np) {s1 : List In} (hw : w ≤ 110) (y : LayN N D k 1 ((f, L) :: r) x p s1 [] 0 0) (v : VarR D f L r nm 6 8 10 i) (g : Sh N 1 x lo a b w 0 0 false) : TS D f L L p (s1 ++ [i]) lp lb ex ∧ TF D a b := by
  obtain ⟨e1, f1⟩ := T.ex f L r x lo a b w p s1 y g hb
  refine ⟨fun R F at_ wf hlp kk => ?_, f1⟩
  obtain ⟨a1, a2⟩ := at_.split (.inr trivial)
  rw [List.length_append, ← Nat.add_assoc] at kk
  exact e1 R 0 F a1 wf (by omega) (var_set v (by intro e; subst e; exact absurd hn.1 (by simp)) a2 wf (by decide) kk)
theorem TA.t4i (T : TA N D k) {lo x y z b2 b1 w : Nat} (hb : b < D.np) {s1 s2 s3 : List In} (hw : w ≤ 110) (y1 : LayN N D k 1 ((f, L) :: r) x p s1 [] 0 0) (y2 : LayN N D k 1 ((f, L) :: r) y (p + s1.length) s2 [] 0 0) (y3 : LayN N D k 1 ((f, L) :: r) z (p + s1.length + s2.length) s3 [] 0 0)
    (g1 : Sh N 1 x lo a b2 110 0 0 false) (g2 : Sh N 1 y x b2 b1 109 0 0 false) {lo3 : Nat} (g3 : Sh N 1 z lo3 b1 b w 0 0 false) : TS D f L L p (s1 ++ s2 ++ s3 ++ [(12, 0)]) lp lb ex ∧ TF D a b := by
  have ab2 := g2.ab
  have ab3 := g3.ab
  obtain ⟨e1, f1⟩ := T.ex f L r x lo a b2 110 p s1 y1 g1 (by omega)
  obtain ⟨e2, f2⟩ := T.ex f L r y _ b2 b1 109 _ s2 y2 g2 (by omega)
  obtain ⟨e3, f3⟩ := T.ex f L r z _ b1 b w _ s3 y3 g3 hb
  refine ⟨fun R F at_ wf hlp kk => ?_, (f1.add f2).add f3⟩
  obtain ⟨a1, a2⟩ := at_.split (.inr trivial)
  obtain ⟨a3, a4⟩ := a1.split (.inr trivial)
  obtain ⟨a5, a6⟩ := a3.split (.inr trivial)
  obtain ⟨a7, _⟩ := a2.head
  simp only [List.length_append, List.length_cons, List.length_nil] at kk a7 a4
  refine e1 R 0 F a5 wf (by decide) (e2 R 1 F a6 wf (by decide) (e3 R 2 F ?_ wf (by omega) ?_))
  · rw [Nat.add_assoc]; exact a4
  · rw [show p + s1.length + s2.length + s3.length = p + (s1.length + s2.length + s3.length) by omega]
    exact k_seti wf (by decide) a7 kk
theorem TA.t5 (T : TA N D k) {lo x : Nat} (hb : b < D.np) {s1 : List In} (y : LayN N D k 2 ((f, L) :: r) x p s1 [] 0 0) (hk : (N.getD x nd0).k = 19) (g : Sh N 1 x lo a b 120 0 0 false) : TS D f L L p (s1 ++ [(25, 0), (25, 0)]) lp lb ex ∧ TF D a b := by
  obtain ⟨e1, f1⟩ := T.ca f L r x lo a b 120 p s1 y hk g hb
  refine ⟨fun R F at_ wf hlp kk => ?_, f1⟩
  obtain ⟨a1, a2⟩ := at_.split (.inr trivial)
  obtain ⟨a3, a4⟩ := a2.head
  rw [List.length_append, ← Nat.add_assoc] at kk
  exact e1 R 0 F a1 wf (by decide) (k_pop wf (by decide) a3 (k_pop wf (by decide) a4.head.1 kk))
theorem TA.t6 (T : TA N D k) {A B C b1 b2 lo h1 h2 al x1 x2 : Nat} {l l2 : List Nat} (hb : b < D.np) (hl : L.length ≤ (D.fn f).nslots) {s1 s2 s3 : List In} (y1 : LayN N D k 1 ((f, L) :: r) A p s1 [] 0 0) (y2 : LayN N D k 3 ((f, L) :: r) B (p + (s1.length + 1)) s2 L lb ex) (y3 : LayN N D k 3 ((f, L) :: r) C (p + (s1.length + 1 + s2.length + 1)) s3 L lb ex)
    (g3 : Sh N 1 A lo a b1 120 0 0 false) (g4 : Chain N B l) (g5 : SeqS (fun x lo a b al al' => Sh N 0 x lo a b 120 al al' lp) l A h1 b1 b2 al x1) (g6 : Chain N C l2) (g7 : SeqS (fun x lo a b al al' => Sh N 0 x lo a b 120 al al' lp) l2 h1 h2 b2 b al x2) :
    TS D f L L p (s1 ++ (22, p + (s1.length + 1 + s2.length + 1)) :: s2 ++ (21, p + (s1.length + 1 + s2.length + 1 + s3.length)) :: s3) lp lb ex ∧ TF D a b := by
  have ab1 := SeqS.ab (fun _ _ _ _ _ _ h => Sh.ab h) g5
  have ab2 := SeqS.ab (fun _ _ _ _ _ _ h => Sh.ab h) g7
  obtain ⟨e1, f1⟩ := T.ex f L r A lo a b1 120 p s1 y1 g3 (by omega)
  obtain ⟨e2, f2⟩ := T.bl f L r B l _ h1 b1 b2 al x1 _ s2 L lp lb ex y2 g4 g5 (by omega) hl
  obtain ⟨e3, f3⟩ := T.bl f L r C l2 _ h2 b2 b al x2 _ s3 L lp lb ex y3 g6 g7 hb hl
  refine ⟨fun R F at_ wf hlp kk => ?_, (f1.add f2).add f3⟩
  have alt := at_.lt
  obtain ⟨a1, a2⟩ := at_.split (.inr trivial)
  obtain ⟨a3, a4⟩ := a1.split (.inr trivial)
  obtain ⟨a5, a6⟩ := a4.head
  obtain ⟨a7, a8⟩ := a2.head
  simp only [List.length_append, List.length_cons, List.length_nil, Nat.zero_add] at kk alt a7 a8
  have kk : Kt (fxD D f) R (p + (s1.length + 1 + s2.length + 1 + s3.length)) (ty 0 (hidL L) F) := by
    rw [show p + (s1.length + 1 + s2.length + 1 + s3.length) = p + (s1.length + (s2.length + 1) + (s3.length + 1)) by omega]
    exact kk
  have k3 : Kt (fxD D f) R (p + (s1.length + 1 + s2.length + 1)) (ty 0 (hidL L) F) := by
    refine e3 R F ?_ wf hlp ?_
    · rw [show p + (s1.length + 1 + s2.length + 1) = p + (s1.length + (s2.length + 1)) + 1 by omega]; exact a8
    · rw [show p + (s1.length + 1 + s2.length + 1) + s3.length = p + (s1.length + 1 + s2.length + 1 + s3.length) by omega]; exact kk
  refine e1 R 0 F a3 wf (by decide) (k_jf wf (by decide) a5 (by show _ < (D.fn f).code.length; omega) k3 ?_)
  refine e2 R F (by rw [← Nat.add_assoc]; exact a6) wf hlp ?_
  rw [show p + (s1.length + 1) + s2.length = p + (s1.length + (s2.length + 1)) by omega]
  exact k_jmp (t := false) wf (by decide) a7 (by show _ < (D.fn f).code.length; omega) kk
theorem TA.t10 (T : TA N D k) (h0 : (N.getD 0 nd0).k = 0) {x y b1 lo lo2 : Nat} (hb : b < D.np) (hb1 : b1 ≤ b) {s1 s2 : List In} (y1 : LayN N D k 1 ((f, L) :: r) x p s1 [] 0 0) (y2 : LayN N D k 1 ((f, L) :: r) y (p + s1.length) s2 [] 0 0) (g1 : (x = 0 ∧ b1 = a) ∨ Sh N 1 x lo a b1 120 0 0 false) (g2 : (y = 0 ∧ b = b1) ∨ Sh N 1 y lo2 b1 b 119 0 0 false) :
    TS D f L L p (s1 ++ s2 ++ [(27, 0)]) lp lb ex ∧ TF D a b := by
  obtain ⟨e1, f1⟩ := T.exo h0 y1 g1 (by decide) (by omega)
  obtain ⟨e2, f2⟩ := T.exo h0 y2 g2 (by decide) hb
  refine ⟨fun R F at_ wf hlp kk => ?_, f1.add f2⟩
  obtain ⟨a1, a2⟩ := at_.split (.inr trivial)
  obtain ⟨a3, a4⟩ := a1.split (.inr trivial)
  obtain ⟨a7, _⟩ := a2.head
  rw [List.length_append, ← Nat.add_assoc] at a7
  exact e1 R 0 F a3 wf (by decide) (e2 R 1 F a4 wf (by decide) (k_ret wf (by decide) (by decide) a7))
theorem t11_ty (hlp' : lp = true) (hl : L.length ≤ (D.fn f).nslots) (z : (lb < L.length ∧ s = [(29, lb), (21, ex)]) ∨ (¬ lb < L.length ∧ s = [(21, ex)])) : TS D f L L p s lp lb ex := by
  intro R F at_ wf hlp kk
  obtain ⟨j1, j2, j3⟩ := hlp hlp'
  rcases z with ⟨z, rfl⟩ | ⟨z, rfl⟩
  · obtain ⟨a1, a2⟩ := at_.head
    refine k_close wf (by decide) a1 (by show lb ≤ (D.fn f).nslots; omega) ?_
    rw [hidL_take]
    refine k_jmp (t := false) ⟨fun b hb e he => ?_, ?_⟩ (by decide) a2.head.1 j2 j3
    · have hb := List.mem_filter.1 hb
      have h3 : b + 3 ≤ lb := by simpa using hb.2
      rw [← hidL_take, List.getElem?_take_of_lt (by omega)]
      exact wf.F b hb.1 e he
    · rw [hidL_len, List.length_take]
      show min lb L.length ≤ (D.fn f).nslots
      omega
  · refine k_jmp (t := false) wf (by decide) at_.head.1 j2 (j3.by_ ⟨rfl, ?_, fun x hx => (List.mem_filter.1 hx).1, fun e => by cases e⟩)
    rw [List.take_of_length_le (by omega)]
    exact List.prefix_refl _
theorem TA.t8 (T : TA N D k) {A A2 A3 B b1 b2 b0 lo h1 al x1 h e h0' : Nat} {l : List Nat} {nm : Bs} (hb : b < D.np) (hl : L.length + 4 ≤ (D.fn f).nslots) {s1 s2 s3 s4 : List In} (eh : h = p + (s1.length + 1 + s2.length + 1 + s3.length + 2)) (ee : e = h + 4 + s4.length + 6)
    (y1 : LayN N D k 1 ((f, L) :: r) A p s1 [] 0 0) (y2 : LayN N D k 1 ((f, L ++ [[]]) :: r) A2 (p + (s1.length + 1)) s2 [] 0 0)
    (y3 : (A3 ≠ 0 ∧ LayN N D k 1 ((f, L ++ [[], []]) :: r) A3 (p + (s1.length + 1 + s2.length + 1)) s3 [] 0 0) ∨ (A3 = 0 ∧ ∃ x, s3 = [(1, x)] ∧ (D.fn f).consts[x]? = some (numV one64)))
    (y4 : LayN N D k 3 ((f, L ++ [[], [], [], nm]) :: r) B (h + 4) s4 (L ++ [[], [], [], nm]) L.length e)
    (g1 : Sh N 1 A lo a b1 120 0 0 false) (g2 : Sh N 1 A2 A b1 b2 120 0 0 false) (g3 : (A3 = 0 ∧ b0 = b2) ∨ Sh N 1 A3 A2 b2 b0 120 0 0 false) (g8 : Chain N B l) (g9 : SeqS (fun x lo a b al al' => Sh N 0 x lo a b 120 al al' true) l h0' h1 b0 b al x1) :
    TS D f L L p (s1 ++ (6, L.length) :: s2 ++ (6, L.length + 1) :: s3 ++ [(6, L.length + 2), (30, L.length), (31, L.length), (22, e), (5, L.length), (6, L.length + 3)] ++ s4 ++ [(29, L.length + 3), (5, L.length), (5, L.length + 2), (15, 1), (6, L.length), (21, h), (29, L.length)]) lp lb ex ∧ TF D a b := by
  have ab2 := g2.ab
  have ab4 := SeqS.ab (fun _ _ _ _ _ _ h => Sh.ab h) g9
  have ab3 : b2 ≤ b0 := by rcases g3 with z | z; omega; exact z.ab
  obtain ⟨e1, f1⟩ := T.ex f L r A lo a b1 120 p s1 y1 g1 (by omega)
  obtain ⟨e2, f2⟩ := T.ex f _ r A2 _ b1 b2 120 _ s2 y2 g2 (by omega)
  have st : TE D f (L ++ [[], []]) (p + (s1.length + 1 + s2.length + 1)) s3 120 1 ∧ TF D b2 b0 := by
    rcases y3 with ⟨z, y3⟩ | ⟨z, x, rfl, hx⟩
    · rcases g3 with g3 | g3
      · exact (z g3.1).elim
      · exact T.ex f _ r A3 _ b2 b0 120 _ s3 y3 g3 (by omega)
    · rcases g3 with g3 | g3
      · refine ⟨fun R h F at_ wf hw kk => k_const wf (by omega) at_.head.1 hx kk, by rw [g3.2]; exact TF.nil _ _⟩
      · have := g3.lt; omega
  obtain ⟨e3, f3⟩ := st
  obtain ⟨e4, f4⟩ := T.bl f _ r B l _ h1 b0 b al x1 _ s4 _ true L.length e y4 g8 g9 hb (by rw [List.length_append]; exact hl)
  refine ⟨fun R F at_ wf hlp kk => ?_, ((f1.add f2).add f3).add f4⟩
  have alt := at_.lt
  obtain ⟨q1, q2⟩ := at_.split (.inr trivial)
  obtain ⟨q3, q4⟩ := q1.split (.inr trivial)
  obtain ⟨q5, q6⟩ := q3.split (.inr trivial)
  obtain ⟨q7, q8⟩ := q5.split (.inr trivial)
  obtain ⟨i1, i2⟩ := q7.split (.inr trivial)
  obtain ⟨c1, i3⟩ := i2.head
  obtain ⟨c2, i4⟩ := q8.head
  obtain ⟨c3, j1⟩ := q6.head
  obtain ⟨c4, j2⟩ := j1.head
  obtain ⟨c5, j3⟩ := j2.head
  obtain ⟨c6, j4⟩ := j3.head
  obtain ⟨c7, j5⟩ := j4.head
  obtain ⟨c8, _⟩ := j5.head
  obtain ⟨d1, m1⟩ := q2.head
  obtain ⟨d2, m2⟩ := m1.head
  obtain ⟨d3, m3⟩ := m2.head
  obtain ⟨d4, m4⟩ := m3.head
  obtain ⟨d5, m5⟩ := m4.head
  obtain ⟨d6, m6⟩ := m5.head
  obtain ⟨d7, _⟩ := m6.head
  simp only [List.length_append, List.length_cons, List.length_nil, Nat.zero_add] at kk alt c1 c2 c3 c4 c5 c6 c7 c8 d1 d2 d3 d4 d5 d6 d7 i3 i4 q4 q6
  have ns : (fxD D f).ns = (D.fn f).nslots := rfl
  have cl : (fxD D f).code.length = (D.fn f).code.length := rfl
  have hF : ∀ b ∈ F, b + 3 ≤ L.length := fun b hb => by have := wf.le hb; rw [hidL_len] at this; exact this
  have w1 : Wf (fxD D f) (hidL (L ++ [[]])) F := wf.grow (List.prefix_append _ _) (by rw [ns]; simp; omega)
  have w2 : Wf (fxD D f) (hidL (L ++ [[], []])) F := wf.grow (List.prefix_append _ _) (by rw [ns]; simp; omega)
  have w3 : Wf (fxD D f) (hidL (L ++ [[], [], []])) F := wf.grow (List.prefix_append _ _) (by rw [ns]; simp; omega)
  have hh3 : ∀ e, e < 3 → (hidL (L ++ [[], [], []]))[L.length + e]? = some true := by
    intro e he
    unfold hidL
    rw [List.map_append, List.getElem?_append_right (by simp), List.length_map, Nat.add_sub_cancel_left]
    match e, he with
    | 0, _ => rfl
    | 1, _ => rfl
    | 2, _ => rfl
  have w3' : Wf (fxD D f) (hidL (L ++ [[], [], []])) (L.length :: F) := ⟨fun b hb e he => by
    rcases List.mem_cons.1 hb with rfl | hb
    · exact hh3 e he
    · exact w3.F b hb e he, w3.l⟩
  have p34 : L ++ [[], [], []] <+: L ++ [[], [], [], nm] := ⟨[nm], by simp⟩
  have w4 : Wf (fxD D f) (hidL (L ++ [[], [], [], nm])) (L.length :: F) := w3'.grow p34 (by rw [ns]; simp; omega)
  -- the way out
  have kx : Kt (fxD D f) R e (ty 0 (hidL (L ++ [[], [], []])) F) := by
    refine k_close w3 (by decide) (x := L.length) ?_ (by rw [ns]; omega) ?_
    · rw [← d7]; congr 1; omega
    · rw [hidL_take, List.take_left, filt_all hF]
      rw [show e + 1 = p + (s1.length + (s2.length + 1) + (s3.length + 1) + (1 + 1 + 1 + 1 + 1 + 1) + s4.length + (1 + 1 + 1 + 1 + 1 + 1 + 1)) by omega]
      exact kk
  have hF3 : ∀ b ∈ L.length :: F, b + 3 ≤ L.length + 3 := fun b hb => by
    rcases List.mem_cons.1 hb with rfl | hb
    · omega
    · have := hF b hb; omega
  -- the head
  have kh : Kt (fxD D f) R h (ty 0 (hidL (L ++ [[], [], []])) (L.length :: F)) := by
    refine k_testL w3' (by decide) (x := L.length) ?_ (by rw [ns]; omega) (by simp) fun R' hR hp => ?_
    · rw [← c5]; congr 1; omega
    have kx' := kx.mono hR
    refine k_jf w3' (by decide) (x := e) ?_ (by rw [cl]; omega) (kx'.by_ ⟨rfl, List.prefix_refl _, fun x hx => List.mem_cons_of_mem _ hx, fun z => by cases z⟩) ?_
    · rw [← c6]; congr 1; omega
    refine k_getl w3' (by decide) (x := L.length) ?_ (by rw [ns]; omega) ?_
    · rw [← c7]; congr 1; omega
    refine k_setl (t := false) w3' (by decide) (x := L.length + 3) ?_ (by rw [ns]; omega) (.inr fun b hb => .inr (hF3 b hb)) ?_
    · rw [← c8]; congr 1; omega
    refine Kt.sub (sub_ty 0 (hidL_pre p34) _ false) ?_
    refine e4 R' (L.length :: F) ?_ w4 (fun _ => ⟨by simp, by omega, ?_⟩) ?_
    · rw [show h + 4 = p + (s1.length + (s2.length + 1) + (s3.length + 1) + (1 + 1 + 1 + 1 + 1 + 1)) by omega]
      exact q4
    · rw [List.take_left]
      refine kx'.by_ ⟨rfl, hidL_pre (List.prefix_append _ _), fun x hx => ?_, fun z => by cases z⟩
      have hx : x ∈ F := hx
      exact List.mem_filter.2 ⟨List.mem_cons_of_mem _ hx, by simpa using hF x hx⟩
    · refine k_close w4 (by decide) (x := L.length + 3) ?_ (by rw [ns]; omega) ?_
      · rw [← d1]; congr 1; omega
      rw [hidL_take, show (L ++ [[], [], [], nm]).take (L.length + 3) = L ++ [[], [], []] from List.take_length_add_append 3, filt_all hF3]
      refine k_getl w3' (by decide) (x := L.length) ?_ (by rw [ns]; omega) ?_
      · rw [← d2]; congr 1; omega
      refine k_getl w3' (by decide) (x := L.length + 2) ?_ (by rw [ns]; omega) ?_
      · rw [← d3]; congr 1; omega
      refine k_arith w3' (by decide) (x := 1) ?_ (by decide) (by decide) ?_
      · rw [← d4]; congr 1; omega
      refine k_setl (t := true) w3' (by decide) (x := L.length) ?_ (by rw [ns]; omega) (.inl rfl) ?_
      · rw [← d5]; congr 1; omega
      refine k_jmp (t := false) w3' (by decide) (x := h) ?_ (by rw [cl]; omega) ⟨_, Sub.refl _, .inr hp⟩
      · rw [← d6]; congr 1; omega
  -- the three values
  refine e1 R 0 F i1 wf (by decide) (k_setl (t := false) wf (by decide) c1 (by rw [ns]; omega) (.inr (wf.new (Nat.le_refl _))) (Kt.sub (sub_ty 0 (hidL_pre (List.prefix_append L [[]])) F false) ?_))
  rw [Nat.add_assoc]
  refine e2 R 0 F (by rw [← Nat.add_assoc]; exact i3) w1 (by decide) ?_
  have c2 : (fxD D f).code[p + (s1.length + 1) + s2.length]? = some (6, L.length + 1) := by rw [← c2]; show (D.fn f).code[_]? = _; congr 1; omega
  refine k_setl (t := false) w1 (by decide) c2 (by rw [ns]; omega) (.inr (w1.new (by simp))) (Kt.sub (sub_ty 0 (hidL_pre (⟨[[]], by simp⟩ : L ++ [[]] <+: L ++ [[], []])) F false) ?_)
  rw [show p + (s1.length + 1) + s2.length + 1 = p + (s1.length + 1 + s2.length + 1) by omega]
  refine e3 R 0 F ?_ w2 (by decide) ?_
  · rw [show p + (s1.length + 1 + s2.length + 1) = p + (s1.length + (s2.length + 1)) + 1 by omega]
    exact i4
  refine k_setl (t := false) w2 (by decide) (x := L.length + 2) ?_ (by rw [ns]; omega) (.inr (w2.new (by simp))) (Kt.sub (sub_ty 0 (hidL_pre (⟨[[]], by simp⟩ : L ++ [[], []] <+: L ++ [[], [], []])) F false) ?_)
  · rw [← c3]; show (D.fn f).code[_]? = (D.fn f).code[_]?; congr 1; omega
  refine k_chk w3 (by decide) (x := L.length) ?_ (by rw [ns]; omega) hh3 ?_
  · rw [← c4]; show (D.fn f).code[_]? = (D.fn f).code[_]?; congr 1; omega
  rw [show p + (s1.length + 1 + s2.length + 1) + s3.length + 1 + 1 = h by omega]
  exact kh
theorem TA.t9 (T : TA N D k) {A B b0 lo h1 al x1 h e : Nat} {l : List Nat} {n1 n2 : Bs} (hb : b < D.np) (hl : L.length + 4 ≤ (D.fn f).nslots) {s1 s2 : List In} (eh : h = p + (s1.length + 3)) (ee : e = h + 2 + s2.length + 2)
    (y1 : LayN N D k 1 ((f, L) :: r) A p s1 [] 0 0) (y4 : LayN N D k 3 ((f, L ++ [[], [], n1, n2]) :: r) B (h + 2) s2 (L ++ [[], [], n1, n2]) L.length e)
    (g1 : Sh N 1 A lo a b0 120 0 0 false) (g8 : Chain N B l) (g9 : SeqS (fun x lo a b al al' => Sh N 0 x lo a b 120 al al' true) l A h1 b0 b al x1) :
    TS D f L L p (s1 ++ [(6, L.length), (2, 0), (6, L.length + 1), (32, L.length), (22, e)] ++ s2 ++ [(29, L.length + 2), (21, h), (29, L.length)]) lp lb ex ∧ TF D a b := by
  have ab4 := SeqS.ab (fun _ _ _ _ _ _ h => Sh.ab h) g9
  obtain ⟨e1, f1⟩ := T.ex f L r A lo a b0 120 p s1 y1 g1 (by omega)
  obtain ⟨e4, f4⟩ := T.bl f _ r B l _ h1 b0 b al x1 _ s2 _ true L.length e y4 g8 g9 hb (by rw [List.length_append]; exact hl)
  refine ⟨fun R F at_ wf hlp kk => ?_, f1.add f4⟩
  have alt := at_.lt
  obtain ⟨q1, q2⟩ := at_.split (.inr trivial)
  obtain ⟨q3, q4⟩ := q1.split (.inr trivial)
  obtain ⟨i1, i2⟩ := q3.split (.inr trivial)
  obtain ⟨c1, j1⟩ := i2.head
  obtain ⟨c2, j2⟩ := j1.head
  obtain ⟨c3, j3⟩ := j2.head
  obtain ⟨c4, j4⟩ := j3.head
  obtain ⟨c5, _⟩ := j4.head
  obtain ⟨d1, m1⟩ := q2.head
  obtain ⟨d2, m2⟩ := m1.head
  obtain ⟨d3, _⟩ := m2.head
  simp only [List.length_append, List.length_cons, List.length_nil, Nat.zero_add] at kk alt c1 c2 c3 c4 c5 d1 d2 d3 q4
  have ns : (fxD D f).ns = (D.fn f).nslots := rfl
  have cl : (fxD D f).code.length = (D.fn f).code.length := rfl
  have hF : ∀ b ∈ F, b + 3 ≤ L.length := fun b hb => by have := wf.le hb; rw [hidL_len] at this; exact this
  have w1 : Wf (fxD D f) (hidL (L ++ [[]])) F := wf.grow (List.prefix_append _ _) (by rw [ns]; simp; omega)
  have w2 : Wf (fxD D f) (hidL (L ++ [[], []])) F := wf.grow (List.prefix_append _ _) (by rw [ns]; simp; omega)
  have p24 : L ++ [[], []] <+: L ++ [[], [], n1, n2] := ⟨[n1, n2], by simp⟩
  have w4 : Wf (fxD D f) (hidL (L ++ [[], [], n1, n2])) F := w2.grow p24 (by rw [ns]; simp; omega)
  have kx : Kt (fxD D f) R e (ty 0 (hidL (L ++ [[], []])) F) := by
    refine k_close w2 (by decide) (x := L.length) ?_ (by rw [ns]; omega) ?_
    · rw [← d3]; show (D.fn f).code[_]? = (D.fn f).code[_]?; congr 1; omega
    · rw [hidL_take, List.take_left, filt_all hF]
      rw [show e + 1 = p + (s1.length + (1 + 1 + 1 + 1 + 1) + s2.length + (1 + 1 + 1)) by omega]
      exact kk
  have kh : Kt (fxD D f) R h (ty 0 (hidL (L ++ [[], []])) F) := by
    refine k_nextL w2 (by decide) (x := L.length) ?_ (by rw [ns]; omega) (fun b hb => by have := hF b hb; omega) fun R' hR hp => ?_
    · rw [← c4]; show (D.fn f).code[_]? = (D.fn f).code[_]?; congr 1
    have kx' := kx.mono hR
    refine k_jf w2 (by decide) (x := e) ?_ (by rw [cl]; omega) kx' ?_
    · rw [← c5]; show (D.fn f).code[_]? = (D.fn f).code[_]?; congr 1; omega
    refine Kt.sub (sub_ty 0 (hidL_pre p24) _ false) ?_
    refine e4 R' F ?_ w4 (fun _ => ⟨by simp, by omega, ?_⟩) ?_
    · rw [show h + 2 = p + (s1.length + (1 + 1 + 1 + 1 + 1)) by omega]
      exact q4
    · rw [List.take_left, filt_all hF]
      exact kx'.by_ ⟨rfl, hidL_pre (List.prefix_append _ _), fun x hx => hx, fun z => by cases z⟩
    · refine k_close w4 (by decide) (x := L.length + 2) ?_ (by rw [ns]; omega) ?_
      · rw [← d1]; show (D.fn f).code[_]? = (D.fn f).code[_]?; congr 1; omega
      rw [hidL_take, show (L ++ [[], [], n1, n2]).take (L.length + 2) = L ++ [[], []] from List.take_length_add_append 2, filt_all fun b hb => by have := hF b hb; omega]
      refine k_jmp (t := false) w2 (by decide) (x := h) ?_ (by rw [cl]; omega) ⟨_, Sub.refl _, .inr hp⟩
      · rw [← d2]; show (D.fn f).code[_]? = (D.fn f).code[_]?; congr 1; omega
  refine e1 R 0 F i1 wf (by decide) (k_setl (t := false) wf (by decide) c1 (by rw [ns]; omega) (.inr (wf.new (Nat.le_refl _))) (Kt.sub (sub_ty 0 (hidL_pre (List.prefix_append L [[]])) F false) ?_))
  refine k_push w1 (by decide) c2 (.inl rfl) ?_
  refine k_setl (t := false) w1 (by decide) c3 (by rw [ns]; omega) (.inr (w1.new (by simp))) (Kt.sub (sub_ty 0 (hidL_pre (⟨[[]], by simp⟩ : L ++ [[]] <+: L ++ [[], []])) F false) ?_)
  rw [show p + s1.length + 1 + 1 + 1 = h by omega]
  exact kh
end
end Go.Proofs.Qxb6500574aGreatDoor
