/-
  moon: CODE THAT IS LAID OUT IS TYPED: expressions. Plain; no memory, no walk.
-/
import Derived.Test.Qxb6500574aGreatDoorWLt0
namespace Go.Proofs.Qxb6500574aGreatDoor
set_option linter.unusedVariables false
set_option linter.unusedSimpArgs false
/-! ### shapes: functions rise, room is needed -/
theorem SeqE.ab {R : Nat → Nat → Nat → Nat → Nat → Prop} {dec : Nat} (hR : ∀ x lo a b w, R x lo a b w → a ≤ b) : ∀ {l : List Nat} {lo hi a b w : Nat}, SeqE R dec l lo hi a b w → a ≤ b := by
  intro l
  induction l with
  | nil => intro lo hi a b w h; have := h.2; omega
  | cons x l ih => intro lo hi a b w h; obtain ⟨b1, h1, h2⟩ := h; have := hR _ _ _ _ _ h1; have := ih h2; omega
theorem SeqS.ab {R : Nat → Nat → Nat → Nat → Nat → Nat → Prop} (hR : ∀ x lo a b al al', R x lo a b al al' → a ≤ b) : ∀ {l : List Nat} {lo hi a b al al' : Nat}, SeqS R l lo hi a b al al' → a ≤ b := by
  intro l
  induction l with
  | nil => intro lo hi a b al al' h; have := h.2.1; omega
  | cons x l ih => intro lo hi a b al al' h; obtain ⟨b1, a1, h1, h2⟩ := h; have := hR _ _ _ _ _ _ h1; have := ih h2; omega
theorem ShN.ab {N : List Nd} : ∀ (k : Nat) {task n lo a b w al al' : Nat} {lp : Bool}, ShN N k task n lo a b w al al' lp → a ≤ b := by
  intro k
  induction k with
  | zero => intro task n lo a b w al al' lp h; exact h.elim
  | succ k ih =>
    intro task n lo a b w al al' lp h
    obtain ⟨h1, h2, h3⟩ := h
    have iE : ∀ {l : List Nat} {dec lo hi a b w : Nat}, SeqE (fun x lo a b w => ShN N k 1 x lo a b w 0 0 false) dec l lo hi a b w → a ≤ b := fun g => SeqE.ab (fun _ _ _ _ _ => ih) g
    have iE2 : ∀ {l : List Nat} {dec lo hi a b w : Nat}, SeqE (fun x lo a b w => ShN N k 1 x lo a b 120 0 0 false) dec l lo hi a b w → a ≤ b := fun g => SeqE.ab (fun _ _ _ _ _ => ih) g
    have iS : ∀ {lp : Bool} {l : List Nat} {lo hi a b al al' : Nat}, SeqS (fun x lo a b al al' => ShN N k 0 x lo a b 120 al al' lp) l lo hi a b al al' → a ≤ b := fun g => SeqS.ab (fun _ _ _ _ _ _ => ih) g
    rcases h3 with ⟨ht, h3⟩ | ⟨ht, h3⟩
    · rcases h3 with g | g | g | g | ⟨e, g1, g2, b1, g3, g4⟩ | ⟨e, g1, l, h1, b1, g2, g3, g4, g5, g6⟩ | ⟨e, g1, g2, g3, l, h1, l2, h2, al2, g4, g5, g6, g7, g8, g9⟩ | ⟨e, g1, l, h1, g2, g3, g4⟩ | ⟨e, g1, g2, g3, b1, g4, g5⟩ | ⟨e, g1, g2, g3⟩ | ⟨e, g1, b1, g4, g5⟩
      · have := g.2.2.1; omega
      · have := g.2.2.1; omega
      · have := g.2.2.1; omega
      · have := g.2.2.1; omega
      · exact Nat.le_trans (ih g3) (ih g4)
      · exact Nat.le_trans (ih g3) (iE g6)
      · have := iS g9; omega
      · exact iE g4
      · exact Nat.le_trans (ih g4) (ih g5)
      · exact ih g3
      · exact Nat.le_trans (ih g4) (ih g5)
    · rcases h3 with ⟨e, g1, g2, g3, g4⟩ | ⟨e, g1, g2, g3, g4, g5, g6, g7, g8⟩ | ⟨e, g1, g2, g3, g4, g5, g6⟩ | ⟨e, g1, g2, g3, b1, g4, g5⟩ | ⟨e, g1, g2, g3, g4⟩ | ⟨e, g1, b1, l, h1, b2, l2, h2, x1, x2, g2, g3, g4, g5, g6, g7⟩ | ⟨e, g1, b1, l, h1, x1, g2, g3, g4, g5⟩ | ⟨e, g1, g2, g3, l0, h0, b0, l, h1, x1, g4, g5, g6, g7, g8, g9⟩ | ⟨e, g1, g2, g3, g4, g5, b0, l, h1, x1, g6, g7, g8, g9⟩ | ⟨e, g1, g2⟩ | ⟨e, g1, g2, g3, g4⟩
      · rcases g4 with z | z
        · have := z.2.2; omega
        · exact ih z.2
      · exact ih g8
      · exact ih g6
      · exact Nat.le_trans (ih g4) (ih g5)
      · exact ih g4
      · exact Nat.le_trans (ih g3) (Nat.le_trans (iS g5) (iS g7))
      · exact Nat.le_trans (ih g3) (iS g5)
      · exact Nat.le_trans (iE2 g7) (iS g9)
      · exact Nat.le_trans (ih g7) (iS g9)
      · rcases g2 with z | z | ⟨z1, b1, z2, z3⟩
        · have := z.2.2.2; omega
        · exact ih z.2.2
        · exact Nat.le_trans (ih z2) (ih z3)
      · omega
theorem Sh.ab {N : List Nd} {task n lo a b w al al' : Nat} {lp : Bool} (h : Sh N task n lo a b w al al' lp) : a ≤ b := by obtain ⟨k, g⟩ := h; exact g.ab k
theorem ShN.w1 {N : List Nd} : ∀ (k : Nat) {n lo a b w : Nat}, ShN N k 1 n lo a b w 0 0 false → 1 ≤ w := by
  intro k
  induction k with
  | zero => intro n lo a b w h; exact h.elim
  | succ k ih =>
    intro n lo a b w h
    obtain ⟨h1, h2, h3⟩ := h
    rcases h3 with ⟨ht, h3⟩ | ⟨ht, h3⟩
    · rcases h3 with g | g | g | g | ⟨e, g1, g2, b1, g3, g4⟩ | ⟨e, g1, l, h1, b1, g2, g3, g4, g5, g6⟩ | ⟨e, g1, g2, g3, l, h1, l2, h2, al2, g4, g5, g6, g7, g8, g9⟩ | ⟨e, g1, l, h1, g2, g3, g4⟩ | ⟨e, g1, g2, g3, b1, g4, g5⟩ | ⟨e, g1, g2, g3⟩ | ⟨e, g1, b1, g4, g5⟩
      · exact g.2.2.2
      · exact g.2.2.2.1
      · exact g.2.2.2.1
      · exact g.2.2.2.1
      · omega
      · omega
      · omega
      · omega
      · omega
      · exact ih g3
      · exact ih g4
    · cases ht
theorem Sh.w1 {N : List Nd} {n lo a b w : Nat} (h : Sh N 1 n lo a b w 0 0 false) : 1 ≤ w := by obtain ⟨k, g⟩ := h; exact g.w1 k
/-! ### code at its place -/
/-- s lies at p, and something lies behind it -/
def AtC (code : List In) (p : Nat) (s : List In) : Prop := ∃ pre post, code = pre ++ s ++ post ∧ pre.length = p ∧ post ≠ []
theorem AtC.split {code : List In} {p : Nat} {s t : List In} (h : AtC code p (s ++ t)) (ht : t ≠ [] ∨ True) : AtC code p s ∧ AtC code (p + s.length) t := by
  obtain ⟨pre, post, h1, h2, h3⟩ := h
  refine ⟨⟨pre, t ++ post, by rw [h1]; simp, h2, by simp [h3]⟩, ⟨pre ++ s, post, by rw [h1]; simp, by simp [h2], h3⟩⟩
theorem AtC.head {code : List In} {p : Nat} {i : In} {s : List In} (h : AtC code p (i :: s)) : code[p]? = some i ∧ AtC code (p + 1) s := by
  obtain ⟨pre, post, h1, h2, h3⟩ := h
  refine ⟨?_, ⟨pre ++ [i], post, by rw [h1]; simp, by simp [h2], h3⟩⟩
  rw [h1, ← h2]
  simp
theorem AtC.lt {code : List In} {p : Nat} {s : List In} (h : AtC code p s) : p + s.length < code.length := by
  obtain ⟨pre, post, h1, h2, h3⟩ := h
  have := List.length_pos_iff.2 h3
  rw [h1]
  simp only [List.length_append]
  omega
def fxD (D : CmD) (f : Nat) : Fx := ⟨(D.fn f).nslots, (D.fn f).ups.length, (D.fn f).consts, (D.fn f).code, fun x => if x < D.np then some (D.fn x).ups else none⟩
def hidL (L : List Bs) : List Bool := L.map List.isEmpty
def FnTy (D : CmD) (g : Nat) : Prop := Kt (fxD D g) (fun _ _ => False) 0 (ty 0 (List.replicate (D.fn g).np false) [])
/-- j values are pushed -/
def TE (D : CmD) (f : Nat) (L : List Bs) (p : Nat) (s : List In) (w j : Nat) : Prop :=
  ∀ R h F, AtC (D.fn f).code p s → Wf (fxD D f) (hidL L) F → h + w ≤ 128 → Kt (fxD D f) R (p + s.length) (ty (h + j) (hidL L) F) → Kt (fxD D f) R p (ty h (hidL L) F)
def TF (D : CmD) (a b : Nat) : Prop := ∀ g, a < g → g ≤ b → FnTy D g
theorem TF.add {D : CmD} {a b1 b : Nat} (h : TF D a b1) (g : TF D b1 b) : TF D a b := fun x h1 h2 => by
  by_cases e : x ≤ b1
  · exact h x h1 e
  · exact g x (by omega) h2
theorem TF.nil (D : CmD) (a : Nat) : TF D a a := fun x h1 h2 => by omega
/-- statements: the innermost loop's base and exit -/
def TS (D : CmD) (f : Nat) (L L' : List Bs) (p : Nat) (s : List In) (lp : Bool) (lb ex : Nat) : Prop :=
  ∀ R F, AtC (D.fn f).code p s → Wf (fxD D f) (hidL L) F → (lp = true → lb ≤ L.length ∧ ex < (D.fn f).code.length ∧ Kt (fxD D f) R ex (ty 0 (hidL (L.take lb)) (F.filter (fun b => decide (b + 3 ≤ lb))))) →
    Kt (fxD D f) R (p + s.length) (ty 0 (hidL L') F) → Kt (fxD D f) R p (ty 0 (hidL L) F)
structure TA (N : List Nd) (D : CmD) (k : Nat) : Prop where
  ex : ∀ f L r n lo a b w p s, LayN N D k 1 ((f, L) :: r) n p s [] 0 0 → Sh N 1 n lo a b w 0 0 false → b < D.np → TE D f L p s w 1 ∧ TF D a b
  ca : ∀ f L r n lo a b w p s, LayN N D k 2 ((f, L) :: r) n p s [] 0 0 → (N.getD n nd0).k = 19 → Sh N 1 n lo a b w 0 0 false → b < D.np → TE D f L p s w 2 ∧ TF D a b
  st : ∀ f L r n lo a b al al' p s L' lp lb ex, LayN N D k 0 ((f, L) :: r) n p s L' lb ex → Sh N 0 n lo a b 120 al al' lp → b < D.np → L.length ≤ (D.fn f).nslots → TS D f L L' p s lp lb ex ∧ TF D a b ∧ L <+: L' ∧ L'.length ≤ (D.fn f).nslots
  bl : ∀ f L r n l lo hi a b al al' p s L' lp lb ex, LayN N D k 3 ((f, L) :: r) n p s L' lb ex → Chain N n l → SeqS (fun x lo a b al al' => Sh N 0 x lo a b 120 al al' lp) l lo hi a b al al' → b < D.np → L.length ≤ (D.fn f).nslots → TS D f L L p s lp lb ex ∧ TF D a b
theorem Chain.uniq {N : List Nd} : ∀ {l l' : List Nat} {n : Nat}, Chain N n l → Chain N n l' → l = l' := by
  intro l
  induction l with
  | nil =>
    intro l' n h g
    cases l' with
    | nil => rfl
    | cons y l' => exact absurd (g.1.symm.trans h) g.2.1
  | cons x l ih =>
    intro l' n h g
    cases l' with
    | nil => exact absurd (h.1.symm.trans g) h.2.1
    | cons y l' =>
      have e : x = y := h.1.symm.trans g.1
      subst e
      rw [ih h.2.2 g.2.2]
section
variable {N : List Nd} {D : CmD} {k f : Nat} {L : List Bs} {r : En}
theorem TA.args (T : TA N D k) : ∀ (l : List Nat) (lo hi a b w p : Nat) (s : List In), Exprs (LayN N D k) ((f, L) :: r) l p s → SeqE (fun x lo a b w => Sh N 1 x lo a b w 0 0 false) 1 l lo hi a b w → b < D.np → (∀ h, h ≤ 128 → h + w ≤ 128 → h + l.length ≤ 128) ∧ TE D f L p s w l.length ∧ TF D a b := by
  intro l
  induction l with
  | nil =>
    intro lo hi a b w p s h g hb
    obtain ⟨rfl, rfl⟩ := g
    have h : s = [] := h
    subst h
    exact ⟨fun h h1 _ => h1, fun R h F _ _ _ k => k, TF.nil _ _⟩
  | cons x l ih =>
    intro lo hi a b w p s h g hb
    obtain ⟨s1, s2, rfl, h1, h2⟩ := h
    obtain ⟨b1, g1, g2⟩ := g
    have ab := SeqE.ab (fun _ _ _ _ _ h => Sh.ab h) g2
    have w1 := g1.w1
    obtain ⟨e1, f1⟩ := T.ex f L r x lo a b1 w p s1 h1 g1 (by omega)
    obtain ⟨e3, e2, f2⟩ := ih x hi b1 b (w - 1) _ s2 h2 g2 hb
    refine ⟨fun h j1 j2 => ?_, fun R h F at_ wf hw kk => ?_, f1.add f2⟩
    · have := e3 (h + 1) (by omega) (by omega)
      simp only [List.length_cons]
      omega
    · obtain ⟨a1, a2⟩ := at_.split (.inr trivial)
      refine e1 R h F a1 wf hw ?_
      refine e2 R (h + 1) F a2 wf (by omega) ?_
      rw [List.length_append, ← Nat.add_assoc] at kk
      rw [show h + 1 + l.length = h + (x :: l).length by simp only [List.length_cons]; omega]
      exact kk
theorem TA.items (T : TA N D k) : ∀ (l : List Nat) (lo hi a b w i p : Nat) (s : List In), Items (LayN N D k) ((f, L) :: r) l i p s → SeqE (fun x lo a b w => Sh N 1 x lo a b w 0 0 false) 0 l lo hi a b w → b < D.np →
    (∀ R h F, AtC (D.fn f).code p s → Wf (fxD D f) (hidL L) F → h + 1 + w ≤ 128 → Kt (fxD D f) R (p + s.length) (ty (h + 1) (hidL L) F) → Kt (fxD D f) R p (ty (h + 1) (hidL L) F)) ∧ TF D a b := by
  intro l
  induction l with
  | nil =>
    intro lo hi a b w i p s h g hb
    obtain ⟨rfl, rfl⟩ := g
    have h : s = [] := h
    subst h
    exact ⟨fun R h F _ _ _ k => k, TF.nil _ _⟩
  | cons x l ih =>
    intro lo hi a b w i p s h g hb
    obtain ⟨s1, s2, rfl, h1, h2⟩ := h
    obtain ⟨b1, g1, g2⟩ := g
    have ab := SeqE.ab (fun _ _ _ _ _ h => Sh.ab h) g2
    have w1 := g1.w1
    obtain ⟨e1, f1⟩ := T.ex f L r x lo a b1 w p s1 h1 g1 (by omega)
    obtain ⟨e2, f2⟩ := ih x hi b1 b _ _ _ s2 h2 g2 hb
    refine ⟨fun R h F at_ wf hw kk => ?_, f1.add f2⟩
    obtain ⟨a1, a2⟩ := at_.split (.inr trivial)
    obtain ⟨a3, a4⟩ := a2.head
    refine e1 R (h + 1) F a1 wf hw ?_
    refine k_two wf (by omega) a3 (.inr (.inl rfl)) ?_
    refine e2 R h F a4 wf (by omega) ?_
    rw [List.length_append, List.length_cons] at kk
    rw [show p + s1.length + 1 + s2.length = p + (s1.length + (s2.length + 1)) by omega]
    exact kk
/-- a name is loaded -/
theorem hid_at {k : Nat} {s : Bs} (h : L[k]? = some s) (hs : s ≠ []) : (hidL L)[k]? = some false := by
  unfold hidL
  rw [List.getElem?_map, h]
  cases s with
  | nil => exact (hs rfl).elim
  | cons _ _ => rfl
theorem UpR.lt {s : Bs} {j : Nat} (h : UpR D ((f, L) :: r) s (some j)) : j < (D.fn f).ups.length := by
  unfold UpR at h
  split at h
  · cases h
  · split at h
    · obtain ⟨i, e, h⟩ := h
      cases e
      exact (List.getElem?_eq_some_iff.1 h).1
    · rcases h with ⟨e, _⟩ | ⟨_, i, _, e, h⟩
      · cases e
      · cases e
        exact (List.getElem?_eq_some_iff.1 h).1
theorem var_get {s : Bs} {i : In} {p : Nat} (h : VarR D f L r s 5 7 9 i) (w : Nat) (hw : 1 ≤ w) : TE D f L p [i] w 1 := by
  intro R h' F at_ wf hh kk
  obtain ⟨a1, a2⟩ := at_.head
  rcases h with ⟨k, h1, rfl⟩ | ⟨h1, j, h2, rfl⟩ | ⟨h1, h2, x, h3, rfl⟩
  · have := (List.getElem?_eq_some_iff.1 (slotL_at h1)).1
    exact k_getl wf (by omega) a1 (by have := wf.l; unfold hidL at this; rw [List.length_map] at this; omega) kk
  · exact k_getu wf (by omega) a1 h2.lt kk
  · exact k_getg wf (by omega) a1 h3 kk
theorem var_set {s : Bs} {i : In} {p : Nat} (h : VarR D f L r s 6 8 10 i) (hs : s ≠ []) {R : Nat → Ty → Prop} {h' : Nat} {F : List Nat} (at_ : AtC (D.fn f).code p [i]) (wf : Wf (fxD D f) (hidL L) F) (hh : h' + 1 ≤ 128) (kk : Kt (fxD D f) R (p + 1) (ty h' (hidL L) F)) : Kt (fxD D f) R p (ty (h' + 1) (hidL L) F) := by
  obtain ⟨a1, a2⟩ := at_.head
  rcases h with ⟨k, h1, rfl⟩ | ⟨h1, j, h2, rfl⟩ | ⟨h1, h2, x, h3, rfl⟩
  · have hk := slotL_at h1
    have := (List.getElem?_eq_some_iff.1 hk).1
    refine k_setl wf (by omega) a1 (by have := wf.l; unfold hidL at this; rw [List.length_map] at this; omega) (.inr fun b hb => ?_) kk
    have hf := hid_at hk hs
    refine Decidable.byContradiction fun hn => ?_
    have := wf.F b hb (k - b) (by omega)
    rw [show b + (k - b) = k by omega, hf] at this
    cases this
  · exact k_setu wf (by omega) a1 h2.lt kk
  · exact k_setg wf (by omega) a1 h3 kk
end
end Go.Proofs.Qxb6500574aGreatDoor
