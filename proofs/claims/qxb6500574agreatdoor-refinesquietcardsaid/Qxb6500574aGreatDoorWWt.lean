/-
  moon: HOW MUCH THE COMPILER LAYS. Plain; no memory, no walk.
-/
import Derived.Test.Qxb6500574aGreatDoorWFt2
namespace Go.Proofs.Qxb6500574aGreatDoor
set_option linter.unusedVariables false
set_option linter.unusedSimpArgs false
def wtF (d : FnD) : Nat := 3 * d.code.length + 42 * d.consts.length
def wtC (c : CmD) : Nat := (c.fns.map wtF).sum
theorem sum_set : ∀ (l : List FnD) (i : Nat) (x : FnD), i < l.length → ((l.set i x).map wtF).sum + wtF (l.getD i fn0) = (l.map wtF).sum + wtF x := by
  intro l
  induction l with
  | nil => intro i x h; simp at h
  | cons y l ih =>
    intro i x h
    cases i with
    | zero => simp only [List.set_cons_zero, List.map_cons, List.sum_cons, List.getD_cons_zero]; omega
    | succ i =>
      have := ih i x (by simpa using h)
      simp only [List.set_cons_succ, List.map_cons, List.sum_cons, List.getD_cons_succ]
      omega
theorem wt_upd {c : CmD} {f : Nat} (h : f < c.fns.length) (u : FnD → FnD) : wtC (c.upd f u) + wtF (c.fn f) = wtC c + wtF (u (c.fn f)) := sum_set c.fns f _ h
/-- at most k more -/
structure Wg (c c' : CmD) (k : Nat) : Prop where
  len : c'.fns.length = c.fns.length
  le : wtC c' ≤ wtC c + k
section
variable {c c1 c2 : CmD} {f j k : Nat}
theorem Wg.refl (c : CmD) : Wg c c 0 := ⟨rfl, Nat.le_refl _⟩
theorem Wg.trans (h : Wg c c1 j) (g : Wg c1 c2 k) : Wg c c2 (j + k) := ⟨g.len.trans h.len, by have := h.le; have := g.le; omega⟩
theorem Wg.wide (h : Wg c c1 j) (g : j ≤ k) : Wg c c1 k := ⟨h.len, by have := h.le; omega⟩
theorem Wg.upd (h : f < c.fns.length) {u : FnD → FnD} (hu : wtF (u (c.fn f)) ≤ wtF (c.fn f) + k) : Wg c (c.upd f u) k := ⟨upd_len _ _ _, by have := wt_upd h u; omega⟩
theorem Wg.emit (h : f < c.fns.length) (l : List In) : Wg c (c.emit f l) (3 * l.length) := Wg.upd h (by simp only [wtF, List.length_append]; omega)
theorem Wg.declare (h : f < c.fns.length) (s : Bs) : Wg c (c.declare f s) 0 := Wg.upd h (by simp only [wtF]; omega)
theorem Wg.bind (h : f < c.fns.length) (s : Bs) : Wg c (c.bind f s) 3 := by
  have := (Wg.declare h s).trans (Wg.emit (f := f) (by rw [(Wg.declare h s).len]; exact h) [(6, (c.fn f).locals.length % 65536)])
  exact this
theorem Wg.land (h : f < c.fns.length) (p : Nat) : Wg c (c.land f p) 0 := Wg.upd h (by simp only [wtF, List.length_set]; omega)
theorem Wg.jump (h : f < c.fns.length) (op : Nat) : Wg c (c.jump f op) 3 := Wg.emit h _
theorem Wg.open_ (h : f < c.fns.length) (b : Nat) : Wg c (c.open_ f b) 0 := Wg.upd h (by simp only [wtF]; omega)
theorem Wg.leave (h : f < c.fns.length) (b : Nat) : Wg c (c.leave f b) 3 := by
  unfold CmD.leave
  split
  · have g := Wg.emit h [(29, b % 65536)]
    exact g.trans (Wg.upd (k := 0) (u := fun d => { d with locals := d.locals.take b }) (by rw [g.len]; exact h) (by simp only [wtF]; omega))
  · exact (Wg.refl c).wide (by omega)
theorem Wg.lands (f : Nat) : ∀ (l : List Nat) (c : CmD), f < c.fns.length → Wg c (l.foldl (fun c p => c.land f p) c) 0 := by
  intro l
  induction l with
  | nil => intro c _; exact Wg.refl c
  | cons p l ih =>
    intro c h
    have g := Wg.land h p
    exact g.trans (ih _ (by rw [g.len]; exact h))
theorem Wg.shut (h : f < c.fns.length) : Wg c (c.shut f) 0 := by
  unfold CmD.shut
  have g : Wg c (c.upd f fun d => { d with loops := d.loops.dropLast }) 0 := Wg.upd h (by simp only [wtF]; omega)
  exact g.trans (Wg.lands f _ _ (by rw [g.len]; exact h))
theorem Wg.const (h : f < c.fns.length) (v : Vl) : Wg c (c.const f v).1 42 := by
  unfold CmD.const
  split
  · exact (Wg.refl c).wide (by omega)
  · exact Wg.upd (k := 42) (u := fun d => { d with consts := d.consts ++ [v] }) h (by simp only [wtF, List.length_append, List.length_singleton]; omega)
theorem Wg.up (s : Bs) : ∀ (n : Nat) (c : CmD) (f : Nat), Wg c (upN c s n f).1 0 := by
  intro n
  induction n with
  | zero => intro c f; exact Wg.refl c
  | succ n ih =>
    intro c f
    unfold upN
    split
    · exact Wg.refl c
    · rename_i g hg
      have key : ∀ (c1 : CmD) (o : Option (Nat × Nat)), Wg c c1 0 → Wg c (match (c1, o) with
          | (c1, none) => ((c1, none) : CmD × Option Nat)
          | (c1, some d) => match (c1.fn f).ups.findIdx? (fun e => e == d) with
            | some k => (c1, some k)
            | none => (c1.upd f fun x => { x with ups := x.ups ++ [d] }, some (c1.fn f).ups.length)).1 0 := by
        intro c1 o h1
        cases o with
        | none => exact h1
        | some d =>
          simp only
          split
          · exact h1
          · refine ⟨(upd_len _ _ _).trans h1.len, ?_⟩
            by_cases hl : f < c1.fns.length
            · have := wt_upd hl (fun x => { x with ups := x.ups ++ [d] })
              have := h1.le
              simp only [wtF] at *
              omega
            · have e : (c1.upd f fun x => { x with ups := x.ups ++ [d] }) = c1 := by
                unfold CmD.upd
                rw [List.set_eq_of_length_le (by omega)]
              simp only
              rw [e]
              exact h1.le
      have := ih c g
      split
      · rename_i i _; exact key c (some (1, i % 256)) (Wg.refl c)
      · generalize upN c s n g = U at this
        obtain ⟨c1, o⟩ := U
        cases o with
        | none => exact key c1 none this
        | some k => exact key c1 (some (0, k % 256)) this
theorem Wg.variable (h : f < c.fns.length) (s : Bs) (lo up gl : Nat) : Wg c (c.variable f s lo up gl) 45 := by
  unfold CmD.variable
  split
  · exact (Wg.emit h _).wide (by simp)
  · have g := Wg.up s 20 c f
    generalize upN c s 20 f = U at g
    obtain ⟨c1, o⟩ := U
    have h1 : f < c1.fns.length := by have := g.len; simp only at this; omega
    cases o with
    | some k => exact (g.trans (Wg.emit h1 _)).wide (by simp)
    | none =>
      have g2 := Wg.const h1 (strV s)
      exact ((g.trans g2).trans (Wg.emit (by rw [g2.len]; exact h1) _)).wide (by simp)
theorem Wg.fresh {x : Nat} (h : x < c.fns.length) (p : Option Nat) : Wg c (c.fresh x p) 0 := by
  have g : Wg c (c.upd x fun _ => { fn0 with parent := p }) 0 := Wg.upd h (by show 0 ≤ _; omega)
  exact ⟨g.len, g.le⟩
theorem Wg.declares (x : Nat) (N : List Nd) : ∀ (l : List Nat) (c : CmD), x < c.fns.length → Wg c (l.foldl (fun c m => c.declare x (N.getD m nd0).s) c) 0 := by
  intro l
  induction l with
  | nil => intro c _; exact Wg.refl c
  | cons p l ih =>
    intro c h
    have g := Wg.declare h (N.getD p nd0).s
    exact g.trans (ih _ (by rw [g.len]; exact h))
end
structure WA (N : List Nd) (k : Nat) : Prop where
  ex : ∀ f n lo a b w c, Sh N 1 n lo a b w 0 0 false → f < c.fns.length → c.fns.length = 13 → Wg c (comN N k 1 f n c) (93 * (n - lo) - 3)
  ca : ∀ f n lo a b w c, Sh N 1 n lo a b w 0 0 false → (N.getD n nd0).k = 19 → f < c.fns.length → c.fns.length = 13 → Wg c (comN N k 2 f n c) (93 * (n - lo) - 6)
  st : ∀ f n lo a b al al' lp c, Sh N 0 n lo a b 120 al al' lp → f < c.fns.length → c.fns.length = 13 → Wg c (comN N k 0 f n c) (93 * (n - lo))
  bl : ∀ f n l lo hi a b al al' lp c, Chain N n l → SeqS (fun x lo a b al al' => Sh N 0 x lo a b 120 al al' lp) l lo hi a b al al' → hi < N.length → f < c.fns.length → c.fns.length = 13 → Wg c (comN N k 3 f n c) (93 * (hi - lo) + 3)
  no : ∀ f c, f < c.fns.length → (N.getD 0 nd0).k = 0 → Wg c (comN N k 1 f 0 c) 3
section
variable {N : List Nd} {k f : Nat}
theorem Wg.lt {c c1 : CmD} {j : Nat} (h : Wg c c1 j) {f : Nat} (hf : f < c.fns.length) : f < c1.fns.length := by rw [h.len]; exact hf
theorem WA.args (T : WA N k) {dec : Nat} : ∀ (l : List Nat) (lo hi a b w : Nat) (c : CmD), SeqE (fun x lo a b w => Sh N 1 x lo a b w 0 0 false) dec l lo hi a b w → f < c.fns.length → c.fns.length = 13 → Wg c (l.foldl (fun c m => comN N k 1 f m c) c) (93 * (hi - lo)) := by
  intro l
  induction l with
  | nil => intro lo hi a b w c h _ _; exact (Wg.refl c).wide (by omega)
  | cons x l ih =>
    intro lo hi a b w c h hf hl
    obtain ⟨b1, h1, h2⟩ := h
    have i1 := h1.lt
    have i2 := (SeqE.in_ Sh.ltE h2).1
    have g := T.ex f x lo a b1 w c h1 hf hl
    exact (g.trans (ih x hi b1 b _ _ h2 (g.lt hf) (g.len.trans hl))).wide (by omega)
theorem WA.items (T : WA N k) : ∀ (l : List Nat) (lo hi a b w i : Nat) (c : CmD), SeqE (fun x lo a b w => Sh N 1 x lo a b w 0 0 false) 0 l lo hi a b w → f < c.fns.length → c.fns.length = 13 → Wg c (l.foldl (fun (x : CmD × Nat) m => ((comN N k 1 f m x.1).emit f [(13, (x.2 + 1) % 65536)], x.2 + 1)) (c, i)).1 (93 * (hi - lo)) := by
  intro l
  induction l with
  | nil => intro lo hi a b w i c h _ _; exact (Wg.refl c).wide (by omega)
  | cons x l ih =>
    intro lo hi a b w i c h hf hl
    obtain ⟨b1, h1, h2⟩ := h
    have i1 := h1.lt
    have i2 := (SeqE.in_ Sh.ltE h2).1
    have g := T.ex f x lo a b1 w c h1 hf hl
    have g2 := g.trans (Wg.emit (g.lt hf) [(13, (i + 1) % 65536)])
    exact (g2.trans (ih x hi b1 b _ (i + 1) _ h2 (g2.lt hf) (g2.len.trans hl))).wide (by simp only [List.length_cons, List.length_nil]; omega)
theorem WA.stmts (T : WA N k) {lp : Bool} : ∀ (l : List Nat) (lo hi a b al al' : Nat) (c : CmD), SeqS (fun x lo a b al al' => Sh N 0 x lo a b 120 al al' lp) l lo hi a b al al' → f < c.fns.length → c.fns.length = 13 → Wg c (l.foldl (fun c m => comN N k 0 f m c) c) (93 * (hi - lo)) := by
  intro l
  induction l with
  | nil => intro lo hi a b al al' c h _ _; exact (Wg.refl c).wide (by omega)
  | cons x l ih =>
    intro lo hi a b al al' c h hf hl
    obtain ⟨b1, al1, h1, h2⟩ := h
    have i1 := h1.lt
    have i2 := (SeqS.in_ Sh.ltS h2).1
    have g := T.st f x lo a b1 al al1 lp c h1 hf hl
    exact (g.trans (ih x hi b1 b _ _ _ h2 (g.lt hf) (g.len.trans hl))).wide (by omega)
theorem WA.b3 (T : WA N k) : ∀ f n l lo hi a b al al' lp c, Chain N n l → SeqS (fun x lo a b al al' => Sh N 0 x lo a b 120 al al' lp) l lo hi a b al al' → hi < N.length → f < c.fns.length → c.fns.length = 13 → Wg c (comN N (k + 1) 3 f n c) (93 * (hi - lo) + 3) := by
  intro f n l lo hi a b al al' lp c hc hs hN hf hl
  have hin := SeqS.in_ Sh.ltS hs
  have hinc := Inc.len (SeqS.inc Sh.ltS hs) hin.1 (fun x hx => (hin.2 x hx).2)
  have hch : nextL N N.length n = l := chain_eq hc (by omega)
  have e : comN N (k + 1) 3 f n c = (l.foldl (fun c m => comN N k 0 f m c) c).leave f (c.fn f).locals.length := by
    conv => lhs; unfold comN
    simp (config := {decide := true}) only [if_true, if_false]
    rw [hch]
  rw [e]
  have g := T.stmts (f := f) l lo hi a b al al' c hs hf hl
  exact g.trans (Wg.leave (g.lt hf) _)
theorem WA.c2 (T : WA N k) : ∀ f n lo a b w c, Sh N 1 n lo a b w 0 0 false → (N.getD n nd0).k = 19 → f < c.fns.length → c.fns.length = 13 → Wg c (comN N (k + 1) 2 f n c) (93 * (n - lo) - 6) := by
  intro f n lo a b w c h hd hf hl
  obtain ⟨z1, z2, z3⟩ := h.out
  have q : ∃ l h1 b1, n = h1 + 1 ∧ Sh N 1 (N.getD n nd0).a lo a b1 w 0 0 false ∧ Chain N (N.getD n nd0).b l ∧ l.length ≤ 3 ∧ SeqE (fun x lo a b w => Sh N 1 x lo a b w 0 0 false) 1 l (N.getD n nd0).a h1 b1 b (w - 1) := by
    rcases z3 with ⟨_, z3⟩ | ⟨e, _⟩
    · rcases z3 with q | q | q | q | q | q | q | q | q | q | q <;> first | omega | exact q.2.2
    · cases e
  obtain ⟨l, h1, b1, q1, q2, q3, q4, q5⟩ := q
  have i1 := q2.lt
  have i2 := (SeqE.in_ Sh.ltE q5).1
  have hch : nextL N N.length (N.getD n nd0).b = l := chain_eq q3 (by omega)
  have e : comN N (k + 1) 2 f n c = (l.foldl (fun c m => comN N k 1 f m c) (comN N k 1 f (N.getD n nd0).a c)).emit f [(26, l.length % 65536)] := by
    conv => lhs; unfold comN
    simp (config := {decide := true}) only [if_true, if_false]
    rw [hch]
  rw [e]
  have g1 := T.ex f _ lo a b1 w c q2 hf hl
  have g2 := g1.trans (T.args (f := f) l _ h1 b1 b _ _ q5 (g1.lt hf) (g1.len.trans hl))
  exact (g2.trans (Wg.emit (g2.lt hf) _)).wide (by simp only [List.length_cons, List.length_nil]; omega)
theorem WA.e1 (T : WA N k) : ∀ f n lo a b w c, Sh N 1 n lo a b w 0 0 false → f < c.fns.length → c.fns.length = 13 → Wg c (comN N (k + 1) 1 f n c) (93 * (n - lo) - 3) := by
  intro f n lo a b w c h hf hl
  obtain ⟨z1, z2, z3⟩ := h.out
  rcases z3 with ⟨_, z3⟩ | ⟨e, _⟩
  rotate_left
  · cases e
  rcases z3 with ⟨g, g1, rfl, g2⟩ | ⟨g, g1, rfl, g2, g3⟩ | ⟨g, g1, rfl, g2, g3⟩ | ⟨g, g1, rfl, g2, g3⟩ | ⟨g, g1, g2, b1, g3, g4⟩ | ⟨g, g1, l, h1, b1, g2, g3, g4, g5, g6⟩ | ⟨g, g1, g2, g3, l, h1, l2, h2, al2, g4, g5, g6, g7, g8, g9⟩ | ⟨g, g1, l, h1, g2, g3, g4⟩ | ⟨g, g1, g2, g3, b1, g4, g5⟩ | ⟨g, g1, g2, g3⟩ | ⟨g, g1, b1, g4, g5⟩
  · rcases g with g | g | g
    · rw [com_nil g]; exact (Wg.emit hf _).wide (by simp only [List.length_cons, List.length_nil]; omega)
    · rw [com_true g]; exact (Wg.emit hf _).wide (by simp only [List.length_cons, List.length_nil]; omega)
    · rw [com_false g]; exact (Wg.emit hf _).wide (by simp only [List.length_cons, List.length_nil]; omega)
  · rw [com_num g]
    have u := Wg.const hf (numV (N.getD n nd0).n)
    exact (u.trans (Wg.emit (u.lt hf) _)).wide (by simp only [List.length_cons, List.length_nil]; omega)
  · rw [com_str g]
    have u := Wg.const hf (strV (N.getD n nd0).s)
    exact (u.trans (Wg.emit (u.lt hf) _)).wide (by simp only [List.length_cons, List.length_nil]; omega)
  · have e : comN N (k + 1) 1 f n c = c.variable f (N.getD n nd0).s 5 7 9 := by
      conv => lhs; unfold comN
      simp (config := {decide := true}) only [if_true, if_false, g]
    rw [e]
    exact (Wg.variable hf _ _ _ _).wide (by omega)
  · rw [com_idx g]
    have i1 := g3.lt; have i2 := g4.lt
    have u1 := T.ex f _ lo a b1 w c g3 hf hl
    have u2 := u1.trans (T.ex f _ _ b1 b _ _ g4 (u1.lt hf) (u1.len.trans hl))
    exact (u2.trans (Wg.emit (u2.lt hf) _)).wide (by simp only [List.length_cons, List.length_nil]; omega)
  · have e : comN N (k + 1) 1 f n c = (comN N k 2 f n c).emit f [(25, 0)] := by
      conv => lhs; unfold comN
      simp (config := {decide := true}) only [if_true, if_false, g]
    rw [e]
    have u := T.ca f n lo a b w c h g hf hl
    exact (u.trans (Wg.emit (u.lt hf) _)).wide (by simp only [List.length_cons, List.length_nil]; omega)
  · have i7 := g7.in_
    have i9 := (SeqS.in_ Sh.ltS g9).1
    have hch : nextL N N.length (N.getD n nd0).a = l := chain_eq g5 (by have := Inc.len g7.inc g7.in_.1 (fun x hx => (g7.in_.2 x hx).2); omega)
    have e : comN N (k + 1) 1 f n c = ((comN N k 3 (N.getD n nd0).n (N.getD n nd0).b ((l.foldl (fun c m => c.declare (N.getD n nd0).n (N.getD m nd0).s) (c.fresh (N.getD n nd0).n (some f))).upd (N.getD n nd0).n fun x => { x with np := l.length })).emit (N.getD n nd0).n [(2, 0), (2, 0), (27, 0)]).emit f [(28, (N.getD n nd0).n % 65536)] := by
      conv => lhs; unfold comN
      simp (config := {decide := true}) only [if_true, if_false, g]
      rw [hch]
    rw [e]
    have hx : (N.getD n nd0).n < c.fns.length := by omega
    have u1 := Wg.fresh hx (some f)
    have u2 := u1.trans (Wg.declares _ N l _ (u1.lt hx))
    have u3 := u2.trans (Wg.upd (k := 0) (u2.lt hx) (u := fun x => { x with np := l.length }) (by simp only [wtF]; omega))
    have u4 := u3.trans (T.bl _ (N.getD n nd0).b l2 h1 h2 _ b _ al2 false _ g8 g9 (by omega) (u3.lt hx) (u3.len.trans hl))
    have u5 := u4.trans (Wg.emit (u4.lt hx) [(2, 0), (2, 0), (27, 0)])
    exact (u5.trans (Wg.emit (u5.lt hf) _)).wide (by simp only [List.length_cons, List.length_nil]; omega)
  · have hs := SeqE.in_ Sh.ltE g4
    have hinc := Inc.len (SeqE.inc Sh.ltE g4) hs.1 (fun x hx => (hs.2 x hx).2)
    have hch : nextL N N.length (N.getD n nd0).a = l := chain_eq g3 (by omega)
    have e : comN N (k + 1) 1 f n c = (l.foldl (fun (x : CmD × Nat) m => ((comN N k 1 f m x.1).emit f [(13, (x.2 + 1) % 65536)], x.2 + 1)) (c.emit f [(14, 0)], 0)).1 := by
      conv => lhs; unfold comN
      simp (config := {decide := true}) only [if_true, if_false, g]
      rw [hch]
    rw [e]
    have u := Wg.emit hf [(14, 0)]
    exact (u.trans (T.items (f := f) l lo h1 a b _ 0 _ g4 (u.lt hf) (u.len.trans hl))).wide (by simp only [List.length_cons, List.length_nil]; omega)
  · rw [com_bin g]
    have i1 := g4.lt; have i2 := g5.lt
    have u1 := T.ex f _ lo a b1 w c g4 hf hl
    have u2 := u1.trans (T.ex f _ _ b1 b _ _ g5 (u1.lt hf) (u1.len.trans hl))
    exact (u2.trans (Wg.emit (u2.lt hf) _)).wide (by simp only [List.length_cons, List.length_nil]; omega)
  · have e : comN N (k + 1) 1 f n c = (comN N k 1 f (N.getD n nd0).a c).emit f [unI (N.getD n nd0).n] := by
      conv => lhs; unfold comN
      simp (config := {decide := true}) only [if_true, if_false, g]
    rw [e]
    have i1 := g3.lt
    have u1 := T.ex f _ lo a b w c g3 hf hl
    exact (u1.trans (Wg.emit (u1.lt hf) _)).wide (by simp only [List.length_cons, List.length_nil]; omega)
  · have e : comN N (k + 1) 1 f n c = (comN N k 1 f (N.getD n nd0).b ((comN N k 1 f (N.getD n nd0).a c).jump f (if (N.getD n nd0).k = 25 then 24 else 23))).land f ((comN N k 1 f (N.getD n nd0).a c).here f) := by
      conv => lhs; unfold comN
      rcases g with g | g <;> simp (config := {decide := true}) only [if_true, if_false, g]
    rw [e]
    have i1 := g4.lt; have i2 := g5.lt
    have u1 := T.ex f _ lo a b1 w c g4 hf hl
    have u2 := u1.trans (Wg.jump (u1.lt hf) (if (N.getD n nd0).k = 25 then 24 else 23))
    have u3 := u2.trans (T.ex f _ _ b1 b _ _ g5 (u2.lt hf) (u2.len.trans hl))
    exact (u3.trans (Wg.land (u3.lt hf) _)).wide (by omega)
theorem WA.n1 : ∀ f c, f < c.fns.length → (N.getD 0 nd0).k = 0 → Wg c (comN N (k + 1) 1 f 0 c) 3 := by
  intro f c hf h0
  have e : comN N (k + 1) 1 f 0 c = c.emit f [(2, 0)] := by
    conv => lhs; unfold comN
    simp (config := {decide := true}) only [if_true, if_false, h0]
  rw [e]
  exact Wg.emit hf _
end
end Go.Proofs.Qxb6500574aGreatDoor
