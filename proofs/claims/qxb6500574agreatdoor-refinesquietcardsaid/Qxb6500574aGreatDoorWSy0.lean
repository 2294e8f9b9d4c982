/-
  moon: THE COMPILER DOES NOT LOOK INTO NUMBERS but to compare them. Plain; no memory, no walk.
-/
import Derived.Test.Qxb6500574aGreatDoorWCo0
namespace Go.Proofs.Qxb6500574aGreatDoor
set_option linter.unusedVariables false
set_option linter.unusedSimpArgs false
/-- numbers turned by g -/
def sgV (g : Nat → Nat) (v : Vl) : Vl := if v.t = 2 then { v with n := g v.n } else v
def sgN (g : Nat → Nat) (d : Nd) : Nd := if d.k = 15 then { d with n := g d.n } else d
def sgF (g : Nat → Nat) (f : FnD) : FnD := { f with consts := f.consts.map (sgV g) }
def sgC (g : Nat → Nat) (c : CmD) : CmD := { c with fns := c.fns.map (sgF g) }
section
variable {g : Nat → Nat}
theorem sgN_k (d : Nd) : (sgN g d).k = d.k := by unfold sgN; split <;> rfl
theorem sgN_a (d : Nd) : (sgN g d).a = d.a := by unfold sgN; split <;> rfl
theorem sgN_b (d : Nd) : (sgN g d).b = d.b := by unfold sgN; split <;> rfl
theorem sgN_c (d : Nd) : (sgN g d).c = d.c := by unfold sgN; split <;> rfl
theorem sgN_next (d : Nd) : (sgN g d).next = d.next := by unfold sgN; split <;> rfl
theorem sgN_s (d : Nd) : (sgN g d).s = d.s := by unfold sgN; split <;> rfl
theorem sgN_n (d : Nd) (h : d.k ≠ 15) : (sgN g d).n = d.n := by unfold sgN; rw [if_neg h]
theorem sgN_15 (d : Nd) (h : d.k = 15) : (sgN g d).n = g d.n := by unfold sgN; rw [if_pos h]
theorem sg_get (N : List Nd) (n : Nat) : (N.map (sgN g)).getD n nd0 = sgN g (N.getD n nd0) := by
  rw [List.getD_eq_getElem?_getD, List.getD_eq_getElem?_getD, List.getElem?_map]
  cases N[n]? <;> rfl
theorem sg_fn (c : CmD) (f : Nat) : (sgC g c).fn f = sgF g (c.fn f) := by
  unfold CmD.fn sgC
  rw [List.getD_eq_getElem?_getD, List.getD_eq_getElem?_getD, List.getElem?_map]
  cases c.fns[f]? <;> rfl
theorem sg_same (hi : ∀ a b, g a = g b → a = b) (a b : Vl) : (sgV g a).same (sgV g b) = a.same b := by
  unfold sgV Vl.same
  by_cases ha : a.t = 2 <;> by_cases hb : b.t = 2
  · rw [if_pos ha, if_pos hb]
    show (a.t == b.t && g a.n == g b.n && a.s == b.s) = (a.t == b.t && a.n == b.n && a.s == b.s)
    have : (g a.n == g b.n) = (a.n == b.n) := Bool.eq_iff_iff.2 (by rw [beq_iff_eq, beq_iff_eq]; exact ⟨hi _ _, congrArg g⟩)
    rw [this]
  · rw [if_pos ha, if_neg hb]
    have : (a.t == b.t) = false := by rw [ha]; simp; exact fun e => hb e.symm
    simp [this]
  · rw [if_neg ha, if_pos hb]
    have : (a.t == b.t) = false := by rw [hb]; simp; exact ha
    simp [this]
  · rw [if_neg ha, if_neg hb]
theorem sg_upd (c : CmD) (f : Nat) (u : FnD → FnD) (h : ∀ d, sgF g (u d) = u (sgF g d)) : (sgC g c).upd f u = sgC g (c.upd f u) := by
  unfold CmD.upd
  rw [sg_fn, ← h]
  unfold sgC
  simp only [List.map_set]
theorem sg_emit (c : CmD) (f : Nat) (l : List In) : (sgC g c).emit f l = sgC g (c.emit f l) := sg_upd c f _ fun _ => rfl
theorem sg_jump (c : CmD) (f op : Nat) : (sgC g c).jump f op = sgC g (c.jump f op) := sg_emit c f _
theorem sg_land (c : CmD) (f p : Nat) : (sgC g c).land f p = sgC g (c.land f p) := sg_upd c f _ fun _ => rfl
theorem sg_declare (c : CmD) (f : Nat) (s : Bs) : (sgC g c).declare f s = sgC g (c.declare f s) := sg_upd c f _ fun _ => rfl
theorem sg_open (c : CmD) (f b : Nat) : (sgC g c).open_ f b = sgC g (c.open_ f b) := sg_upd c f _ fun _ => rfl
theorem sg_locals (c : CmD) (f : Nat) : ((sgC g c).fn f).locals = (c.fn f).locals := by rw [sg_fn]; rfl
theorem sg_loops (c : CmD) (f : Nat) : ((sgC g c).fn f).loops = (c.fn f).loops := by rw [sg_fn]; rfl
theorem sg_here (c : CmD) (f : Nat) : (sgC g c).here f = c.here f := by unfold CmD.here; rw [sg_fn]; rfl
theorem sg_bind (c : CmD) (f : Nat) (s : Bs) : (sgC g c).bind f s = sgC g (c.bind f s) := by unfold CmD.bind; rw [sg_declare, sg_emit, sg_locals]
theorem sg_leave (c : CmD) (f b : Nat) : (sgC g c).leave f b = sgC g (c.leave f b) := by
  unfold CmD.leave
  rw [sg_locals]
  split
  · rw [sg_emit]; exact sg_upd _ _ _ fun _ => rfl
  · rfl
theorem sg_foldl {α : Type} {u v : CmD → α → CmD} (h : ∀ c m, u (sgC g c) m = sgC g (v c m)) : ∀ (l : List α) (c : CmD), l.foldl u (sgC g c) = sgC g (l.foldl v c) := by
  intro l
  induction l with
  | nil => intro c; rfl
  | cons x l ih => intro c; rw [List.foldl_cons, List.foldl_cons, h, ih]
theorem sg_shut (c : CmD) (f : Nat) : (sgC g c).shut f = sgC g (c.shut f) := by
  unfold CmD.shut
  simp only [sg_loops]
  have e := sg_upd (g := g) c f (fun d => { d with loops := d.loops.dropLast }) fun _ => rfl
  rw [e]
  exact sg_foldl (fun c m => sg_land c f m) _ _
theorem sg_fresh (c : CmD) (x : Nat) (p : Option Nat) : (sgC g c).fresh x p = sgC g (c.fresh x p) := by
  have e := sg_upd (g := g) c x (fun _ => { fn0 with parent := p }) fun _ => rfl
  exact congrArg (fun z : CmD => (⟨z.fns, max c.np (x + 1)⟩ : CmD)) e
theorem sg_up (s : Bs) : ∀ (n : Nat) (c : CmD) (f : Nat), upN (sgC g c) s n f = (sgC g (upN c s n f).1, (upN c s n f).2) := by
  intro n
  induction n with
  | zero => intro c f; rfl
  | succ n ih =>
    intro c f
    unfold upN
    have hp : ((sgC g c).fn f).parent = (c.fn f).parent := by rw [sg_fn]; rfl
    rw [hp]
    cases (c.fn f).parent with
    | none => rfl
    | some q =>
      simp only [sg_locals, ih]
      have fin : ∀ (c1 : CmD) (d : Nat × Nat), (match ((sgC g c1).fn f).ups.findIdx? (fun e => e == d) with
          | some k => (sgC g c1, some k)
          | none => ((sgC g c1).upd f fun x => { x with ups := x.ups ++ [d] }, some ((sgC g c1).fn f).ups.length)) =
          (sgC g (match (c1.fn f).ups.findIdx? (fun e => e == d) with
          | some k => (c1, some k)
          | none => (c1.upd f fun x => { x with ups := x.ups ++ [d] }, some (c1.fn f).ups.length)).1, (match (c1.fn f).ups.findIdx? (fun e => e == d) with
          | some k => (c1, some k)
          | none => (c1.upd f fun x => { x with ups := x.ups ++ [d] }, some (c1.fn f).ups.length)).2) := by
        intro c1 d
        have hu : ((sgC g c1).fn f).ups = (c1.fn f).ups := by rw [sg_fn]; rfl
        rw [hu]
        split
        · rfl
        · have e := sg_upd (g := g) c1 f (fun x => { x with ups := x.ups ++ [d] }) fun _ => rfl
          rw [e]
      cases slotL (c.fn q).locals s with
      | some k => exact fin c _
      | none =>
        generalize upN c s n q = U
        obtain ⟨c1, o⟩ := U
        cases o with
        | none => rfl
        | some k => exact fin c1 _
theorem sg_const (hi : ∀ a b, g a = g b → a = b) (c : CmD) (f : Nat) (v : Vl) : (sgC g c).const f (sgV g v) = (sgC g (c.const f v).1, (c.const f v).2) := by
  unfold CmD.const
  have e : ((sgC g c).fn f).consts = (c.fn f).consts.map (sgV g) := by rw [sg_fn]; rfl
  rw [e, List.findIdx?_map]
  have e2 : ((fun e => Vl.same e (sgV g v)) ∘ sgV g) = fun e => e.same v := by funext x; exact sg_same hi x v
  rw [e2]
  cases hq : (c.fn f).consts.findIdx? (fun e => e.same v) with
  | some k => rfl
  | none =>
    simp only [List.length_map]
    have : (sgC g c).upd f (fun d => { d with consts := d.consts ++ [sgV g v] }) = sgC g (c.upd f fun d => { d with consts := d.consts ++ [v] }) := by
      unfold CmD.upd
      rw [sg_fn]
      unfold sgC
      simp only [List.map_set]
      congr 2
      unfold sgF
      simp
    rw [this]
theorem sg_str (s : Bs) : sgV g (strV s) = strV s := rfl
theorem sg_num (n : Nat) : sgV g (numV n) = numV (g n) := rfl
theorem sg_conS (hi : ∀ a b, g a = g b → a = b) (c : CmD) (f : Nat) (s : Bs) : (sgC g c).const f (strV s) = (sgC g (c.const f (strV s)).1, (c.const f (strV s)).2) := sg_const hi c f (strV s)
theorem sg_conN (hi : ∀ a b, g a = g b → a = b) (c : CmD) (f n : Nat) : (sgC g c).const f (numV (g n)) = (sgC g (c.const f (numV n)).1, (c.const f (numV n)).2) := sg_const hi c f (numV n)
theorem sg_variable (hi : ∀ a b, g a = g b → a = b) (c : CmD) (f : Nat) (s : Bs) (lo up gl : Nat) : (sgC g c).variable f s lo up gl = sgC g (c.variable f s lo up gl) := by
  unfold CmD.variable
  rw [sg_locals, sg_up]
  cases slotL (c.fn f).locals s with
  | some k => exact sg_emit _ _ _
  | none =>
    generalize upN c s 20 f = U
    obtain ⟨c1, o⟩ := U
    cases o with
    | some k => exact sg_emit _ _ _
    | none =>
      simp only
      rw [sg_conS hi]
      exact sg_emit _ _ _
theorem sg_next (N : List Nd) : ∀ (k n : Nat), nextL (N.map (sgN g)) k n = nextL N k n := by
  intro k
  induction k with
  | zero => intro n; rfl
  | succ k ih =>
    intro n
    unfold nextL
    rw [sg_get, sgN_next, ih]
theorem com_map (hi : ∀ a b, g a = g b → a = b) (h1 : g one64 = one64) (N : List Nd) : ∀ (k task f n : Nat) (c : CmD), comN (N.map (sgN g)) k task f n (sgC g c) = sgC g (comN N k task f n c) := by
  have hone : ∀ (c : CmD) (f : Nat), (sgC g c).const f (numV one64) = (sgC g (c.const f (numV one64)).1, (c.const f (numV one64)).2) := fun c f => by
    have := sg_conN hi c f one64
    rw [h1] at this
    exact this
  intro k
  induction k with
  | zero => intro task f n c; rfl
  | succ k ih =>
    intro task f n c
    unfold comN
    simp only [sg_get, sgN_k, sgN_a, sgN_b, sgN_c, sgN_next, sgN_s, List.length_map, sg_next]
    generalize hd : N.getD n nd0 = d
    by_cases t0 : task = 0
    · rw [if_pos t0, if_pos t0]
      simp only [ih, sg_bind, sg_declare, sg_emit, sg_locals, sg_loops, sg_variable hi, sg_jump, sg_land, sg_here, sg_open, sg_shut, sg_leave, hone]
      have hst : ∀ (p : Prop) [Decidable p] (s : Nat) (c : CmD), (if p then sgC g (comN N k 1 f s c) else sgC g ((c.const f (numV one64)).1.emit f [(1, (c.const f (numV one64)).2)])) = sgC g (if p then comN N k 1 f s c else (c.const f (numV one64)).1.emit f [(1, (c.const f (numV one64)).2)]) := fun p _ s c => (apply_ite (sgC g) p _ _).symm
      have hbr : ∀ (p : Prop) [Decidable p] (x : In), (if p then sgC g (c.emit f [x]) else sgC g c) = sgC g (if p then c.emit f [x] else c) := fun p _ x => (apply_ite (sgC g) p _ _).symm
      have hlp : ∀ (c : CmD) (l : LpD) (b : List Nat), ((sgC g c).upd f fun x => { x with loops := x.loops.dropLast ++ [{ l with breaks := b }] }) = sgC g (c.upd f fun x => { x with loops := x.loops.dropLast ++ [{ l with breaks := b }] }) := fun c l b => sg_upd _ _ _ fun _ => rfl
      simp only [hst, hbr, sg_bind, sg_declare, sg_emit, sg_locals, sg_loops, sg_jump, sg_land, sg_here, sg_open, sg_shut, sg_leave, ih, hlp]
      simp only [apply_ite (sgC g)]
    · rw [if_neg t0, if_neg t0]
      by_cases t1 : task = 1
      · rw [if_pos t1, if_pos t1]
        have hfold : ∀ (l : List Nat) (c : CmD) (i : Nat), l.foldl (fun (x : CmD × Nat) m => ((comN (N.map (sgN g)) k 1 f m x.1).emit f [(13, (x.2 + 1) % 65536)], x.2 + 1)) (sgC g c, i) = (sgC g (l.foldl (fun (x : CmD × Nat) m => ((comN N k 1 f m x.1).emit f [(13, (x.2 + 1) % 65536)], x.2 + 1)) (c, i)).1, (l.foldl (fun (x : CmD × Nat) m => ((comN N k 1 f m x.1).emit f [(13, (x.2 + 1) % 65536)], x.2 + 1)) (c, i)).2) := by
          intro l
          induction l with
          | nil => intro c i; rfl
          | cons x l ihl =>
            intro c i
            rw [List.foldl_cons, List.foldl_cons]
            simp only [ih, sg_emit]
            exact ihl _ _
        have hpar : ∀ (h : Nat) (l : List Nat) (c : CmD), l.foldl (fun c m => c.declare h (N.getD m nd0).s) (sgC g c) = sgC g (l.foldl (fun c m => c.declare h (N.getD m nd0).s) c) := fun h l c => sg_foldl (fun c m => sg_declare c h _) l c
        by_cases q15 : d.k = 15
        · simp (config := {decide := true}) only [q15, if_true, if_false, sgN_15 d q15, sg_conN hi, sg_emit]
        · simp only [sgN_n d q15, ih, sg_emit, sg_conS hi, sg_variable hi, sg_fresh, hpar, sg_jump, sg_land, sg_here, hfold]
          have hup : ∀ (h : Nat) (c : CmD) (v : Nat), ((sgC g c).upd h fun x => { x with np := v }) = sgC g (c.upd h fun x => { x with np := v }) := fun h c v => sg_upd _ _ _ fun _ => rfl
          simp only [hup, ih, sg_emit]
          simp only [apply_ite (sgC g)]
          rw [if_neg q15, if_neg q15]
      · rw [if_neg t1, if_neg t1]
        by_cases t2 : task = 2
        · rw [if_pos t2, if_pos t2, ih, sg_foldl (v := fun c m => comN N k 1 f m c) (fun c m => ih 1 f m c), sg_emit]
        · rw [if_neg t2, if_neg t2, sg_foldl (v := fun c m => comN N k 0 f m c) (fun c m => ih 0 f m c), sg_locals, sg_leave]
theorem comP_map (hi : ∀ a b, g a = g b → a = b) (h1 : g one64 = one64) (N : List Nd) (root : Nat) : comP (N.map (sgN g)) root = sgC g (comP N root) := by
  unfold comP
  have h0 : cm00.fresh 0 none = sgC g (cm00.fresh 0 none) := by rw [← sg_fresh]; congr 1
  rw [List.length_map, h0, com_map hi h1, sg_emit, ← h0]
end
end Go.Proofs.Qxb6500574aGreatDoor
