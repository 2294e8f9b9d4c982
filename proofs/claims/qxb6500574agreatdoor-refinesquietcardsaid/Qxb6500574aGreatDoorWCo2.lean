/-
  moon: THE COMPILER: what a step leaves. Plain; no memory, no walk.
-/
import Derived.Test.Qxb6500574aGreatDoorWCo1
namespace Go.Proofs.Qxb6500574aGreatDoor
set_option linter.unusedVariables false
set_option linter.unusedSimpArgs false
/-- from c to c' while f is compiled within r; the functions a + 1 .. b are new -/
structure Gr (f : Nat) (r : En) (a b : Nat) (c c' : CmD) : Prop where
  ab : a ≤ b
  len : c'.fns.length = c.fns.length
  np : c.np = a + 1 → c'.np = b + 1
  out : ∀ g, g ≠ f → (∀ e ∈ r, e.1 ≠ g) → ¬ (a < g ∧ g ≤ b) → c'.fn g = c.fn g
  anc : ∀ e ∈ r, c'.fn e.1 = { c.fn e.1 with ups := (c'.fn e.1).ups }
  ups : (c.fn f).ups <+: (c'.fn f).ups
  upr : ∀ e ∈ r, (c.fn e.1).ups <+: (c'.fn e.1).ups
  cons : (c.fn f).consts <+: (c'.fn f).consts
  ns : (c.fn f).nslots ≤ (c'.fn f).nslots
  npf : (c'.fn f).np = (c.fn f).np
  par : (c'.fn f).parent = (c.fn f).parent
/-- D is the end: what c has of f and of those around stays, a + 1 .. b stand -/
structure Ex (D c : CmD) (f : Nat) (r : En) (a b : Nat) : Prop where
  full : ∀ g, a < g → g ≤ b → D.fn g = c.fn g
  ups : (c.fn f).ups <+: (D.fn f).ups
  upr : ∀ e ∈ r, (c.fn e.1).ups <+: (D.fn e.1).ups
  cons : (c.fn f).consts <+: (D.fn f).consts
  ns : (c.fn f).nslots ≤ (D.fn f).nslots
section
variable {f a b b1 : Nat} {r : En} {c c1 c2 c' D : CmD}
theorem Gr.trans (h : Gr f r a b1 c c1) (g : Gr f r b1 b c1 c2) : Gr f r a b c c2 := by
  have i1 := h.ab
  have i2 := g.ab
  refine ⟨by omega, g.len.trans h.len, fun e => g.np (h.np e), fun x h1 h2 h3 => (g.out x h1 h2 (by omega)).trans (h.out x h1 h2 (by omega)), fun e he => ?_, h.ups.trans g.ups, fun e he => (h.upr e he).trans (g.upr e he), h.cons.trans g.cons, Nat.le_trans h.ns g.ns, g.npf.trans h.npf, g.par.trans h.par⟩
  have h1 := g.anc e he
  have h2 := h.anc e he
  rw [h1]
  rw [h2]
theorem Gr.refl (f : Nat) (r : En) (a : Nat) (c : CmD) : Gr f r a a c c := ⟨Nat.le_refl _, rfl, id, fun _ _ _ _ => rfl, fun _ _ => rfl, List.prefix_refl _, fun _ _ => List.prefix_refl _, List.prefix_refl _, Nat.le_refl _, rfl, rfl⟩
theorem Ex.sub (h : Ex D c f r a b) (ha : a ≤ b1) : Ex D c f r b1 b := ⟨fun g h1 h2 => h.full g (by omega) h2, h.ups, h.upr, h.cons, h.ns⟩
theorem Ex.back (h : Ex D c2 f r a b) (g : Gr f r b1 b c1 c2) (ha : a ≤ b1) (hf : f ≤ a) (hr : ∀ e ∈ r, e.1 < f) : Ex D c1 f r a b1 := by
  have i1 := g.ab
  refine ⟨fun x h1 h2 => ?_, g.ups.trans h.ups, fun e he => (g.upr e he).trans (h.upr e he), g.cons.trans h.cons, Nat.le_trans g.ns h.ns⟩
  rw [h.full x h1 (by omega)]
  exact g.out x (by omega) (fun e he => by have := hr e he; omega) (by omega)
end
/-- the step's law, but for code and loops -/
structure Po (f : Nat) (L L' : List Bs) (r : En) (a b : Nat) (c c' : CmD) (kc : Nat) : Prop where
  gr : Gr f r a b c c'
  iv : Inv c' ((f, L') :: r)
  cn : (c'.fn f).consts.length ≤ (c.fn f).consts.length + kc
section
variable {f a b b1 k1 k2 : Nat} {r : En} {L L1 L2 L' : List Bs} {c c1 c2 c' D : CmD}
theorem Po.trans (h : Po f L L1 r a b1 c c1 k1) (g : Po f L1 L2 r b1 b c1 c2 k2) : Po f L L2 r a b c c2 (k1 + k2) := ⟨h.gr.trans g.gr, g.iv, by have := h.cn; have := g.cn; omega⟩
theorem Po.refl (a : Nat) (I : Inv c ((f, L) :: r)) : Po f L L r a a c c 0 := ⟨Gr.refl _ _ _ _, I, Nat.le_refl _⟩
theorem Po.upd (a : Nat) (I : Inv c ((f, L) :: r)) (u : FnD → FnD) (hL : (u (c.fn f)).locals = L') (hu : (u (c.fn f)).ups = (c.fn f).ups) (hp : (u (c.fn f)).parent = (c.fn f).parent) (hn : (u (c.fn f)).np = (c.fn f).np)
    (hs : (c.fn f).nslots ≤ (u (c.fn f)).nslots ∧ L'.length ≤ (u (c.fn f)).nslots ∧ (u (c.fn f)).nslots ≤ 12) (hc : (c.fn f).consts <+: (u (c.fn f)).consts ∧ CnOk (u (c.fn f)).consts ∧ (u (c.fn f)).consts.length ≤ (c.fn f).consts.length + k1) : Po f L L' r a a c (c.upd f u) k1 := by
  have hlt : f < c.fns.length := I.lt
  have hfe := fn_upd c hlt u
  have hself : (c.upd f u).fn f = u (c.fn f) := by rw [hfe, if_pos rfl]
  have hr : ∀ e ∈ r, e.1 < f := I.1.2.2.2
  have hoth : ∀ e ∈ r, (c.upd f u).fn e.1 = c.fn e.1 := fun e he => by rw [hfe, if_neg (by have := hr e he; omega)]
  refine ⟨⟨Nat.le_refl _, upd_len _ _ _, fun e => e, fun g h1 _ _ => by rw [hfe, if_neg h1], fun e he => by rw [hoth e he], by rw [hself, hu]; exact List.prefix_refl _, fun e he => by rw [hoth e he]; exact List.prefix_refl _, by rw [hself]; exact hc.1, by rw [hself]; exact hs.1, by rw [hself]; exact hn, by rw [hself]; exact hp⟩, ?_, by rw [hself]; exact hc.2.2⟩
  refine ⟨⟨I.1.1, by rw [hself]; exact hL, by rw [hself, hp]; exact I.1.2.2.1, hr⟩, by rw [hself]; exact hs.2, ?_, by rw [hself]; exact hc.2.1, I.tail.congr (upd_len _ _ _) hoth⟩
  rw [hself, hu]
  have := I.2.2.1
  cases r with
  | nil => exact this
  | cons g r =>
    refine ⟨this.1, fun d hd => ?_⟩
    rw [hoth g (by simp)]
    exact this.2 d hd
theorem Inv.loc (I : Inv c ((f, L) :: r)) : (c.fn f).locals = L := I.1.2.1
theorem Inv.l12 (I : Inv c ((f, L) :: r)) : L.length ≤ 12 := Nat.le_trans I.2.1.1 I.2.1.2
/-- a turn of the code and the loops alone -/
theorem Po.code (a : Nat) (I : Inv c ((f, L) :: r)) (u : FnD → FnD) (h : u (c.fn f) = { c.fn f with code := (u (c.fn f)).code, loops := (u (c.fn f)).loops }) : Po f L L r a a c (c.upd f u) 0 :=
  Po.upd a I u (by rw [h]; exact I.loc) (by rw [h]) (by rw [h]) (by rw [h]) (by rw [h]; exact ⟨Nat.le_refl _, I.2.1⟩) (by rw [h]; exact ⟨List.prefix_refl _, I.2.2.2.1, Nat.le_refl _⟩)
theorem Po.emit (a : Nat) (I : Inv c ((f, L) :: r)) (l : List In) : Po f L L r a a c (c.emit f l) 0 := Po.code a I _ rfl
theorem emit_code (I : Inv c ((f, L) :: r)) (l : List In) : ((c.emit f l).fn f).code = (c.fn f).code ++ l ∧ ((c.emit f l).fn f).loops = (c.fn f).loops := by
  unfold CmD.emit
  rw [fn_upd c I.lt, if_pos rfl]
  exact ⟨rfl, rfl⟩
theorem Po.land (a : Nat) (I : Inv c ((f, L) :: r)) (p : Nat) : Po f L L r a a c (c.land f p) 0 := Po.code a I _ rfl
theorem land_code (I : Inv c ((f, L) :: r)) (p : Nat) : ((c.land f p).fn f).code = landL (c.fn f).code p ((c.fn f).code.length % 65536) ∧ ((c.land f p).fn f).loops = (c.fn f).loops := by
  unfold CmD.land
  rw [fn_upd c I.lt, if_pos rfl]
  exact ⟨rfl, rfl⟩
theorem Po.open_ (a : Nat) (I : Inv c ((f, L) :: r)) (base : Nat) : Po f L L r a a c (c.open_ f base) 0 := Po.code a I _ rfl
theorem open_code (I : Inv c ((f, L) :: r)) (base : Nat) : ((c.open_ f base).fn f).code = (c.fn f).code ∧ ((c.open_ f base).fn f).loops = (c.fn f).loops ++ [⟨base, []⟩] := by
  unfold CmD.open_
  rw [fn_upd c I.lt, if_pos rfl]
  exact ⟨rfl, rfl⟩
theorem fold_lands (a : Nat) : ∀ (hs : List Nat) (c : CmD), Inv c ((f, L) :: r) → Po f L L r a a c (hs.foldl (fun c p => c.land f p) c) 0 ∧ ((hs.foldl (fun c p => c.land f p) c).fn f).code = hs.foldl (fun l p => landL l p ((c.fn f).code.length % 65536)) (c.fn f).code ∧ ((hs.foldl (fun c p => c.land f p) c).fn f).loops = (c.fn f).loops := by
  intro hs
  induction hs with
  | nil => intro c I; exact ⟨Po.refl a I, rfl, rfl⟩
  | cons h hs ih =>
    intro c I
    have p1 := Po.land a I h
    obtain ⟨c1, c2⟩ := land_code I h
    obtain ⟨q1, q2, q3⟩ := ih _ p1.iv
    refine ⟨p1.trans q1, ?_, q3.trans c2⟩
    rw [List.foldl_cons, List.foldl_cons, q2, c1, landL_len]
/-- a loop shuts: its breaks land here -/
theorem Po.shut (a : Nat) (I : Inv c ((f, L) :: r)) : Po f L L r a a c (c.shut f) 0 ∧ ((c.shut f).fn f).code = ((c.fn f).loops.getLastD ⟨0, []⟩).breaks.foldl (fun l p => landL l p ((c.fn f).code.length % 65536)) (c.fn f).code ∧ ((c.shut f).fn f).loops = (c.fn f).loops.dropLast := by
  unfold CmD.shut
  have p1 : Po f L L r a a c (c.upd f fun d => { d with loops := d.loops.dropLast }) 0 := Po.code a I _ rfl
  have e := fn_upd c I.lt (fun d => { d with loops := d.loops.dropLast }) f
  rw [if_pos rfl] at e
  obtain ⟨q1, q2, q3⟩ := fold_lands a ((c.fn f).loops.getLastD ⟨0, []⟩).breaks _ p1.iv
  refine ⟨p1.trans q1, ?_, ?_⟩
  · rw [q2, e]
  · rw [q3, e]
theorem Po.declare (a : Nat) (I : Inv c ((f, L) :: r)) (s : Bs) (h : L.length + 1 ≤ 12) : Po f L (L ++ [s]) r a a c (c.declare f s) 0 := by
  have hL := I.loc
  refine Po.upd a I _ (by rw [hL]) rfl rfl rfl ?_ ⟨List.prefix_refl _, I.2.2.2.1, Nat.le_refl _⟩
  have := I.2.1
  simp only [hL, List.length_append, List.length_singleton]
  simp only at this
  omega
theorem declare_code (I : Inv c ((f, L) :: r)) (s : Bs) : ((c.declare f s).fn f).code = (c.fn f).code ∧ ((c.declare f s).fn f).loops = (c.fn f).loops := by
  unfold CmD.declare
  rw [fn_upd c I.lt, if_pos rfl]
  exact ⟨rfl, rfl⟩
theorem Po.bind (a : Nat) (I : Inv c ((f, L) :: r)) (s : Bs) (h : L.length + 1 ≤ 12) : Po f L (L ++ [s]) r a a c (c.bind f s) 0 ∧ ((c.bind f s).fn f).code = (c.fn f).code ++ [(6, L.length)] ∧ ((c.bind f s).fn f).loops = (c.fn f).loops := by
  unfold CmD.bind
  have p1 := Po.declare a I s h
  obtain ⟨c1, c2⟩ := declare_code I s
  obtain ⟨c3, c4⟩ := emit_code p1.iv [(6, (c.fn f).locals.length % 65536)]
  refine ⟨p1.trans (Po.emit a p1.iv _), ?_, by rw [c4, c2]⟩
  rw [c3, c1, I.loc, Nat.mod_eq_of_lt (by omega)]
theorem Po.leave (a : Nat) (I : Inv c ((f, L) :: r)) (base : Nat) : Po f L (L.take base) r a a c (c.leave f base) 0 ∧ ((c.leave f base).fn f).code = (c.fn f).code ++ (if base < L.length then [(29, base)] else []) ∧ ((c.leave f base).fn f).loops = (c.fn f).loops := by
  unfold CmD.leave
  rw [I.loc]
  have h12 := I.l12
  split
  · rename_i h
    have p1 := Po.emit a I [(29, base % 65536)]
    obtain ⟨c1, c2⟩ := emit_code I [(29, base % 65536)]
    have hns := p1.iv.2.1
    simp only at hns
    have p2 : Po f L (L.take base) r a a (c.emit f [(29, base % 65536)]) ((c.emit f [(29, base % 65536)]).upd f fun d => { d with locals := d.locals.take base }) 0 :=
      Po.upd a p1.iv _ (by rw [p1.iv.loc]) rfl rfl rfl ⟨Nat.le_refl _, by rw [List.length_take]; exact Nat.le_trans (Nat.min_le_right _ _) hns.1, hns.2⟩ ⟨List.prefix_refl _, p1.iv.2.2.2.1, Nat.le_refl _⟩
    have e := fn_upd (c.emit f [(29, base % 65536)]) p1.iv.lt (fun d => { d with locals := d.locals.take base }) f
    rw [if_pos rfl] at e
    refine ⟨p1.trans p2, ?_, ?_⟩
    · rw [e]; simp only; rw [c1, Nat.mod_eq_of_lt (by omega)]
    · rw [e]; exact c2
  · rename_i h
    refine ⟨?_, by simp, rfl⟩
    rw [List.take_of_length_le (by omega)]
    exact Po.refl a I
theorem same_iff {x y : Vl} : x.same y = true ↔ x = y := by
  unfold Vl.same
  constructor
  · intro h
    simp only [Bool.and_eq_true, beq_iff_eq] at h
    obtain ⟨⟨h1, h2⟩, h3⟩ := h
    cases x; cases y
    simp only at h1 h2 h3
    rw [h1, h2, h3]
  · intro h
    subst h
    simp
/-- a constant -/
theorem Po.const (a : Nat) (I : Inv c ((f, L) :: r)) (v : Vl) (hv : v.ok) (hc : (c.fn f).consts.length < 65536) : Po f L L r a a c (c.const f v).1 1 ∧ ((c.const f v).1.fn f).code = (c.fn f).code ∧ ((c.const f v).1.fn f).loops = (c.fn f).loops ∧ ((c.const f v).1.fn f).consts[(c.const f v).2]? = some v := by
  unfold CmD.const
  split
  · rename_i k hk
    obtain ⟨h1, h2, _⟩ := List.findIdx?_eq_some_iff_getElem.1 hk
    have p := Po.refl a I
    refine ⟨⟨p.gr, p.iv, by simp⟩, rfl, rfl, ?_⟩
    rw [List.getElem?_eq_getElem h1]
    exact congrArg some (same_iff.1 h2)
  · rename_i hk
    have hno : ∀ x ∈ (c.fn f).consts, x ≠ v := fun x hx e => by
      have := List.findIdx?_eq_none_iff.1 hk x hx
      rw [same_iff.2 e] at this
      cases this
    have e := fn_upd c I.lt (fun d => { d with consts := d.consts ++ [v] }) f
    rw [if_pos rfl] at e
    refine ⟨Po.upd (L' := L) (k1 := 1) a I (fun d => { d with consts := d.consts ++ [v] }) I.loc rfl rfl rfl ⟨Nat.le_refl _, I.2.1⟩ ⟨List.prefix_append _ _, ⟨?_, fun x hx => ?_⟩, Nat.le_of_eq (List.length_append ..)⟩, by rw [e], by rw [e], ?_⟩
    · rw [List.nodup_append]
      refine ⟨I.2.2.2.1.nd, by simp, fun x hx y hy => ?_⟩
      rw [List.mem_singleton.1 hy]
      exact hno x hx
    · rcases List.mem_append.1 hx with hx | hx
      · exact I.2.2.2.1.ok x hx
      · rw [List.mem_singleton.1 hx]; exact hv
    · rw [e]
      simp only
      rw [Nat.mod_eq_of_lt hc]
      simp
/-- a look for an upvalue -/
theorem Po.up (a : Nat) (I : Inv c ((f, L) :: r)) {s : Bs} (hs : s ≠ []) : Po f L L r a a c (upN c s 20 f).1 0 ∧ ((upN c s 20 f).1.fn f).code = (c.fn f).code ∧ ((upN c s 20 f).1.fn f).loops = (c.fn f).loops ∧ (∀ k, (upN c s 20 f).2 = some k → k < 144) ∧ ∀ D, Ex D (upN c s 20 f).1 f r a a → UpR D ((f, L) :: r) s (upN c s 20 f).2 := by
  have hd := I.depth
  have hf := I.1.1
  simp only at hd hf
  have P := up_ok hs 20 c (f, L) r I (by omega)
  generalize upN c s 20 f = U at P
  obtain ⟨c1, o⟩ := U
  have hself := P.gr.sm f
  simp only at hself
  refine ⟨⟨⟨Nat.le_refl _, P.gr.len, fun e => P.gr.np.trans e, fun g h1 h2 _ => P.gr.out g fun e he => ?_, fun e he => P.gr.sm e.1, P.gr.pre f, fun e he => P.gr.pre e.1, ?_, ?_, ?_, ?_⟩, P.iv, ?_⟩, ?_, ?_, fun k hk => ?_, fun D hD => P.up D fun e he => ?_⟩
  · rcases List.mem_cons.1 he with rfl | he
    · exact fun e => h1 e.symm
    · exact h2 e he
  · rw [hself]; exact List.prefix_refl _
  · rw [hself]; exact Nat.le_refl _
  · rw [hself]
  · rw [hself]
  · rw [hself]; exact Nat.le_refl _
  · rw [hself]
  · rw [hself]
  · have := P.lt k hk _ rfl
    have := P.iv.ups144
    simp only at *
    omega
  · rcases List.mem_cons.1 he with rfl | he
    · exact hD.ups
    · exact hD.upr e he
end
end Go.Proofs.Qxb6500574aGreatDoor
