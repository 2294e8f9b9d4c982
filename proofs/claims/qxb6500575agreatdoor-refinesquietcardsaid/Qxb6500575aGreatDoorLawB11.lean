/-
  BOTH MACHINES: calls; THE LAW. No program.
-/
import Derived.Test.Qxb6500575aGreatDoorLawB10
namespace Go.Proofs.Qxb6500575aGreatDoor
open Go Go.RowKit
set_option linter.unusedVariables false
set_option linter.unusedSimpArgs false

theorem zeros_tyB {ls : List UInt8} (h : TyL ls) : (zeros ls).reverse.map V.ty = ls := by
  unfold zeros
  rw [List.reverse_reverse, List.map_map]
  conv => rhs; rw [← List.map_id ls]
  apply List.map_congr_left
  intro t ht
  rcases h t ht with rfl | rfl <;> rfl
theorem zeros_fit (ls : List UInt8) : FitL (zeros ls) := by
  intro v hv
  unfold zeros at hv
  simp only [List.mem_reverse, List.mem_map] at hv
  obtain ⟨t, _, rfl⟩ := hv
  split <;> (unfold V.Fits; simp)
section
variable {A : Px} {μ : Nat}
/-- a task of kind 2 -/
structure Tk2 (f : Nat) (rest : List FF) (t : Tk) : Prop where
  k : t.k = 2
  f : t.f = f
  depth : t.depth = rest.length + 1
/-- the call is over: the frame f1 has been left, its results lie on the stack -/
def Done (A : Px) (k : FC HS) (f : Nat) (u : FunD) (rest : List FF) (low : List V) (o : Ot) : Prop :=
  o.e = 0 ∧ o.br = -1 ∧ ∃ f1, LeftF A.P A.H A.fuel A.max k f1 rest o.m ∧ CoM A.I A.fuel A.max o.m ∧ f1.fn = f ∧ o.m.x.st = f1.ops.take u.results.length ++ low ∧ (f1.ops.take u.results.length).map V.ty = u.results.reverse ∧ FitL (f1.ops.take u.results.length) ∧ k.used ≤ o.m.x.used
theorem invoke_law (hA : PxOk A) (ih : SeqLaw A μ) {f : Nat} {u : FunD} {src : List Ins} {C : List Flat} (hF : FnB A.P A.srcs f u src C) {k : FC HS} {m : MS} {a low : List V} {rest : List FF} (hfr : k.fr = ⟨f, 0, [], zeros u.locals ++ a⟩ :: rest) (hst : m.x.st = a ++ low) (hty : a.map V.ty = u.params.reverse) (hfa : FitL a) (hcom : CoM A.I A.fuel A.max m) (hco : Co A.max k m) (hr4 : rest.length < 4) (hlw : low.length ≤ 27 * rest.length) (hlf : FitL low) (hμ : (A.fuel - k.used).toNat * 100 + src.length ≤ μ) {tk : Tk} (hT : Tk2 f rest tk) :
    ∃ N o, A.run N tk m = some o ∧ (Trap A k o ∨ Done A k f u rest low o) := by
  obtain ⟨s0, c0, hsf, hnx⟩ := hF.body.all 0 hF.len.2
  have hs0 : s0 = Mk.start u.results := by
    have := hsf.st
    simp [stateM] at this
    exact this.symm
  have hps := hF.ps
  have hal : a.length = u.params.length := by have := congrArg List.length hty; simpa using this
  have hbod := hF.body
  have htl : TyL u.locals := fun t ht => hbod.ty.loc t (by simp [ht])
  have hloc : (zeros u.locals ++ a).reverse.map V.ty = u.params ++ u.locals := by
    rw [List.reverse_append, List.map_append, zeros_tyB htl, List.map_reverse, hty, List.reverse_reverse]
  have hbt : resOf (bt0 u.results) = u.results := resOf_bt0 hps.2.1 (fun x hx e => by
    rcases hbod.ty.res x hx with h | h <;> rw [h] at e <;> exact absurd e (by decide))
  have hN : NowB A ⟨f, u, src, rest, low⟩ C 0 s0 c0 k (m.st low) [] (zeros u.locals ++ a) :=
    { F := hF, sf := hsf
      live := by rw [hs0]; exact ⟨fun t ht => by simp [Mk.start] at ht; subst ht; rfl, fun x hx => by simp [Mk.start] at hx⟩
      inf := ⟨hfr, by rw [hs0]; rfl, fun v hv => by simp at hv, hloc, FitL.app.2 ⟨zeros_fit _, hfa⟩⟩
      com := ⟨hcom.fuel, hcom.memOk, hcom.inv, hcom.us⟩
      co := ⟨hco.used, hco.n, hco.mem, hco.hs, hco.max⟩
      st := rfl, r4 := hr4, lw := hlw, lf := hlf }
  have htake : m.x.st.take u.params.length = a := by rw [hst, ← hal, List.take_left' rfl]
  have hdrop : m.x.st.drop u.params.length = low := by rw [hst, ← hal, List.drop_left' rfl]
  obtain ⟨N, o, h1, h2⟩ := ih ⟨f, u, src, rest, low⟩ C 0 s0 c0 k (m.st low) [] (zeros u.locals ++ a) hN (by simpa using hμ) { tk with k := 0, src := src, i := 0, loc := zeros u.locals ++ a } ⟨rfl, rfl, rfl, rfl, hT.depth⟩
  have h1 : srun A.P A.srcs A.H A.max N { tk with k := 0, src := src, i := 0, loc := zeros u.locals ++ a } (m.st low) = some o := h1
  rw [hT.f] at h1
  have hargs : argsOk u.params m.x.st = true := by
    unfold argsOk
    rw [htake, hty]
    simp only [true_and, decide_eq_true_eq]
    rw [hst, List.length_append]; omega
  have S : srun A.P A.srcs A.H A.max (N + 1) tk m = (if o.e ≠ 0 then some ⟨-1, o.e, o.loc, o.m⟩ else if 0 < o.br then none else
      (match cutV low.length u.results.length (if o.br = -2 then o.m else o.m.bump).x.st with
        | none => none
        | some s => if (s.take u.results.length).map V.ty = u.results.reverse then some ⟨-1, 0, o.loc, (if o.br = -2 then o.m else o.m.bump).st s⟩ else none)) := by
    rw [srun, if_neg (by rw [hT.k]; decide), if_neg (by rw [hT.k]; decide)]
    unfold sinvoke
    rw [hT.f, hF.u, hF.src]
    simp only
    rw [if_neg (by rw [hargs]; have := hF.imp; simp; omega), htake, hdrop]
    rw [h1]
    rfl
  -- the end of the body: the flat machine leaves
  have leave : ∀ (k' : FC HS) (mo : MS) (ops' loc' : List V) (j : Nat), fsteps A.P A.H A.fuel j k = some k' → Co A.max k' mo → k'.fr = ⟨f, posM src (src.length - 1), ops', loc'⟩ :: rest → LeftF A.P A.H A.fuel A.max k ⟨f, posM src (src.length - 1), ops', loc'⟩ rest mo.bump := by
    intro k' mo ops' loc' j hj hco' hfr'
    obtain ⟨sl, cl, hsl, _⟩ := hF.body.all (src.length - 1) (by have := hF.len.2; omega)
    have h5 : cl.op = 5 := by
      by_cases h5 : cl.op = 5
      · exact h5
      · have := hsl.nlast h5
        have := hF.len.2
        omega
    have hl1 := (hsl.last h5).2 (by have := hF.len.2; omega)
    have hem : emitM sl src (src.length - 1) cl = [⟨5, cl.imm, 0, 0⟩] := by
      unfold emitM
      rw [if_neg (by omega), if_neg (by omega), if_neg (by omega), if_pos h5]
      cases hcs : sl.cs with
      | nil => rw [hcs] at hl1; simp at hl1
      | cons t r =>
        have : r = [] := by rw [hcs] at hl1; simpa using hl1
        subst this
        rfl
    have hC := hF.body.code0 hsl hem
    have hround := fround_free (A := A) hfr' hF.code hC (.inr rfl)
    have hex : fexec A.P A.H C ⟨5, cl.imm, 0, 0⟩ ⟨f, posM src (src.length - 1), ops', loc'⟩ rest k'.mem k'.max k'.s = fleave A.P ⟨f, posM src (src.length - 1), ops', loc'⟩ rest k'.mem k'.s := by
      unfold fexec
      rw [if_neg (by simp), if_neg (by simp), if_pos (.inl rfl)]
    rw [hex] at hround
    obtain ⟨d1, d2, d3⟩ := fleave_dn A.P ⟨f, posM src (src.length - 1), ops', loc'⟩ rest k'.mem k'.s
    refine ⟨j, k', hj, ?_⟩
    rw [hround]
    have e2 : mo.bump.mem = k'.mem := hco'.mem
    have e3 : mo.bump.x.hs = k'.s := hco'.hs
    have e4 : mo.bump.x.used = k'.used := hco'.used
    have e5 : mo.bump.x.n = wrap64 (k'.n + 1) := by show wrap64 (mo.x.n + 1) = _; rw [hco'.n]
    rw [e2, e3, e4, e5]
    unfold fafter
    rw [d1, d2, d3, w64w, hco'.max]
  have hcs0 : s0.cs = [⟨1, bt0 u.results, 0, -1, false⟩] := by rw [hs0]; rfl
  have hend : (endT src (-1)).toNat = src.length - 1 := by unfold endT; rw [if_neg (by decide)]; have := hF.len.2; omega
  rcases h2 with h | ⟨t, r, hcs, h⟩ | h | h
  · refine ⟨N + 1, ⟨-1, o.e, o.loc, o.m⟩, ?_, .inl h⟩
    show srun _ _ _ _ (N + 1) tk m = _
    rw [S, if_pos h.1]
  · rw [hcs0] at hcs
    cases hcs
    obtain ⟨h3, h4, j, k', ops', h5, h6, h7, h8, h9, h10⟩ := h
    simp only [hbt] at h8
    rw [hend] at h8
    have hops : ops'.map V.ty = u.results.reverse := by rw [h8.ty, hs0]; simp [Mk.start, cut]
    have hol : ops'.length = u.results.length := by have := congrArg List.length hops; simpa using this
    have htk : ops'.take u.results.length = ops' := List.take_of_length_le (by omega)
    have hcut : cutV low.length u.results.length (if o.br = -2 then o.m else o.m.bump).x.st = some (ops' ++ low) := by
      rw [if_neg (by rw [h4]; decide)]
      show cutV low.length u.results.length o.m.x.st = _
      rw [h9]
      have := cutV_at (ops := ops') (low := low) (ht := 0) (keep := u.results.length) (by omega) (by rw [List.length_append]; omega)
      rw [Nat.add_zero, Nat.sub_zero, htk, List.drop_eq_nil_of_le (Nat.le_refl _), List.append_nil] at this
      exact this
    refine ⟨N + 1, ⟨-1, 0, o.loc, o.m.bump.st (ops' ++ low)⟩, ?_, .inr ⟨rfl, rfl, ⟨f, posM src (src.length - 1), ops', o.loc⟩, ?_, ⟨h6.fuel, h6.memOk, h6.inv, h6.us⟩, rfl, ?_, ?_, ?_, ?_⟩⟩
    · show srun _ _ _ _ (N + 1) tk m = _
      rw [S, if_neg (by rw [h3]; simp), if_neg (by rw [h4]; decide), hcut]
      simp only
      rw [List.take_left' hol, if_pos hops, if_neg (by rw [h4]; decide)]
    · exact leave k' o.m ops' o.loc j h5 h7 h8.fr
    · show ops' ++ low = _; rw [htk]
    · simp only; rw [htk]; exact hops
    · simp only; rw [htk]; exact h8.fit
    · show k.used ≤ o.m.x.used; rw [h7.used]; exact h10
  · obtain ⟨h3, h4, f1, y, h5, h6, h7, h8, h9, h10, h11, h12⟩ := h
    have h8 : f1.ops.map V.ty = u.results.reverse ++ y := h8
    have h10 : o.m.x.st = f1.ops ++ low := h10
    obtain ⟨p, q, e1, e2, e3, e4⟩ := opsN h8
    rw [List.length_reverse] at e4
    have htk : f1.ops.take u.results.length = p := by rw [e1, List.take_left' e4]
    have hcut : cutV low.length u.results.length (if o.br = -2 then o.m else o.m.bump).x.st = some (p ++ low) := by
      rw [if_pos h4, h10]
      have := cutV_at (ops := f1.ops) (low := low) (ht := 0) (keep := u.results.length) (by rw [e1, List.length_append]; omega) (by rw [List.length_append]; omega)
      rw [Nat.add_zero, Nat.sub_zero, htk, List.drop_eq_nil_of_le (Nat.le_refl _), List.append_nil] at this
      exact this
    refine ⟨N + 1, ⟨-1, 0, o.loc, o.m.st (p ++ low)⟩, ?_, .inr ⟨rfl, rfl, f1, h5, ⟨h6.fuel, h6.memOk, h6.inv, h6.us⟩, h7, ?_, ?_, ?_, h11⟩⟩
    · show srun _ _ _ _ (N + 1) tk m = _
      rw [S, if_neg (by rw [h3]; simp), if_neg (by rw [h4]; decide), hcut]
      simp only
      rw [List.take_left' e4, if_pos e2, if_pos h4]
    · show p ++ low = _; rw [htk]
    · rw [htk]; exact e2
    · rw [htk]; exact fun v hv => h9 v (by rw [e1]; simp [hv])
  · obtain ⟨h3, l, t, j, k', ops', h4, h5, h6, h7, h8, h9, h10, h11, h12, h13, h14⟩ := h
    rw [hcs0] at h5
    have hl0 : l = 0 := by
      have := (List.getElem?_eq_some_iff.1 h5).1
      simp at this
      omega
    subst hl0
    simp at h5
    subst h5
    have hlab : (⟨1, bt0 u.results, 0, -1, false⟩ : Ctl).label = u.results := by unfold Ctl.label; simp [hbt]
    have hto : (⟨1, bt0 u.results, 0, -1, false⟩ : Ctl).to src = posM src (src.length - 1) := by unfold Ctl.to; simp only; rw [if_neg (by decide), hend]
    simp only [hlab, hto, Nat.sub_zero, List.drop_eq_nil_of_le (Nat.le_refl _), List.append_nil] at h9 h11
    have hops : (ops'.take u.results.length).map V.ty = u.results.reverse := by rw [h9.ty, hs0]; simp [Mk.start, cut]
    have htl : (ops'.take u.results.length).length = u.results.length := by rw [List.length_take]; omega
    have htk : (ops'.take u.results.length).take u.results.length = ops'.take u.results.length := List.take_of_length_le (by omega)
    have hbr : o.br = 0 := by rw [h4]; rfl
    have hcut : cutV low.length u.results.length (if o.br = -2 then o.m else o.m.bump).x.st = some (ops'.take u.results.length ++ low) := by
      rw [if_neg (by rw [hbr]; decide)]
      show cutV low.length u.results.length o.m.x.st = _
      rw [h10]
      have := cutV_at (ops := ops') (low := low) (ht := 0) (keep := u.results.length) (by omega) (by rw [List.length_append]; omega)
      rw [Nat.add_zero, Nat.sub_zero, List.drop_eq_nil_of_le (Nat.le_refl _), List.append_nil] at this
      exact this
    refine ⟨N + 1, ⟨-1, 0, o.loc, o.m.bump.st (ops'.take u.results.length ++ low)⟩, ?_, .inr ⟨rfl, rfl, ⟨f, posM src (src.length - 1), ops'.take u.results.length, o.loc⟩, ?_, ⟨h7.fuel, h7.memOk, h7.inv, h7.us⟩, rfl, ?_, ?_, ?_, ?_⟩⟩
    · show srun _ _ _ _ (N + 1) tk m = _
      rw [S, if_neg (by rw [h3]; simp), if_neg (by rw [hbr]; decide), hcut]
      simp only
      rw [List.take_left' htl, if_pos hops, if_neg (by rw [hbr]; decide)]
    · exact leave k' o.m _ o.loc j h6 h8 h9.fr
    · show ops'.take u.results.length ++ low = _; rw [htk]
    · simp only; rw [htk]; exact hops
    · simp only; rw [htk]; exact h9.fit
    · show k.used ≤ o.m.x.used; rw [h8.used]; omega
variable {X : Fx} {C : List Flat} {i : Nat} {s : Mk} {c : Ins} {k : FC HS} {m : MS} {ops loc : List V}
theorem seq_call (hA : PxOk A) (ih : SeqLaw A μ) (hN : NowB A X C i s c k m ops loc) (hμ : (A.fuel - k.used).toNat * 100 + (X.src.length - i) ≤ μ + 1) (h10 : c.op = 10) {tk : Tk} (hT : Tk0 X i loc tk) : ∃ N o, A.run N tk m = some o ∧ Res A X k s.cs s.st o := by
  have hok := okS_at hA hN (by unfold tyS; simp [h10])
  obtain ⟨u, y, hu0, e1, e2, hcs, hlv⟩ := live_call hN.F.body hN.sf hN.live h10
  have hu0 : A.P.funs[c.imm.toNat]? = some u := hu0
  have himm := well_imm hN.sf.wl (by omega)
  have hty := hN.inf.ty
  rw [e1] at hty
  obtain ⟨a, r, rfl, t1, t2, t3⟩ := opsN hty
  rw [List.length_reverse] at t3
  have hC := hN.F.body.code0 hN.sf (emit_plain (s := s) (i := i) (X := X) (c := c) (by omega))
  by_cases hu : ¬ k.used < A.fuel
  · exact seq_poor hN ⟨by omega, by omega, by omega⟩ hok hC ⟨by simp only; omega, by simp only; omega⟩ hu hT
  replace hu := Decidable.not_not.1 hu
  obtain ⟨hu', hpay⟩ := hN.rich hu
  have hm1 : ({ m with x := m.x.pay.1 } : MS) = m.paid := by rw [hpay]; rfl
  have hlt := (List.getElem?_eq_some_iff.1 hN.sf.at_).1
  have hlen := hN.len
  have hlw := hN.lw
  have hr4 := hN.r4
  obtain ⟨hfa, hfr⟩ := FitL.app.1 hN.inf.fit
  have hops3 := hA.prog.ps u (List.mem_of_getElem? hu0)
  have hst : m.paid.x.st = a ++ (r ++ X.low) := by show m.x.st = _; rw [hN.st, List.append_assoc]
  have htake : m.paid.x.st.take u.params.length = a := by rw [hst, ← t3, List.take_left' rfl]
  have hdrop : m.paid.x.st.drop u.params.length = r ++ X.low := by rw [hst, ← t3, List.drop_left' rfl]
  have hsc : tk.src[tk.i]? = some c := by rw [hT.src, hT.i]; exact hN.sf.at_
  have hex : fexec A.P A.H C ⟨c.op, c.imm, 0, 0⟩ ⟨X.fn, posM X.src i, a ++ r, loc⟩ X.rest k.mem k.max k.s = fcall A.P A.H ⟨c.op, c.imm, 0, 0⟩ ⟨X.fn, posM X.src i, a ++ r, loc⟩ X.rest k.mem k.s := by
    unfold fexec
    rw [if_neg (by simp only; omega), if_neg (by simp only; omega), if_neg (by simp only; omega), if_neg (by simp only; omega), if_neg (by simp only; omega), if_neg (by simp only; omega), if_pos h10]
  have hftk : (a ++ r).take u.params.length = a := by rw [← t3, List.take_left' rfl]
  have hfdr : (a ++ r).drop u.params.length = r := by rw [← t3, List.drop_left' rfl]
  unfold fcall at hex
  simp only [hu0, hftk, hfdr] at hex
  have hS : ∀ rec, sins A.P A.H A.max rec tk c m = (if c.imm < A.P.nimp then askS A.P A.H c.imm tk.loc m.paid
     else if 4 ≤ tk.depth then some ⟨-1, 14, tk.loc, m.paid⟩
     else match rec { tk with k := 2, f := c.imm.toNat, depth := tk.depth + 1 } m.paid with
      | none => none
      | some o => some { o with br := -1, loc := tk.loc }) := fun rec => by
    unfold sins
    rw [if_neg (by omega), if_neg (by rw [hpay]; simp), if_neg (by omega), if_pos h10, hm1]
    rfl
  obtain ⟨c', hsf'⟩ := hN.F.body.all.next hN.sf (hN.sf.nlast (by omega))
  obtain ⟨hab, _⟩ := one_flat hN.sf (by omega) (by omega) (by omega)
  have hpos := pos_next hN ⟨by omega, by omega, by omega, by omega⟩
  have hcop := hN.com.paid hu'
  by_cases himp : c.imm < A.P.nimp
  · rw [if_pos himp] at hex
    simp only [if_pos himp] at hS
    have hlim := hA.host.lim m.x.hs hN.com.inv
    have hargs : argsOk u.params m.paid.x.st = true := by
      unfold argsOk
      rw [htake, t1]
      simp only [true_and, decide_eq_true_eq]
      rw [hst, List.length_append, List.length_append]
      rw [List.length_append] at hlen
      omega
    obtain ⟨g1, g2, g3⟩ := hA.host.ans m.x.hs c.imm a.reverse u hN.com.inv hu0 himm himp (by rw [List.map_reverse, t1, List.reverse_reverse])
    have hq : askS A.P A.H c.imm tk.loc m.paid = (if (A.H m.x.hs c.imm a.reverse).2.1 = 0 then some ⟨-1, 0, tk.loc, { m.paid with x := { (m.paid.x.to (A.H m.x.hs c.imm a.reverse).1) with st := (A.H m.x.hs c.imm a.reverse).2.2.reverse ++ (r ++ X.low) } }⟩
        else some ⟨-1, (A.H m.x.hs c.imm a.reverse).2.1, tk.loc, { m.paid with x := { (m.paid.x.to (A.H m.x.hs c.imm a.reverse).1) with st := r ++ X.low } }⟩) := by
      unfold askS
      rw [hu0]
      simp only
      rw [if_neg (by rw [hargs]; have h6 : m.paid.x.asked ≤ 6 := hlim.1; have h7 : m.paid.x.trace.length ≤ 90000 := hlim.2; simp; omega), htake, hdrop]
      rfl
    have hhs : (m.paid.x.to (A.H m.x.hs c.imm a.reverse).1).hs = (A.H m.x.hs c.imm a.reverse).1 := by
      show (m.x.tape, (A.H m.x.hs c.imm a.reverse).1.2.1, (A.H m.x.hs c.imm a.reverse).1.2.2) = _
      have : (A.H m.x.hs c.imm a.reverse).1.1 = m.x.tape := g1
      rw [← this]
    rw [← hN.co.hs] at hex
    by_cases hz : (A.H m.x.hs c.imm a.reverse).2.1 = 0
    · rw [if_pos hz] at hex
      obtain ⟨k1, k2, k3⟩ := g2 hz
      have hstep := paid_step hN hC ⟨by simp only; omega, by simp only; omega⟩ hu (show fexec A.P A.H C ⟨c.op, c.imm, 0, 0⟩ ⟨X.fn, posM X.src i, a ++ r, loc⟩ X.rest k.mem k.max k.s = _ from by rw [← hN.co.hs]; exact hex)
      have hN2 : NowB A X C (i + 1) (s.one (A.E X) X.src i c).1 c' ⟨⟨X.fn, posM X.src i + 1, (A.H m.x.hs c.imm a.reverse).2.2.reverse ++ r, loc⟩ :: X.rest, k.used + 1, wrap64 (wrap64 (k.n + 1) + 0), k.mem, k.max, (A.H m.x.hs c.imm a.reverse).1⟩ { m.paid with x := { (m.paid.x.to (A.H m.x.hs c.imm a.reverse).1) with st := (A.H m.x.hs c.imm a.reverse).2.2.reverse ++ (r ++ X.low) } } ((A.H m.x.hs c.imm a.reverse).2.2.reverse ++ r) loc :=
        { F := hN.F, sf := hsf', live := hlv
          inf := { fr := by rw [hpos], ty := by rw [e2, List.map_append, List.map_reverse, k2, t2], fit := FitL.app.2 ⟨fun v hv => k3 v (by simpa using hv), hfr⟩, loc := hN.inf.loc }
          com := ⟨hN.com.fuel, hN.com.memOk, by show A.I (m.paid.x.to (A.H m.x.hs c.imm a.reverse).1).hs; rw [hhs]; exact k1, hcop.us⟩
          co := ⟨by show m.x.used + 1 = _; rw [hN.co.used], by show wrap64 (m.x.n + 1) = _; rw [hN.co.n, w64w], hN.co.mem, hhs, hN.co.max⟩
          st := by rw [List.append_assoc], r4 := hN.r4, lw := hN.lw, lf := hN.lf }
      obtain ⟨N, o, h1, h2⟩ := cont ih hN hN2 hcs (hab.cut hN.sf.hts) hstep (by show k.used ≤ k.used + 1; omega) (by omega) hμ (tk := { tk with i := tk.i + 1 }) ⟨hT.k, hT.src, by show tk.i + 1 = _; rw [hT.i], hT.loc, hT.depth⟩
      refine ⟨N + 1, o, srun_seq hT.k hsc (by omega) (by omega) (by rw [hT.loc]; exact hok) (by rw [hS, hq, if_pos hz]) (.inr ⟨rfl, rfl, ?_⟩), h2⟩
      rw [if_neg (by omega)]
      exact h1
    · rw [if_neg hz] at hex
      refine ⟨1, _, srun_seq (N := 0) hT.k hsc (by omega) (by omega) (by rw [hT.loc]; exact hok) (by rw [hS, hq, if_neg hz]) (.inl ⟨.inl hz, rfl⟩), .inl ⟨hz, ?_⟩⟩
      have := paid_trap hN hC ⟨by simp only; omega, by simp only; omega⟩ hu (show fexec A.P A.H C ⟨c.op, c.imm, 0, 0⟩ ⟨X.fn, posM X.src i, a ++ r, loc⟩ X.rest k.mem k.max k.s = _ from by rw [← hN.co.hs]; exact hex) ⟨hz, g3⟩
      rw [← hN.co.used, ← hN.co.n, hN.co.max, ← hN.co.mem] at this
      simp only
      rw [show ({ (m.paid.x.to (A.H m.x.hs c.imm a.reverse).1) with st := r ++ X.low } : ND).hs = (m.paid.x.to (A.H m.x.hs c.imm a.reverse).1).hs from rfl, hhs]
      exact this
  · rw [if_neg himp] at hex
    simp only [if_neg himp] at hS
    by_cases hd : X.rest.length + 1 < 4
    · rw [if_pos hd] at hex
      simp only [if_neg (show ¬ 4 ≤ tk.depth by rw [hT.depth]; omega)] at hS
      have hstep := paid_step hN hC ⟨by simp only; omega, by simp only; omega⟩ hu hex
      obtain ⟨u', src', C', hF'⟩ := hA.prog.fn c.imm.toNat (by omega) (List.getElem?_eq_some_iff.1 hu0).1
      have huu : u' = u := by have := hF'.u; rw [hu0] at this; exact (Option.some.inj this).symm
      subst huu
      have hl' := hF'.len.1
      rw [List.length_append] at hlen
      obtain ⟨N, o, h1, h2⟩ := invoke_law hA ih hF' (k := ⟨⟨c.imm.toNat, 0, [], zeros u'.locals ++ a⟩ :: ⟨X.fn, posM X.src i + 1, r, loc⟩ :: X.rest, k.used + 1, wrap64 (wrap64 (k.n + 1) + 0), k.mem, k.max, k.s⟩) (m := m.paid) (a := a) (low := r ++ X.low) (rest := ⟨X.fn, posM X.src i + 1, r, loc⟩ :: X.rest) rfl hst t1 hfa hcop
        ⟨by show m.x.used + 1 = _; rw [hN.co.used], by show wrap64 (m.x.n + 1) = _; rw [hN.co.n, w64w], hN.co.mem, hN.co.hs, hN.co.max⟩ (by simp; omega) (by rw [List.length_append, List.length_cons]; omega) (FitL.app.2 ⟨hfr, hN.lf⟩) (meas_call hu hl' hμ) (tk := { tk with k := 2, f := c.imm.toNat, depth := tk.depth + 1 }) ⟨rfl, rfl, by show tk.depth + 1 = _; rw [hT.depth, List.length_cons]; omega⟩
      have h1' : srun A.P A.srcs A.H A.max N { tk with k := 2, f := c.imm.toNat, depth := tk.depth + 1 } m.paid = some o := h1
      rcases h2 with h2 | h2
      · refine ⟨N + 1, { o with br := -1, loc := tk.loc }, srun_seq (o := { o with br := -1, loc := tk.loc }) hT.k hsc (by omega) (by omega) (by rw [hT.loc]; exact hok) (by rw [hS]; simp only [h1']) (.inl ⟨.inl h2.1, rfl⟩), .inl (Trap.pre hstep h2)⟩
      · obtain ⟨d1, d2, f1, d3, d4, d5, d6, d7, d8, d9⟩ := h2
        obtain ⟨j, k1, d10, d11⟩ := d3
        have hfl : fleave A.P f1 (⟨X.fn, posM X.src i + 1, r, loc⟩ :: X.rest) o.m.mem o.m.x.hs = ⟨0, ⟨X.fn, posM X.src i + 1, f1.ops.take u'.results.length ++ r, loc⟩ :: X.rest, [], o.m.mem, o.m.x.hs, 0⟩ := by
          unfold fleave
          rw [d5, hu0]
          rfl
        rw [hfl] at d11
        simp only [if_true] at d11
        have hsteps := fsteps_add _ _ _ _ _ (fsteps_add _ _ _ _ _ hstep d10) (fsteps_one d11)
        have hN2 : NowB A X C (i + 1) (s.one (A.E X) X.src i c).1 c' ⟨⟨X.fn, posM X.src i + 1, f1.ops.take u'.results.length ++ r, loc⟩ :: X.rest, o.m.x.used, o.m.x.n, o.m.mem, A.max, o.m.x.hs⟩ o.m (f1.ops.take u'.results.length ++ r) loc :=
          { F := hN.F, sf := hsf', live := hlv
            inf := { fr := by rw [hpos], ty := by rw [e2, List.map_append, d7, t2], fit := FitL.app.2 ⟨d8, hfr⟩, loc := hN.inf.loc }
            com := d4
            co := ⟨rfl, rfl, rfl, rfl, rfl⟩
            st := by rw [d6, List.append_assoc], r4 := hN.r4, lw := hN.lw, lf := hN.lf }
        have d9' : k.used + 1 ≤ o.m.x.used := d9
        obtain ⟨N2, o2, g1, g2⟩ := cont ih hN hN2 hcs (hab.cut hN.sf.hts) hsteps (by show k.used ≤ o.m.x.used; omega) (by omega) hμ (tk := { tk with i := tk.i + 1 }) ⟨hT.k, hT.src, by show tk.i + 1 = _; rw [hT.i], hT.loc, hT.depth⟩
        refine ⟨max N N2 + 1, o2, srun_seq (o := { o with br := -1, loc := tk.loc }) hT.k hsc (by omega) (by omega) (by rw [hT.loc]; exact hok) (by rw [hS]; simp only [srun_le (Nat.le_max_left N N2) h1']) (.inr ⟨d1, rfl, ?_⟩), g2⟩
        rw [if_neg (by omega)]
        exact srun_le (Nat.le_max_right N N2) g1
    · rw [if_neg hd] at hex
      simp only [if_pos (show 4 ≤ tk.depth by rw [hT.depth]; omega)] at hS
      refine ⟨1, _, srun_seq (N := 0) hT.k hsc (by omega) (by omega) (by rw [hT.loc]; exact hok) (by rw [hS]) (.inl ⟨.inl (by simp), rfl⟩), .inl ⟨by simp, ?_⟩⟩
      have := paid_trap hN hC ⟨by simp only; omega, by simp only; omega⟩ hu hex ⟨by decide, by decide⟩
      rw [← hN.co.used, ← hN.co.n, hN.co.max, ← hN.co.mem, ← hN.co.hs] at this
      exact this
theorem law_succ (hA : PxOk A) (ih : SeqLaw A μ) : SeqLaw A (μ + 1) := by
  intro X C i s c k m ops loc hN hμ tk hT
  obtain h | h | h | h | h | h | h | h | h | h | h : c.op = 5 ∨ c.op = 4 ∨ (c.op = 1 ∨ c.op = 2) ∨ c.op = 3 ∨ c.op = 6 ∨ c.op = 7 ∨ c.op = 8 ∨ c.op = 9 ∨ c.op = 10 ∨ (c.op = 0 ∨ 11 ≤ c.op) ∨ c.op < 0 := by omega
  · exact seq_end hN h hT
  · exact seq_else hN h hT
  · exact seq_block hA ih hN hμ h hT
  · exact seq_if hA ih hN hμ h hT
  · exact seq_br hA hN h hT
  · exact seq_brif hA ih hN hμ h hT
  · exact seq_tab hA hN h hT
  · exact seq_ret hA hN h hT
  · exact seq_call hA ih hN hμ h hT
  · exact seq_plain hA ih hN hμ h hT
  · exfalso
    have hw := hN.sf.wl
    unfold well at hw
    rw [if_neg (by omega)] at hw
    split at hw
    · cases hw
    rw [if_neg (by omega), if_neg (by omega), if_neg (by omega), if_neg (by omega), if_neg (by omega), if_pos (by omega)] at hw
    cases hw
theorem law (hA : PxOk A) : ∀ μ, SeqLaw A μ
  | 0 => by
    intro X C i s c k m ops loc hN hμ tk hT
    have := (List.getElem?_eq_some_iff.1 hN.sf.at_).1
    omega
  | μ + 1 => law_succ hA (law hA μ)
/-- THE PLAIN LAW: a call, both machines -/
theorem call_law (hA : PxOk A) {f : Nat} {u : FunD} {src : List Ins} {C : List Flat} (hF : FnB A.P A.srcs f u src C) {k : FC HS} {m : MS} {a : List V} (hfr : k.fr = [⟨f, 0, [], zeros u.locals ++ a⟩]) (hst : m.x.st = a) (hty : a.map V.ty = u.params.reverse) (hfa : FitL a) (hcom : CoM A.I A.fuel A.max m) (hco : Co A.max k m) {tk : Tk} (hT : Tk2 f [] tk) :
    ∃ N o, A.run N tk m = some o ∧ (Trap A k o ∨ (o.e = 0 ∧ FEnds A.P A.H A.fuel k ⟨1, o.m.x.st, ⟨[], o.m.x.used, o.m.x.n, o.m.mem, A.max, o.m.x.hs⟩⟩ ∧ o.m.x.st.map V.ty = u.results.reverse ∧ FitL o.m.x.st)) := by
  obtain ⟨N, o, h1, h2⟩ := invoke_law hA (law hA ((A.fuel - k.used).toNat * 100 + src.length)) hF (low := []) (rest := []) hfr (by rw [List.append_nil]; exact hst) hty hfa hcom hco (by simp) (by simp) (fun v hv => by cases hv) (Nat.le_refl _) hT
  refine ⟨N, o, h1, ?_⟩
  rcases h2 with h2 | h2
  · exact .inl h2
  · obtain ⟨d1, d2, f1, d3, d4, d5, d6, d7, d8, d9⟩ := h2
    obtain ⟨j, k1, d10, d11⟩ := d3
    rw [List.append_nil] at d6
    have hfl : fleave A.P f1 [] o.m.mem o.m.x.hs = ⟨1, [], f1.ops.take u.results.length, o.m.mem, o.m.x.hs, 0⟩ := by
      unfold fleave
      rw [d5, hF.u]
      rfl
    rw [hfl] at d11
    simp only [if_true] at d11
    rw [if_neg (by decide), ← d6] at d11
    exact .inr ⟨d1, FEnds.steps j k k1 d10 (FEnds.last d11 (by simp)), by rw [d6]; exact d7, by rw [d6]; exact d8⟩
end
end Go.Proofs.Qxb6500575aGreatDoor
