/-
  THE INVARIANT of the running machine: frames and values lie as the typing says. No program.
-/
import Derived.Test.Qxb6500575aGreatDoorLawT7
import Derived.Test.Qxb6500575aGreatDoorProgRep
import Derived.Test.Qxb6500575aGreatDoorRMem
namespace Go.Proofs.Qxb6500575aGreatDoor
open Go Go.RowKit
set_option linter.unusedVariables false
set_option linter.unusedSimpArgs false

/-- a program whose flat code is typed -/
structure ProgT (p : ProgD) (T : Nat → Typing) : Prop where
  clen : p.codes.length = p.funs.length
  flen : p.funs.length ≤ 6
  nimp : 0 ≤ p.nimp ∧ p.nimp ≤ 2
  fin : ∀ (f : Nat) u c, p.nimp ≤ f → p.funs[f]? = some u → p.codes[f]? = some c → FinT ⟨p.funs, u⟩ c (T f) ∧ c.length ≤ 144
  keep : ∀ (f : Nat) c, p.codes[f]? = some c → ∀ i ∈ c, 0 ≤ i.keep ∧ i.keep ≤ 1
  ps : ∀ u ∈ p.funs, u.params.length ≤ 3 ∧ u.results.length ≤ 1 ∧ u.locals.length ≤ 4 ∧ TyL u.params ∧ TyL u.results ∧ TyL u.locals
/-- the top frame, as it lies on the stack: pend: what is still to come -/
structure Lay (p : ProgD) (T : Nat → Typing) (r : Frm) (st : List V) (pend : List UInt8) (fn : Nat) (u : FunD) (c : List Flat) (pc : Nat) (ρ : List UInt8) (ops loc low : List V) : Prop where
  f : r.f = fn
  imp : p.nimp ≤ fn
  hu : p.funs[fn]? = some u
  hc : p.codes[fn]? = some c
  hpc : r.pc = pc
  typ : T fn pc = some (pend.reverse ++ ρ)
  hst : st = ops ++ (loc ++ low)
  hops : ops.map V.ty = ρ
  hloc : loc.map V.ty = (u.params ++ u.locals).reverse
  base : r.base = low.length
  floor : r.floor = loc.length + low.length
  res : r.res = u.results
def Chain (p : ProgD) (T : Nat → Typing) : List Frm → List V → List UInt8 → Prop
  | [], st, _ => st = []
  | r :: rs, st, pend => ∃ fn u c pc ρ ops loc low, Lay p T r st pend fn u c pc ρ ops loc low ∧ Chain p T rs low r.res
structure Good (p : ProgD) (T : Nat → Typing) (st : List V) (fr : List Frm) : Prop where
  fits : ∀ v ∈ st, v.Fits
  chain : Chain p T fr st []
  len : fr.length ≤ 4

section
variable {p : ProgD} {T : Nat → Typing} {r : Frm} {rs : List Frm} {st : List V} {pend : List UInt8} {fn : Nat} {u : FunD} {c : List Flat} {pc : Nat} {ρ : List UInt8} {ops loc low : List V}
theorem Lay.fin (hp : ProgT p T) (h : Lay p T r st pend fn u c pc ρ ops loc low) : FinT ⟨p.funs, u⟩ c (T fn) ∧ c.length ≤ 144 := hp.fin fn u c h.imp h.hu h.hc
theorem Lay.sig (hp : ProgT p T) (h : Lay p T r st pend fn u c pc ρ ops loc low) : u.params.length ≤ 3 ∧ u.results.length ≤ 1 ∧ u.locals.length ≤ 4 ∧ TyL u.params ∧ TyL u.results ∧ TyL u.locals := hp.ps u (List.mem_of_getElem? h.hu)
theorem Lay.lens (hp : ProgT p T) (h : Lay p T r st pend fn u c pc ρ ops loc low) : ops.length ≤ 24 ∧ loc.length ≤ 7 ∧ ops.length = ρ.length ∧ pend.length + ops.length ≤ 24 ∧ loc.length = u.params.length + u.locals.length := by
  have h1 := ((h.fin hp).1.ty pc _ h.typ).2
  have h2 := congrArg List.length h.hops
  have h3 := congrArg List.length h.hloc
  have h4 := h.sig hp
  simp at h1 h2 h3
  omega
theorem Chain.lens (hp : ProgT p T) : ∀ (fr : List Frm) (st : List V) (pend : List UInt8), Chain p T fr st pend → st.length ≤ 31 * fr.length
  | [], st, pend, h => by unfold Chain at h; subst h; simp
  | r :: rs, st, pend, h => by
    unfold Chain at h
    obtain ⟨fn, u, c, pc, ρ, ops, loc, low, h1, h2⟩ := h
    have := Chain.lens hp rs low _ h2
    have h3 := h1.lens hp
    rw [h1.hst]
    simp
    omega
theorem Good.top {r : Frm} {rs : List Frm} (h : Good p T st (r :: rs)) : ∃ fn u c pc ρ ops loc low, Lay p T r st [] fn u c pc ρ ops loc low ∧ Chain p T rs low r.res := by
  have := h.chain
  unfold Chain at this
  exact this
theorem Lay.at (hp : ProgT p T) (h : Lay p T r st [] fn u c pc ρ ops loc low) : ∃ i, c[pc]? = some i ∧ InsOk ⟨p.funs, u⟩ (fun _ imm ρ => 0 ≤ imm ∧ T fn imm.toNat = some ρ) (T fn) c pc i ρ ∧ 0 ≤ i.keep ∧ i.keep ≤ 1 := by
  have hT := h.typ
  simp at hT
  have hlt := (h.fin hp).1.dom pc _ hT
  refine ⟨c[pc], List.getElem?_eq_getElem hlt, (h.fin hp).1.ok pc _ _ (List.getElem?_eq_getElem hlt) hT, hp.keep fn c h.hc _ (List.getElem_mem hlt)⟩
/-- on within the frame -/
theorem Good.next (h : Good p T st (r :: rs)) (l : Lay p T r st [] fn u c pc ρ ops loc low) (hl : Chain p T rs low r.res) (ops' loc' : List V) (pc' : Nat) (hT : T fn pc' = some (ops'.map V.ty)) (hloc : loc'.map V.ty = loc.map V.ty) (hf : ∀ v ∈ ops', v.Fits) (hf' : ∀ v ∈ loc', v.Fits) : Good p T (ops' ++ (loc' ++ low)) ({ r with pc := pc' } :: rs) := by
  have hll : loc'.length = loc.length := by have := congrArg List.length hloc; simpa using this
  refine ⟨fun v hv => ?_, ?_, by have := h.len; simpa using this⟩
  · rcases List.mem_append.1 hv with hv | hv
    · exact hf v hv
    · rcases List.mem_append.1 hv with hv | hv
      · exact hf' v hv
      · exact h.fits v (by rw [l.hst]; simp [hv])
  · unfold Chain
    exact ⟨fn, u, c, pc', ops'.map V.ty, ops', loc', low, ⟨l.f, l.imp, l.hu, l.hc, rfl, by simpa using hT, rfl, rfl, by rw [hloc]; exact l.hloc, l.base, by simp only; rw [hll]; exact l.floor, l.res⟩, hl⟩
theorem Good.sub (h : Good p T st (r :: rs)) (l : Lay p T r st [] fn u c pc ρ ops loc low) : (∀ v ∈ ops, v.Fits) ∧ (∀ v ∈ loc, v.Fits) ∧ (∀ v ∈ low, v.Fits) :=
  ⟨fun v hv => h.fits v (by rw [l.hst]; simp [hv]), fun v hv => h.fits v (by rw [l.hst]; simp [hv]), fun v hv => h.fits v (by rw [l.hst]; simp [hv])⟩
/-- the declared locals, the top first -/
def zeros (ls : List UInt8) : List V := (ls.map fun t => if t = 105 then V.w 0 else .d 0).reverse
theorem zeros_ty {ls : List UInt8} (h : TyL ls) : (zeros ls).map V.ty = ls.reverse := by
  unfold zeros
  rw [List.map_reverse, List.map_map]
  congr 1
  induction ls with
  | nil => rfl
  | cons a l ih =>
    simp only [List.map_cons, Function.comp]
    rw [ih (fun t ht => h t (by simp [ht]))]
    rcases h a (by simp) with rfl | rfl <;> rfl
theorem zeros_fits (ls : List UInt8) : ∀ v ∈ zeros ls, v.Fits := by
  intro v hv
  simp [zeros] at hv
  obtain ⟨t, _, rfl⟩ := hv
  split <;> simp [V.Fits]
theorem zeros_len (ls : List UInt8) : (zeros ls).length = ls.length := by simp [zeros]
/-- a frame is opened -/
theorem Good.call (hp : ProgT p T) (h : Good p T st (r :: rs)) (l : Lay p T r st [] fn u c pc ρ ops loc low) (hl : Chain p T rs low r.res) (hn : rs.length + 1 < 4)
    (g : Nat) (u' : FunD) (hg : p.nimp ≤ g) (hu : p.funs[g]? = some u') {args ops0 : List V} (ho : ops = args ++ ops0) (ha : args.map V.ty = u'.params.reverse) (hT : T fn (pc + 1) = some (u'.results.reverse ++ ops0.map V.ty)) :
    Good p T (zeros u'.locals ++ st) ({ f := g, pc := 0, base := (ops0 ++ (loc ++ low)).length, floor := (zeros u'.locals ++ st).length, res := u'.results } :: { r with pc := (pc : Int) + 1 } :: rs) := by
  have hs : st = args ++ (ops0 ++ (loc ++ low)) := by rw [l.hst, ho]; simp
  have hlt : g < p.codes.length := by rw [hp.clen]; exact (List.getElem?_eq_some_iff.1 hu).1
  have hty := (hp.ps u' (List.mem_of_getElem? hu)).2.2.2
  refine ⟨fun v hv => ?_, ?_, by simp; omega⟩
  · rcases List.mem_append.1 hv with hv | hv
    · exact zeros_fits _ v hv
    · exact h.fits v hv
  · unfold Chain
    refine ⟨g, u', p.codes[g], 0, [], [], zeros u'.locals ++ args, ops0 ++ (loc ++ low), ⟨rfl, hg, hu, List.getElem?_eq_getElem hlt, rfl, ?_, ?_, rfl, ?_, rfl, ?_, rfl⟩, ?_⟩
    · exact (hp.fin g u' _ hg hu (List.getElem?_eq_getElem hlt)).1.zero
    · rw [hs]; simp
    · rw [List.map_append, zeros_ty hty.2.2, ha]; simp
    · rw [hs]; simp; omega
    · unfold Chain
      exact ⟨fn, u, c, pc + 1, ops0.map V.ty, ops0, loc, low, ⟨l.f, l.imp, l.hu, l.hc, by simp, hT, rfl, rfl, l.hloc, l.base, l.floor, l.res⟩, hl⟩
/-- a frame is closed -/
theorem Good.leave (h : Good p T st (r :: rs)) (l : Lay p T r st [] fn u c pc ρ ops loc low) (hl : Chain p T rs low r.res) {vs ops0 : List V} (ho : ops = vs ++ ops0) (hv : vs.map V.ty = u.results.reverse) (hne : rs ≠ []) :
    Good p T (vs ++ low) rs := by
  have hf := h.sub l
  refine ⟨fun v hv => ?_, ?_, by have := h.len; simp at this; omega⟩
  · rcases List.mem_append.1 hv with hv | hv
    · exact hf.1 v (by rw [ho]; simp [hv])
    · exact hf.2.2 v hv
  · cases rs with
    | nil => exact absurd rfl hne
    | cons r' rs' =>
      unfold Chain at hl ⊢
      obtain ⟨fn', u', c', pc', ρ', ops', loc', low', l', hl'⟩ := hl
      refine ⟨fn', u', c', pc', vs.map V.ty ++ ρ', vs ++ ops', loc', low', ⟨l'.f, l'.imp, l'.hu, l'.hc, l'.hpc, ?_, ?_, ?_, l'.hloc, l'.base, l'.floor, l'.res⟩, hl'⟩
      · have := l'.typ
        rw [l.res] at this
        rw [hv]
        simpa using this
      · rw [l'.hst]; simp
      · rw [List.map_append, l'.hops]
theorem split_ty {ops : List V} {α β : List UInt8} (h : ops.map V.ty = α ++ β) : ∃ xs ys, ops = xs ++ ys ∧ xs.map V.ty = α ∧ ys.map V.ty = β := by
  obtain ⟨xs, ys, rfl, rfl, rfl⟩ := List.map_eq_append_iff.1 h
  exact ⟨xs, ys, rfl, rfl, rfl⟩
theorem pop_ty {ops : List V} {t : UInt8} {β : List UInt8} (h : ops.map V.ty = t :: β) : ∃ v ys, ops = v :: ys ∧ v.ty = t ∧ ys.map V.ty = β := by
  obtain ⟨v, ys, rfl, rfl, rfl⟩ := List.map_eq_cons_iff.1 h
  exact ⟨v, ys, rfl, rfl, rfl⟩
theorem pop_w {ops : List V} {β : List UInt8} (h : ops.map V.ty = 105 :: β) : ∃ n ys, ops = V.w n :: ys ∧ ys.map V.ty = β := by
  obtain ⟨v, ys, rfl, h1, rfl⟩ := pop_ty h
  cases v using V.on with
  | w n => exact ⟨n, ys, rfl, rfl⟩
  | d n => simp [V.ty] at h1
/-- what a taken jump leaves -/
theorem jump_ty {ops : List V} {τ : List UInt8} {i : Flat} {G : Nat → Int → List UInt8 → Prop} {a : Nat} (h : ops.map V.ty = τ) (hj : JumpOk G a i τ) :
    ∃ xs ys zs, ops = xs ++ (ys ++ zs) ∧ (xs.length : Int) = i.keep ∧ 0 ≤ i.cut ∧ (zs.length : Int) = i.cut ∧ G a i.imm ((xs ++ zs).map V.ty) := by
  obtain ⟨κ, ρ, rfl, h1, h2, h3, h4⟩ := hj
  obtain ⟨xs, ys, rfl, rfl, rfl⟩ := split_ty h
  refine ⟨xs, ys.take (ys.length - i.cut.toNat), ys.drop (ys.length - i.cut.toNat), by simp, by simpa using h1, h2, ?_, ?_⟩
  · simp at h3 ⊢; omega
  · rw [List.map_append, List.map_drop]
    simpa [cut] using h4
end
end Go.Proofs.Qxb6500575aGreatDoor
