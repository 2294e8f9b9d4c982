/-
  prepm.Prog as it lies in memory. No walk.
-/
import Derived.Test.Qxb6500575aGreatDoorMOne1
namespace Go.Proofs.Qxb6500575aGreatDoor
open Go Go.RowKit
set_option linter.unusedVariables false
set_option linter.unusedSimpArgs false

structure MPL where
  fa : Option Addr
  fc : Nat
  vs : List (Value × Value)
structure MProg (S : Nat → Prop) (w : World) (bp : Nat) (L : MPL) (p : ProgD) (srcs : List (List Ins)) : Prop where
  here : Has w bp #[.int .i64 p.nimp, .int .i64 p.min, .int .i64 p.max, .int .i64 p.steps, .slice L.fa p.funs.length L.fc] 120
  row : w.ownsRow 0 125 5 (.slice L.fa p.funs.length L.fc) p.funs.length ((p.funs.zip L.vs).flatMap mfunCells)
  vl : L.vs.length = p.funs.length
  cl : p.codes.length = p.funs.length
  sl : srcs.length = p.funs.length
  src : ∀ (f : Nat) v s, L.vs[f]? = some v → srcs[f]? = some s → w.ownsRow 0 67 3 v.1 s.length (insCells s)
  code : ∀ (f : Nat) v c, L.vs[f]? = some v → p.codes[f]? = some c → w.ownsRow 0 176 4 v.2 c.length (flatCells c)
  apC : ∀ (f g : Nat) v u, f ≠ g → L.vs[f]? = some v → L.vs[g]? = some u → ∀ k, v.2.ownBlock = some k → u.2.ownBlock ≠ some k
  own : S bp
  ownF : ∀ g, (Value.slice L.fa 0 0).ownBlock = some g → S g
  ownV : ∀ (f : Nat) v, L.vs[f]? = some v → ∀ k, (v.1.ownBlock = some k ∨ v.2.ownBlock = some k) → S k
section
variable {S S' : Nat → Prop} {w w' w2 : World} {bp : Nat} {L : MPL} {p : ProgD} {srcs : List (List Ins)}
theorem MProg.has_src (h : MProg S w bp L p srcs) {f : Nat} {v : Value × Value} (hv : L.vs[f]? = some v) : ∃ s, srcs[f]? = some s := by
  have : f < L.vs.length := (List.getElem?_eq_some_iff.1 hv).1
  exact ⟨_, List.getElem?_eq_getElem (by rw [h.sl, ← h.vl]; exact this)⟩
theorem MProg.has_code (h : MProg S w bp L p srcs) {f : Nat} {v : Value × Value} (hv : L.vs[f]? = some v) : ∃ s, p.codes[f]? = some s := by
  have : f < L.vs.length := (List.getElem?_eq_some_iff.1 hv).1
  exact ⟨_, List.getElem?_eq_getElem (by rw [h.cl, ← h.vl]; exact this)⟩
theorem MProg.ltV (h : MProg S w bp L p srcs) {f : Nat} {v : Value × Value} (hv : L.vs[f]? = some v) {k : Nat} (hk : v.1.ownBlock = some k ∨ v.2.ownBlock = some k) : k < w.heap.size := by
  obtain ⟨s, hs⟩ := h.has_src hv
  obtain ⟨c, hc⟩ := h.has_code hv
  rcases hk with hk | hk
  · exact owns_lt (h.src f v s hv hs) k hk
  · exact owns_lt (h.code f v c hv hc) k hk
theorem MProg.fr (h : MProg S w bp L p srcs) (hf : Fr S' w w') (hd : ∀ k, k < w.heap.size → S k → ¬ S' k) : MProg S w' bp L p srcs :=
  { h with
    here := h.here.fr hf (hd _ h.here.lt h.own)
    row := owns_fr h.row hf (fun g hg => hd g (owns_lt h.row g hg) (h.ownF g (by rw [ownBlock_any _ _ _ p.funs.length L.fc]; exact hg)))
    src := fun f v s hv hs => owns_fr (h.src f v s hv hs) hf (fun g hg => hd g (h.ltV hv (.inl hg)) (h.ownV f v hv g (.inl hg)))
    code := fun f v s hv hs => owns_fr (h.code f v s hv hs) hf (fun g hg => hd g (h.ltV hv (.inr hg)) (h.ownV f v hv g (.inr hg))) }
theorem MProg.sub (h : MProg S w bp L p srcs) (hs : ∀ k, k < w.heap.size → S k → S' k) : MProg S' w bp L p srcs :=
  { h with
    own := hs _ h.here.lt h.own
    ownF := fun g hg => hs g (owns_lt h.row g (by rw [ownBlock_any _ _ _ 0 0]; exact hg)) (h.ownF g hg)
    ownV := fun f v hv k hk => hs k (h.ltV hv hk) (h.ownV f v hv k hk) }
theorem MProg.fresh (h : MProg S w bp L p srcs) (hf : Fr (fun _ => False) w w') : MProg S w' bp L p srcs := h.fr hf (fun _ _ _ => id)
/-- one of its four numbers -/
theorem MProg.putHead (h : MProg S w bp L p srcs) (i : Nat) (v : Value) {p' : ProgD} (hi : i < 4) (hfn : p'.funs = p.funs) (hcd : p'.codes = p.codes)
    (he : #[Value.int .i64 p.nimp, .int .i64 p.min, .int .i64 p.max, .int .i64 p.steps, .slice L.fa p.funs.length L.fc].setIfInBounds i v = #[Value.int .i64 p'.nimp, .int .i64 p'.min, .int .i64 p'.max, .int .i64 p'.steps, .slice L.fa p'.funs.length L.fc]) :
    MProg S (w.setCell ⟨bp, i, none⟩ v) bp L p' srcs ∧ Fr (fun k => k = bp) w (w.setCell ⟨bp, i, none⟩ v) := by
  have hF : Fr (fun k => k = bp) w (w.setCell ⟨bp, i, none⟩ v) := Fr.setCell (S := fun k => k = bp) (Fr.refl _ _) (p := ⟨bp, i, none⟩) (.inl rfl) _
  refine ⟨?_, hF⟩
  refine { here := ?_, row := ?_, vl := by rw [hfn]; exact h.vl, cl := by rw [hfn, hcd]; exact h.cl, sl := by rw [hfn]; exact h.sl, src := ?_, code := ?_, apC := h.apC, own := h.own, ownF := h.ownF, ownV := h.ownV }
  · rw [← he]; exact h.here.put i v
  · rw [hfn]; exact owns_fr h.row hF (fun g hg e => by subst e; exact owns_ne h.row h.here (by decide) hg)
  · intro f u s hv hs
    exact owns_fr (h.src f u s hv hs) hF (fun g hg e => by subst e; exact owns_ne (h.src f u s hv hs) h.here (by decide) hg)
  · intro f u s hv hs
    rw [hcd] at hs
    exact owns_fr (h.code f u s hv hs) hF (fun g hg e => by subst e; exact owns_ne (h.code f u s hv hs) h.here (by decide) hg)
/-- a function more; sv0: her source's row -/
theorem MProg.pushFun (h : MProg S w bp L p srcs) (u : FunD) (sv0 : Value) (s0 : List Ins) {g cap : Nat}
    (hF : Fr (fun k => (Value.slice L.fa p.funs.length L.fc).ownBlock = some k ∨ k = bp) w w2)
    (hH : Has w2 bp (#[Value.int .i64 p.nimp, .int .i64 p.min, .int .i64 p.max, .int .i64 p.steps, .slice L.fa p.funs.length L.fc].setIfInBounds 4 (.slice (some ⟨g, 0, none⟩) (p.funs.length + 1) cap)) 120)
    (hO : w2.ownsRow 0 125 5 (.slice (some ⟨g, 0, none⟩) (p.funs.length + 1) cap) (p.funs.length + 1) ((p.funs.zip L.vs).flatMap mfunCells ++ mfunCells (u, (sv0, .slice none 0 0))))
    (hg : S g) (hs0 : w.ownsRow 0 67 3 sv0 s0.length (insCells s0)) (hsS : ∀ k, sv0.ownBlock = some k → S k) :
    MProg S w2 bp { fa := some ⟨g, 0, none⟩, fc := cap, vs := L.vs ++ [(sv0, .slice none 0 0)] } { p with funs := p.funs ++ [u], codes := p.codes ++ [[]] } (srcs ++ [s0]) := by
  have far : ∀ {e : TypeId} {size n : Nat} {v : Value} {xs : List Value}, w.ownsRow 0 e size v n xs → e ≠ 125 → 120 ≠ e → w2.ownsRow 0 e size v n xs := fun ho h1 h2 => owns_fr ho hF (fun k hk hS => by
    rcases hS with hS | rfl
    · exact owns_apart ho h.row h1 k hk hS
    · exact owns_ne ho h.here h2 hk)
  have hat : ∀ {α : Type} (l : List α) (x : α) (f : Nat) (y : α), (l ++ [x])[f]? = some y → (f < l.length ∧ l[f]? = some y) ∨ (f = l.length ∧ y = x) := by
    intro α l x f y hy
    by_cases hf : f < l.length
    · rw [List.getElem?_append_left hf] at hy; exact .inl ⟨hf, hy⟩
    · rw [List.getElem?_append_right (by omega)] at hy
      have h2 := (List.getElem?_eq_some_iff.1 hy).1
      simp at h2
      have : f = l.length := by omega
      subst this
      simp at hy
      exact .inr ⟨rfl, hy.symm⟩
  have hvl := h.vl
  refine { here := by simpa using hH, row := ?_, vl := by simp [hvl], cl := by simp [h.cl], sl := by simp [h.sl], src := ?_, code := ?_, apC := ?_, own := h.own, ownF := ?_, ownV := ?_ }
  · have hz : (p.funs ++ [u]).zip (L.vs ++ [(sv0, Value.slice none 0 0)]) = p.funs.zip L.vs ++ [(u, (sv0, Value.slice none 0 0))] := by
      rw [List.zip_append hvl.symm]; rfl
    simp only [hz, List.flatMap_append, List.flatMap_singleton, List.length_append, List.length_singleton]
    exact hO
  · intro f v s hv hs
    rcases hat _ _ f v hv with ⟨h1, h2⟩ | ⟨h1, h2⟩
    · rw [List.getElem?_append_left (by rw [h.sl, ← hvl]; exact h1)] at hs
      exact far (h.src f v s h2 hs) (by decide) (by decide)
    · subst h2
      rcases hat _ _ f s hs with ⟨h3, _⟩ | ⟨_, h4⟩
      · rw [h.sl, ← hvl] at h3; omega
      · subst h4; exact far hs0 (by decide) (by decide)
  · intro f v s hv hs
    rcases hat _ _ f v hv with ⟨h1, h2⟩ | ⟨h1, h2⟩
    · rw [List.getElem?_append_left (by rw [h.cl, ← hvl]; exact h1)] at hs
      exact far (h.code f v s h2 hs) (by decide) (by decide)
    · subst h2
      rcases hat _ _ f s hs with ⟨h3, _⟩ | ⟨_, h4⟩
      · rw [h.cl, ← hvl] at h3; omega
      · subst h4; exact ⟨rfl, .inl ⟨rfl, rfl⟩⟩
  · intro f g' v u' hne hv hu k hk hk'
    rcases hat _ _ f v hv with ⟨h1, h2⟩ | ⟨h1, h2⟩
    · rcases hat _ _ g' u' hu with ⟨h3, h4⟩ | ⟨h3, h4⟩
      · exact h.apC f g' v u' hne h2 h4 k hk hk'
      · subst h4; simp [Value.ownBlock] at hk'
    · subst h2; simp [Value.ownBlock] at hk
  · intro k hk; simp [Value.ownBlock] at hk; subst hk; exact hg
  · intro f v hv k hk
    rcases hat _ _ f v hv with ⟨h1, h2⟩ | ⟨h1, h2⟩
    · exact h.ownV f v h2 k hk
    · subst h2
      rcases hk with hk | hk
      · exact hsS k hk
      · simp [Value.ownBlock] at hk

/-- what one instruction may turn -/
def OneS (bk g : Nat) (L : MkL) (cv : Value) (k : Nat) : Prop := MkS bk L k ∨ k = g ∨ cv.ownBlock = some k
/-- the model as 'one' is handed it -/
def oneP (w : World) (bp bk g f : Nat) (K : MkL) (L : MPL) (p : ProgD) (src : List Ins) (v : Value × Value) (c : Ins) : OneP :=
  { w0 := w, S0 := OneS bk g K v.2, bp := bp, bk := bk, g := g, f := f, n1 := .int .i64 p.nimp, n2 := .int .i64 p.min, n3 := .int .i64 p.max, n4 := .int .i64 p.steps, fc := L.fc, funs := p.funs, vs0 := L.vs, src := src, srcv := v.1, bc := w.heap.size, bo := w.heap.size + 1, c := c }
theorem list_set_same {α : Type} (l : List α) (f : Nat) (x : α) (h : l[f]? = some x) : l.set f x = l := by
  have hf : f < l.length := (List.getElem?_eq_some_iff.1 h).1
  apply List.ext_getElem?
  intro j
  by_cases hj : f = j
  · subst hj; rw [List.getElem?_set_self hf, h]
  · rw [List.getElem?_set_ne hj]
theorem MProg.toOne (h : MProg S w bp L p srcs) {bk g f : Nat} {K : MkL} {s : Mk} {v : Value × Value} {src : List Ins} (c : Ins) (hk : MkRep w bk K s) (hg : L.fa = some ⟨g, 0, none⟩) (hv : L.vs[f]? = some v) (hsr : srcs[f]? = some src) (hcd : p.codes[f]? = some s.code) :
    OneIn (oneP w bp bk g f K L p src v c) K v.2 s := by
  have hf : f < p.funs.length := by rw [← h.vl]; exact (List.getElem?_eq_some_iff.1 hv).1
  refine { k := hk, here := ?_, row := ?_, src := h.src f v src hv hsr, code := h.code f v s.code hv hcd, ff := hf, vl := h.vl, gS := .inr (.inl rfl), kS := fun k hk => .inl hk, cS := fun k hk => .inr (.inr hk), hbc := rfl, hbo := rfl }
  · have := h.here
    rw [hg] at this
    exact this
  · have := h.row
    rw [hg] at this
    have e : L.vs.set f (v.1, v.2) = L.vs := list_set_same _ _ _ hv
    show w.ownsRow 0 125 5 _ p.funs.length ((p.funs.zip (L.vs.set f (v.1, v.2))).flatMap mfunCells)
    rw [e]
    exact this
theorem MProg.fromOne (h : MProg S w bp L p srcs) {bk g f : Nat} {K K' : MkL} {s s' : Mk} {v : Value × Value} {cv' : Value} {src : List Ins} {c : Ins} {o : Flat} (hk : MkRep w bk K s) (hg : L.fa = some ⟨g, 0, none⟩) (hv : L.vs[f]? = some v) (hsr : srcs[f]? = some src) (hcd : p.codes[f]? = some s.code)
    (hS : ∀ k, w.heap.size ≤ k → S k) (hKS : ∀ k, MkS bk K k → S k) (ho : OneL (oneP w bp bk g f K L p src v c) w' K' cv' s' o) :
    MProg S w' bp { L with vs := L.vs.set f (v.1, cv') } { p with codes := p.codes.set f s'.code } srcs := by
  have hvl := h.vl
  have hf : f < p.funs.length := by rw [← hvl]; exact (List.getElem?_eq_some_iff.1 hv).1
  have hfr : Fr (OneS bk g K v.2) w w' := ho.fr
  have hrow : (Value.slice L.fa p.funs.length L.fc).ownBlock = some g := by rw [hg]; rfl
  have notK : ∀ {e : TypeId} {size n : Nat} {u : Value} {xs : List Value}, w.ownsRow 0 e size u n xs → 136 ≠ e → 5 ≠ e → 132 ≠ e → ∀ k, u.ownBlock = some k → ¬ MkS bk K k := by
    rintro e size n u xs hu h1 h2 h3 k hk' (rfl | h4 | h4)
    · exact owns_ne hu hk.here h1 hk'
    · exact owns_apart hk.st hu h2 k (by rw [ownBlock_any]; exact h4) hk'
    · exact owns_apart hk.cs hu h3 k (by rw [ownBlock_any]; exact h4) hk'
  have hcv := h.code f v s.code hv hcd
  have setv : ∀ (i : Nat) u, (L.vs.set f (v.1, cv'))[i]? = some u → (i = f ∧ u = (v.1, cv')) ∨ (i ≠ f ∧ L.vs[i]? = some u) := by
    intro i u hu
    by_cases hi : f = i
    · subst hi
      rw [List.getElem?_set_self (by rw [hvl]; exact hf)] at hu
      exact .inl ⟨rfl, (Option.some.inj hu).symm⟩
    · rw [List.getElem?_set_ne hi] at hu
      exact .inr ⟨fun e => hi e.symm, hu⟩
  have srcFr : ∀ (i : Nat) u t, L.vs[i]? = some u → srcs[i]? = some t → w'.ownsRow 0 67 3 u.1 t.length (insCells t) := by
    intro i u t hu ht
    have hr := h.src i u t hu ht
    refine owns_fr hr hfr (fun k hk' hS' => ?_)
    rcases hS' with h1 | rfl | h1
    · exact notK hr (by decide) (by decide) (by decide) k hk' h1
    · exact owns_apart hr h.row (by decide) _ hk' hrow
    · exact owns_apart hr hcv (by decide) k hk' h1
  have cvOld : ∀ k, cv'.ownBlock = some k → k < w.heap.size → OneS bk g K v.2 k := fun k hk' hlt => ho.subC k hlt hk'
  refine { here := ?_, row := ?_, vl := by simp [hvl], cl := by simp [h.cl], sl := h.sl, src := ?_, code := ?_, apC := ?_, own := h.own, ownF := h.ownF, ownV := ?_ }
  · have := ho.here
    rw [hg]; exact this
  · have := ho.row
    rw [hg]; exact this
  · intro i u t hu ht
    rcases setv i u hu with ⟨rfl, rfl⟩ | ⟨_, hu⟩
    · exact srcFr i v t hv ht
    · exact srcFr i u t hu ht
  · intro i u t hu ht
    rcases setv i u hu with ⟨rfl, rfl⟩ | ⟨hi, hu⟩
    · rw [List.getElem?_set_self (by rw [h.cl]; exact hf)] at ht
      have := Option.some.inj ht
      subst this
      exact ho.code
    · rw [List.getElem?_set_ne (fun e => hi e.symm)] at ht
      have hr := h.code i u t hu ht
      refine owns_fr hr hfr (fun k hk' hS' => ?_)
      rcases hS' with h1 | rfl | h1
      · exact notK hr (by decide) (by decide) (by decide) k hk' h1
      · exact owns_apart hr h.row (by decide) _ hk' hrow
      · exact h.apC i f u v hi hu hv k hk' h1
  · have key : ∀ (i : Nat) u, i ≠ f → L.vs[i]? = some u → ∀ k, u.2.ownBlock = some k → cv'.ownBlock ≠ some k := by
      intro i u hi hu k hk1 hk2
      obtain ⟨t, ht⟩ := h.has_code hu
      have hr := h.code i u t hu ht
      have hlt := owns_lt hr k hk1
      rcases cvOld k hk2 hlt with h1 | rfl | h1
      · exact notK hr (by decide) (by decide) (by decide) k hk1 h1
      · exact owns_apart hr h.row (by decide) _ hk1 hrow
      · exact h.apC i f u v hi hu hv k hk1 h1
    intro i j u u' hij hu hu' k hk1 hk2
    rcases setv i u hu with ⟨a1, a2⟩ | ⟨a1, a2⟩
    · rcases setv j u' hu' with ⟨b1, b2⟩ | ⟨b1, b2⟩
      · exact hij (a1.trans b1.symm)
      · rw [a2] at hk1
        exact key j u' b1 b2 k hk2 hk1
    · rcases setv j u' hu' with ⟨b1, b2⟩ | ⟨b1, b2⟩
      · rw [b2] at hk2
        exact key i u a1 a2 k hk1 hk2
      · exact h.apC i j u u' hij a2 b2 k hk1 hk2
  · intro i u hu k hk'
    rcases setv i u hu with ⟨rfl, rfl⟩ | ⟨_, hu⟩
    · rcases hk' with hk' | hk'
      · exact h.ownV i v hv k (.inl hk')
      · by_cases hlt : k < w.heap.size
        · rcases cvOld k hk' hlt with h1 | rfl | h1
          · exact hKS k h1
          · exact h.ownF _ (by rw [hg]; rfl)
          · exact h.ownV i v hv k (.inr h1)
        · exact hS k (by omega)
    · exact h.ownV i u hu k hk'
/-- any function, cell by cell -/
theorem MProg.at (h : MProg S w bp L p srcs) {f : Nat} {u : FunD} (hu : p.funs[f]? = some u) : ∃ g v, L.fa = some ⟨g, 0, none⟩ ∧ L.vs[f]? = some v ∧ (∀ j, j < 5 → w.cell? ⟨g, f * 5 + j, none⟩ = (mfunCells (u, v))[j]?) ∧ g < w.heap.size ∧ bp ≠ g := by
  have hf : f < p.funs.length := (List.getElem?_eq_some_iff.1 hu).1
  obtain ⟨g, hg, hc⟩ := owns_some h.row (by omega)
  have hfv : f < L.vs.length := by rw [h.vl]; exact hf
  refine ⟨g, L.vs[f], hg, List.getElem?_eq_getElem hfv, fun j hj => ?_, owns_lt h.row g (by rw [hg]; rfl), fun e => owns_ne h.row h.here (by decide) (by rw [hg, e]; rfl)⟩
  rw [hc (f * 5 + j) (by omega)]
  refine flatMap_at mfunCells 5 mfunCells_len _ f j _ ?_ hj
  rw [List.getElem?_zip_eq_some]
  exact ⟨hu, List.getElem?_eq_getElem hfv⟩
end
end Go.Proofs.Qxb6500575aGreatDoor
