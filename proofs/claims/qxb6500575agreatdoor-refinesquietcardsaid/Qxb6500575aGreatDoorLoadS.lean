import Derived.Test.Qxb6500575aGreatDoorLoadLaws
import Derived.OwnWalk
namespace Go.Proofs.Qxb6500575aGreatDoor
open Go Go.RowKit
set_option linter.unusedVariables false
set_option linter.unusedSimpArgs false

theorem rowFun : IsRow Tryz.prog 99 105 (.agg #[.string ⟨#[]⟩, .string ⟨#[]⟩, .string ⟨#[]⟩, .slice none 0 0]) 4 72 := ⟨by kernel_rfl, by kernel_rfl, rfl, by decide⟩
/-- all that load owns lies below 'top' -/
structure LoadS (S : Nat → Prop) (w0 : World) (bm bp gs n : Nat) (Lm : ModL) (m : ModD) (top : Nat) (wr : World) (Lp : ProgL) (p : ProgD) (sizes : List Int) : Prop where
  mod : ModRep S wr bm Lm m
  prog : ProgRep (fun k => (k = bp ∨ w0.heap.size ≤ k) ∧ k < top) wr bp Lp p
  fr : Fr (fun k => k = bp) w0 wr
  sz : wr.ownsRow 0 3 1 (.slice (some ⟨gs, 0, none⟩) n n) n (intCells sizes)
  gs0 : w0.heap.size ≤ gs
  gsT : gs < top
  w0T : w0.heap.size ≤ top
  topW : top ≤ wr.heap.size
theorem owns_has {w : World} {e : TypeId} {size g n cap : Nat} {xs : List Value} (h : w.ownsRow 0 e size (.slice (some ⟨g, 0, none⟩) n cap) n xs) : ∃ cur, Has w g cur e ∧ ∀ j, j < n * size → cur[j]? = xs[j]? := by
  have hxl := h.1
  rcases h.2 with ⟨h1, _⟩ | ⟨g', cap', cur, hv, _, hgg, hn, _, hcs, hx⟩
  · cases h1
  · simp at hv
    obtain ⟨rfl, rfl⟩ := hv
    refine ⟨cur, hgg, fun j hj => ?_⟩
    rw [← hx, List.getElem?_take]
    simp [hj]
theorem ProgRep.otherT {S : Nat → Prop} {w : World} {bp : Nat} {L : ProgL} {p : ProgD} (h : ProgRep S w bp L p) {b : Nat} {cs : Array Value} {T : TypeId} (hb : Has w b cs T) (h1 : T ≠ 101) (h2 : T ≠ 105) (h3 : T ≠ 176) (i : Nat) (v : Value) : ProgRep S (w.setCell ⟨b, i, none⟩ v) bp L p :=
  { h with
    funs := ⟨h.funs.here.other (p := ⟨b, i, none⟩) (h.funs.here.ne hb (Ne.symm h1)) v, owns_other h.funs.row (p := ⟨b, i, none⟩) (owns_ne h.funs.row hb h2) v, h.funs.len⟩
    codes := fun f u c hv hc => owns_other (h.codes f u c hv hc) (p := ⟨b, i, none⟩) (owns_ne (h.codes f u c hv hc) hb h3) v }
section
variable {S S' : Nat → Prop} {w0 : World} {bm bp gs n : Nat} {Lm : ModL} {m : ModD} {top : Nat} {wr wr' : World} {Lp : ProgL} {p : ProgD} {sizes : List Int}
theorem LoadS.keep (h : LoadS S w0 bm bp gs n Lm m top wr Lp p sizes) (hS : ∀ k, S k → k < w0.heap.size) (hf : Fr S' wr wr') (hd : ∀ k, S' k → top ≤ k) : LoadS S w0 bm bp gs n Lm m top wr' Lp p sizes :=
  { mod := h.mod.fr hf (fun k hk hk' => by have := hS k hk; have := hd k hk'; have := h.w0T; omega)
    prog := h.prog.fr hf (fun k _ hk hk' => by have := hd k hk'; omega)
    fr := h.fr.trans hf (fun j hj hk => by have := hd j hk; have := h.w0T; omega)
    sz := owns_fr h.sz hf (fun g hg hk => by simp [Value.ownBlock] at hg; subst hg; have := hd _ hk; have := h.gsT; omega)
    gs0 := h.gs0
    gsT := h.gsT
    w0T := h.w0T
    topW := Nat.le_trans h.topW hf.size }
theorem LoadS.raise (h : LoadS S w0 bm bp gs n Lm m top wr Lp p sizes) : LoadS S w0 bm bp gs n Lm m wr.heap.size wr Lp p sizes :=
  { h with prog := h.prog.sub (fun k hk hS => ⟨hS.1, hk⟩), gsT := Nat.lt_of_lt_of_le h.gsT h.topW, w0T := Nat.le_trans h.w0T h.topW, topW := Nat.le_refl _ }
theorem LoadS.setSize (h : LoadS S w0 bm bp gs n Lm m top wr Lp p sizes) (hS : ∀ k, S k → k < w0.heap.size) (i : Nat) (v : Int) : LoadS S w0 bm bp gs n Lm m top (wr.setCell ⟨gs, i, none⟩ (.int .i64 v)) Lp p (sizes.set i v) := by
  obtain ⟨cur, hcur, _⟩ := owns_has h.sz
  have hF : Fr (fun k => k = gs) wr (wr.setCell ⟨gs, i, none⟩ (.int .i64 v)) := Fr.setCell (S := fun k => k = gs) (Fr.refl _ _) (p := ⟨gs, i, none⟩) (.inl rfl) _
  exact {
    mod := h.mod.fr hF (fun k hk hk' => by subst hk'; have := hS _ hk; have := h.gs0; omega)
    prog := h.prog.otherT hcur (by decide) (by decide) (by decide) i _
    fr := h.fr.trans hF (fun j hj hk => by subst hk; have := h.gs0; omega)
    sz := by
      have := (h.sz.stored i (.int .i64 v)).1
      rw [show intCells (sizes.set i v) = (intCells sizes).set i (.int .i64 v) by simp [intCells, List.map_set]]
      exact this
    gs0 := h.gs0
    gsT := h.gsT
    w0T := h.w0T
    topW := by simpa [World.setCell] using h.topW }
theorem LoadS.push (h : LoadS S w0 bm bp gs n Lm m top wr Lp p sizes) (hS : ∀ k, S k → k < w0.heap.size) (hnS : ¬ S bp) (u : FunD) {gg cap : Nat} {X : World}
    (m1 : Fr (fun k => (Value.slice Lp.fa p.funs.length Lp.fc).ownBlock = some k ∨ k = bp) wr X)
    (m2 : Has X bp (#[Value.int .i64 p.nimp, .int .i64 p.min, .int .i64 p.max, .int .i64 p.steps, .slice Lp.fa p.funs.length Lp.fc].setIfInBounds 4 (.slice (some ⟨gg, 0, none⟩) (p.funs.length + 1) cap)) 101)
    (m3 : X.ownsRow 0 105 4 (.slice (some ⟨gg, 0, none⟩) (p.funs.length + 1) cap) (p.funs.length + 1) ((p.funs.zip Lp.cvs).flatMap funCells ++ funCells (u, .slice none 0 0)))
    (m4 : (Value.slice Lp.fa p.funs.length Lp.fc).ownBlock = some gg ∨ wr.heap.size ≤ gg) (m5 : gg < X.heap.size) :
    LoadS S w0 bm bp gs n Lm m X.heap.size X { fa := some ⟨gg, 0, none⟩, fc := cap, cvs := Lp.cvs ++ [.slice none 0 0] } { p with funs := p.funs ++ [u], codes := p.codes ++ [[]] } sizes := by
  have hsize := m1.size
  have hown : ∀ k, (Value.slice Lp.fa p.funs.length Lp.fc).ownBlock = some k → (k = bp ∨ w0.heap.size ≤ k) ∧ k < top := fun k hk => h.prog.ownF k (by rw [ownBlock_any _ _ _ p.funs.length Lp.fc]; exact hk)
  have htop := h.topW
  have hw0 := h.w0T
  exact {
    mod := h.mod.fr m1 (fun k hk hk' => by
      rcases hk' with hk' | rfl
      · rcases (hown k hk').1 with rfl | h1
        · exact hnS hk
        · have := hS k hk; omega
      · exact hnS hk)
    prog := by
      refine (h.prog.sub (S' := fun k => (k = bp ∨ w0.heap.size ≤ k) ∧ k < X.heap.size) (fun k _ hk => ⟨hk.1, by omega⟩)).pushFun u m1 m2 m3 ?_
      rcases m4 with m4 | m4
      · have := hown gg m4; exact ⟨this.1, m5⟩
      · exact ⟨.inr (by omega), m5⟩
    fr := h.fr.trans m1 (fun j hj hk => by
      rcases hk with hk | rfl
      · rcases (hown j hk).1 with h1 | h1
        · exact h1
        · omega
      · rfl)
    sz := owns_fr h.sz m1 (fun k hk hk' => by
      rcases hk' with hk' | rfl
      · exact owns_apart h.sz h.prog.funs.row (by decide) k hk hk'
      · exact owns_ne h.sz h.prog.funs.here (by decide) hk)
    gs0 := h.gs0
    gsT := by have := h.gsT; omega
    w0T := by omega
    topW := Nat.le_refl _ }
theorem LoadS.setCode (h : LoadS S w0 bm bp gs n Lm m top wr Lp p sizes) (hS : ∀ k, S k → k < w0.heap.size) (hnS : ¬ S bp) (f g : Nat) (c : List Flat) (v : Value) (hf : f < p.funs.length) (hg : Lp.fa = some ⟨g, 0, none⟩) (hv : wr.ownsRow 0 176 4 v c.length (flatCells c)) (hvS : ∀ k, v.ownBlock = some k → w0.heap.size ≤ k ∧ k < top) :
    LoadS S w0 bm bp gs n Lm m top (wr.setCell ⟨g, f * 4 + 3, none⟩ v) { Lp with cvs := Lp.cvs.set f v } { p with codes := p.codes.set f c } sizes := by
  have hb : (Value.slice Lp.fa p.funs.length Lp.fc).ownBlock = some g := by rw [hg]; rfl
  have hgS := (h.prog.ownF g (by rw [hg]; rfl)).1
  obtain ⟨q1, q2⟩ := h.prog.setCode f g c v hf hg hv (fun k hk => ⟨.inr (hvS k hk).1, (hvS k hk).2⟩)
  exact {
    mod := h.mod.fr q2 (fun k hk hk' => by
      subst hk'
      rcases hgS with rfl | h1
      · exact hnS hk
      · have := hS _ hk; omega)
    prog := q1
    fr := h.fr.trans q2 (fun j hj hk => by
      subst hk
      rcases hgS with h1 | h1
      · exact h1
      · omega)
    sz := owns_fr h.sz q2 (fun k hk hk' => by subst hk'; exact owns_apart h.sz h.prog.funs.row (by decide) _ hk hb)
    gs0 := h.gs0
    gsT := h.gsT
    w0T := h.w0T
    topW := by simpa [World.setCell] using h.topW }
end
end Go.Proofs.Qxb6500575aGreatDoor
