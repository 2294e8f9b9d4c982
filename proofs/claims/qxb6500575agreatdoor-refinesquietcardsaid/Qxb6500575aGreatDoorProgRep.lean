/-
  prep.Prog: plain data, and how it lies in memory.
-/
import Derived.Test.Qxb6500575aGreatDoorPlainLoad
namespace Go.Proofs.Qxb6500575aGreatDoor
open Go Go.RowKit
set_option linter.unusedVariables false
set_option linter.unusedSimpArgs false

structure ProgD where
  nimp : Int
  min : Int
  max : Int
  steps : Int
  funs : List FunD
  codes : List (List Flat)
structure ProgL where
  fa : Option Addr
  fc : Nat
  cvs : List Value
structure ProgRep (S : Nat → Prop) (w : World) (bp : Nat) (L : ProgL) (p : ProgD) : Prop where
  funs : FunsAt w bp (.int .i64 p.nimp) (.int .i64 p.min) (.int .i64 p.max) (.int .i64 p.steps) L.fa L.fc p.funs L.cvs
  codes : ∀ (f : Nat) v c, L.cvs[f]? = some v → p.codes[f]? = some c → w.ownsRow 0 176 4 v c.length (flatCells c)
  clen : p.codes.length = p.funs.length
  own : S bp
  ownF : ∀ g, (Value.slice L.fa 0 0).ownBlock = some g → S g
  ownC : ∀ (f : Nat) v, L.cvs[f]? = some v → ∀ g, v.ownBlock = some g → S g

section
variable {S S' : Nat → Prop} {w w' w2 : World} {bp : Nat} {L : ProgL} {p : ProgD}
theorem ProgRep.fr (h : ProgRep S w bp L p) (hf : Fr S' w w') (hd : ∀ k, k < w.heap.size → S k → ¬ S' k) : ProgRep S w' bp L p :=
  { h with
    funs := h.funs.fr hf (hd _ h.funs.here.lt h.own) (fun g hg => hd g (owns_lt h.funs.row g (by rw [ownBlock_any _ _ _ 0 0]; exact hg)) (h.ownF g hg))
    codes := fun f v c hv hc => owns_fr (h.codes f v c hv hc) hf (fun g hg => hd g (owns_lt (h.codes f v c hv hc) g hg) (h.ownC f v hv g hg)) }
theorem ProgRep.sub (h : ProgRep S w bp L p) (hs : ∀ k, k < w.heap.size → S k → S' k) : ProgRep S' w bp L p :=
  { h with
    own := hs _ h.funs.here.lt h.own
    ownF := fun g hg => hs g (owns_lt h.funs.row g (by rw [ownBlock_any _ _ _ 0 0]; exact hg)) (h.ownF g hg)
    ownC := fun f v hv g hg => by
      have hl : f < p.codes.length := by rw [h.clen, ← h.funs.len]; exact (List.getElem?_eq_some_iff.1 hv).1
      exact hs g (owns_lt (h.codes f v p.codes[f] hv (List.getElem?_eq_getElem hl)) g hg) (h.ownC f v hv g hg) }
theorem ProgRep.fresh (h : ProgRep S w bp L p) (hf : Fr (fun _ => False) w w') : ProgRep S w' bp L p := h.fr hf (fun _ _ _ => id)

/-- one of its four numbers -/
theorem ProgRep.putHead (h : ProgRep S w bp L p) (i : Nat) (v : Value) {p' : ProgD} (hi : i < 4) (hfn : p'.funs = p.funs) (hcd : p'.codes = p.codes)
    (he : #[Value.int .i64 p.nimp, .int .i64 p.min, .int .i64 p.max, .int .i64 p.steps, .slice L.fa p.funs.length L.fc].setIfInBounds i v = #[Value.int .i64 p'.nimp, .int .i64 p'.min, .int .i64 p'.max, .int .i64 p'.steps, .slice L.fa p'.funs.length L.fc]) :
    ProgRep S (w.setCell ⟨bp, i, none⟩ v) bp L p' ∧ Fr (fun k => k = bp) w (w.setCell ⟨bp, i, none⟩ v) := by
  have hne := owns_ne h.funs.row h.funs.here (by decide)
  refine ⟨?_, Fr.setCell (S := fun k => k = bp) (Fr.refl _ _) (p := ⟨bp, i, none⟩) (.inl rfl) _⟩
  refine { funs := ⟨?_, ?_, ?_⟩, codes := ?_, clen := ?_, own := h.own, ownF := h.ownF, ownC := h.ownC }
  · rw [← he]; exact h.funs.here.put i v
  · rw [hfn]; exact owns_other h.funs.row (p := ⟨bp, i, none⟩) hne v
  · rw [hfn]; exact h.funs.len
  · intro f v' c hv hc
    rw [hcd] at hc
    have ho := h.codes f v' c hv hc
    exact owns_other ho (p := ⟨bp, i, none⟩) (owns_ne ho h.funs.here (by decide)) v
  · rw [hfn, hcd]; exact h.clen

theorem ProgRep.pushFun (h : ProgRep S w bp L p) (u : FunD) {g cap : Nat}
    (hF : Fr (fun k => (Value.slice L.fa p.funs.length L.fc).ownBlock = some k ∨ k = bp) w w2)
    (hH : Has w2 bp (#[Value.int .i64 p.nimp, .int .i64 p.min, .int .i64 p.max, .int .i64 p.steps, .slice L.fa p.funs.length L.fc].setIfInBounds 4 (.slice (some ⟨g, 0, none⟩) (p.funs.length + 1) cap)) 101)
    (hO : w2.ownsRow 0 105 4 (.slice (some ⟨g, 0, none⟩) (p.funs.length + 1) cap) (p.funs.length + 1) ((p.funs.zip L.cvs).flatMap funCells ++ funCells (u, .slice none 0 0)))
    (hg : S g) :
    ProgRep S w2 bp { fa := some ⟨g, 0, none⟩, fc := cap, cvs := L.cvs ++ [.slice none 0 0] } { p with funs := p.funs ++ [u], codes := p.codes ++ [[]] } := by
  refine { funs := ⟨?_, ?_, ?_⟩, codes := ?_, clen := ?_, own := h.own, ownF := ?_, ownC := ?_ }
  · simpa using hH
  · have hz : (p.funs ++ [u]).zip (L.cvs ++ [Value.slice none 0 0]) = p.funs.zip L.cvs ++ [(u, Value.slice none 0 0)] := by
      rw [List.zip_append h.funs.len.symm]; rfl
    simp only [hz, List.flatMap_append, List.flatMap_singleton, List.length_append, List.length_singleton]
    exact hO
  · simp [h.funs.len]
  · intro f v c hv hc
    by_cases hf : f < L.cvs.length
    · rw [List.getElem?_append_left hf] at hv
      rw [List.getElem?_append_left (by rw [h.clen, ← h.funs.len]; exact hf)] at hc
      have ho := h.codes f v c hv hc
      refine owns_fr ho hF (fun k hk hS => ?_)
      rcases hS with hS | rfl
      · exact owns_apart ho h.funs.row (by decide) k hk hS
      · exact owns_ne ho h.funs.here (by decide) hk
    · have hcl : p.codes.length = L.cvs.length := by rw [h.clen, h.funs.len]
      rw [List.getElem?_append_right (by omega)] at hv hc
      rw [hcl] at hc
      have hfe : f - L.cvs.length = 0 := by
        have := (List.getElem?_eq_some_iff.1 hv).1
        simpa using this
      rw [hfe] at hv hc
      simp at hv hc
      subst hv; subst hc
      exact ⟨rfl, .inl ⟨rfl, rfl⟩⟩
  · simp [h.clen]
  · intro k hk; simp [Value.ownBlock] at hk; subst hk; exact hg
  · intro f v hv k hk
    by_cases hf : f < L.cvs.length
    · rw [List.getElem?_append_left hf] at hv
      exact h.ownC f v hv k hk
    · rw [List.getElem?_append_right (by omega)] at hv
      have hfe : f - L.cvs.length = 0 := by
        have := (List.getElem?_eq_some_iff.1 hv).1
        simpa using this
      rw [hfe] at hv
      simp at hv
      subst hv
      simp [Value.ownBlock] at hk

theorem ProgRep.setCode (h : ProgRep S w bp L p) (f g : Nat) (c : List Flat) (v : Value) (hf : f < p.funs.length) (hg : L.fa = some ⟨g, 0, none⟩) (hv : w.ownsRow 0 176 4 v c.length (flatCells c)) (hS : ∀ k, v.ownBlock = some k → S k) :
    ProgRep S (w.setCell ⟨g, f * 4 + 3, none⟩ v) bp { L with cvs := L.cvs.set f v } { p with codes := p.codes.set f c } ∧ Fr (fun k => k = g) w (w.setCell ⟨g, f * 4 + 3, none⟩ v) := by
  have hb : (Value.slice L.fa p.funs.length L.fc).ownBlock = some g := by rw [hg]; rfl
  have hbp : bp ≠ g := fun e => owns_ne h.funs.row h.funs.here (by decide) (by rw [hb, e])
  have ho := h.funs.row
  rw [hg] at ho
  have hst := (ho.stored (f * 4 + 3) v).1
  have hlc : f < L.cvs.length := by rw [h.funs.len]; exact hf
  have hz : (p.funs.zip L.cvs)[f]? = some (p.funs[f], L.cvs[f]) := by
    rw [List.getElem?_zip_eq_some]; exact ⟨List.getElem?_eq_getElem hf, List.getElem?_eq_getElem hlc⟩
  have hfm := flatMap_set funCells 4 funCells_len (p.funs.zip L.cvs) f 3 (p.funs[f], L.cvs[f]) (p.funs[f], v) v hz (by decide) rfl
  have hzs : p.funs.zip (L.cvs.set f v) = (p.funs.zip L.cvs).set f (p.funs[f], v) := by
    apply List.ext_getElem?
    intro i
    by_cases hi : f = i
    · subst hi
      rw [List.getElem?_set_self (by rw [List.length_zip]; omega)]
      rw [List.getElem?_zip_eq_some]
      exact ⟨List.getElem?_eq_getElem hf, by rw [List.getElem?_set_self hlc]⟩
    · rw [List.getElem?_set_ne hi]
      rw [List.zip_eq_zipWith, List.zip_eq_zipWith, List.getElem?_zipWith, List.getElem?_zipWith, List.getElem?_set_ne hi]
  refine ⟨?_, Fr.setCell (S := fun k => k = g) (Fr.refl _ _) (p := ⟨g, f * 4 + 3, none⟩) (.inl rfl) _⟩
  refine { funs := ⟨?_, ?_, ?_⟩, codes := ?_, clen := ?_, own := h.own, ownF := h.ownF, ownC := ?_ }
  · exact h.funs.here.other (p := ⟨g, f * 4 + 3, none⟩) hbp v
  · rw [hzs, hfm, hg]; exact hst
  · simp [h.funs.len]
  · intro i v' c' hv' hc'
    have far : ∀ {u : Value} {d : List Flat}, w.ownsRow 0 176 4 u d.length (flatCells d) → (w.setCell ⟨g, f * 4 + 3, none⟩ v).ownsRow 0 176 4 u d.length (flatCells d) := fun hu =>
      owns_other hu (p := ⟨g, f * 4 + 3, none⟩) (fun e => owns_apart hu h.funs.row (by decide) g e hb) v
    by_cases hi : f = i
    · subst hi
      rw [List.getElem?_set_self hlc] at hv'
      rw [List.getElem?_set_self (by rw [h.clen]; exact hf)] at hc'
      simp at hv' hc'
      subst hv'; subst hc'
      exact far hv
    · rw [List.getElem?_set_ne hi] at hv' hc'
      exact far (h.codes i v' c' hv' hc')
  · simp [h.clen]
  · intro i v' hv' k hk
    by_cases hi : f = i
    · subst hi
      rw [List.getElem?_set_self hlc] at hv'
      simp at hv'
      subst hv'
      exact hS k hk
    · rw [List.getElem?_set_ne hi] at hv'
      exact h.ownC i v' hv' k hk
end
end Go.Proofs.Qxb6500575aGreatDoor
