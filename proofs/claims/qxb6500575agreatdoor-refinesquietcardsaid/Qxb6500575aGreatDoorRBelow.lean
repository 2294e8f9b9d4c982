/-
  THE GROUND of the law: runlaw.Below in memory. The other side's pointers are q's.
-/
import Derived.Test.Qxb6500575aGreatDoorBelP
namespace Go.Proofs.Qxb6500575aGreatDoor
open Go Go.RowKit
set_option linter.unusedVariables false
set_option linter.unusedSimpArgs false

/-- the four pointers beside the builder's -/
structure Q4 where
  p : Option Addr
  k : Option Addr
  pm : Option Addr
  km : Option Addr
structure BelL where
  bm : Nat
  L : ModL
  ca : Option Addr
  cc : Nat
/-- the module's share of the footprint -/
def BelS (S : Nat → Prop) (bb : Nat) (v : Value) (k : Nat) : Prop := S k ∧ k ≠ bb ∧ v.ownBlock ≠ some k
structure BelRep (q : Q4) (S : Nat → Prop) (w : World) (bb : Nat) (K : BelL) (x : BelD) : Prop where
  here : Has w bb #[.pointer (some ⟨K.bm, 0, none⟩), .slice K.ca x.code.length K.cc, .pointer q.p, .pointer q.k, .pointer q.pm, .pointer q.km] 36
  mod : ModRep (BelS S bb (.slice K.ca x.code.length K.cc)) w K.bm K.L x.m
  code : w.ownsRow 0 67 3 (.slice K.ca x.code.length K.cc) x.code.length (insCells x.code)
  own : S bb
  ownC : ∀ g, (Value.slice K.ca x.code.length K.cc).ownBlock = some g → S g

theorem ModRep.live {S : Nat → Prop} {w : World} {bm : Nat} {L : ModL} {m : ModD} (h : ModRep S w bm L m) : ModRep (fun k => S k ∧ k < w.heap.size) w bm L m :=
  { h with
    own := ⟨h.own, h.here.lt⟩
    ownP := fun g hg => ⟨h.ownP g hg, owns_lt h.params g hg⟩
    ownR := fun g hg => ⟨h.ownR g hg, owns_lt h.results g hg⟩
    ownI := fun g hg => ⟨h.ownI g hg, owns_lt h.imports g hg⟩
    ownF := fun g hg => ⟨h.ownF g hg, owns_lt h.funcs g hg⟩
    ownC := fun i v hv g hg => ⟨h.ownC i v hv g hg, by
      have hi : i < m.funcs.length := by rw [← h.cvlen]; exact (List.getElem?_eq_some_iff.1 hv).1
      exact owns_lt (h.codes i _ v (List.getElem?_eq_getElem hi) hv) g hg⟩ }

section
variable {q : Q4} {S S' : Nat → Prop} {w w' w2 : World} {bb : Nat} {K : BelL} {x : BelD}
theorem BelRep.fr (h : BelRep q S w bb K x) (hf : Fr S' w w') (hd : ∀ k, S k → ¬ S' k) : BelRep q S w' bb K x :=
  { here := h.here.fr hf (hd _ h.own)
    mod := h.mod.fr hf (fun k hk => hd k hk.1)
    code := owns_fr h.code hf (fun g hg => hd g (h.ownC g hg))
    own := h.own
    ownC := h.ownC }
theorem BelRep.sub (h : BelRep q S w bb K x) (hs : ∀ k, S k → S' k) : BelRep q S' w bb K x :=
  { h with mod := h.mod.sub (fun k hk => ⟨hs k hk.1, hk.2⟩), own := hs _ h.own, ownC := fun g hg => hs g (h.ownC g hg) }
theorem BelRep.newer (h : BelRep q S w bb K x) (hf : Fr (fun _ => False) w w') : BelRep q S w' bb K x := h.fr hf (fun _ _ h => h)
theorem BelRep.putMod (h : BelRep q S w bb K x) {L' : ModL} {m' : ModD} (hM : ModRep (Own (BelS S bb (.slice K.ca x.code.length K.cc)) w w') w' K.bm L' m') (hF : Fr (BelS S bb (.slice K.ca x.code.length K.cc)) w w') :
    BelRep q (Own S w w') w' bb { K with L := L' } { x with m := m' } ∧ Fr S w w' := by
  refine ⟨?_, hF.weaken (fun k _ hk => hk.1)⟩
  exact
    { here := h.here.fr hF (fun hk => hk.2.1 rfl)
      mod := hM.sub (fun k hk => by
        rcases hk with hk | ⟨a, b⟩
        · exact ⟨.inl hk.1, hk.2⟩
        · refine ⟨.inr ⟨a, b⟩, fun e => ?_, fun e => ?_⟩
          · subst e; have := h.here.lt; omega
          · have := owns_lt h.code _ e; omega)
      code := owns_fr h.code hF (fun g hg hk => hk.2.2 hg)
      own := .inl h.own
      ownC := fun g hg => .inl (h.ownC g hg) }
theorem BelRep.putCode (h : BelRep q S w bb K x) {ca' : Option Addr} {cc' : Nat} (code' : List Ins)
    (hF : Fr (fun k => (Value.slice K.ca x.code.length K.cc).ownBlock = some k ∨ k = bb) w w2)
    (hH : Has w2 bb #[.pointer (some ⟨K.bm, 0, none⟩), .slice ca' code'.length cc', .pointer q.p, .pointer q.k, .pointer q.pm, .pointer q.km] 36)
    (hO : w2.ownsRow 0 67 3 (.slice ca' code'.length cc') code'.length (insCells code'))
    (hat : ∀ g, (Value.slice ca' code'.length cc').ownBlock = some g → (Value.slice K.ca x.code.length K.cc).ownBlock = some g ∨ w.heap.size ≤ g) :
    BelRep q (Own S w w2) w2 bb { K with ca := ca', cc := cc' } { x with code := code' } ∧ Fr S w w2 := by
  have hS : ∀ k, ((Value.slice K.ca x.code.length K.cc).ownBlock = some k ∨ k = bb) → S k := by
    rintro k (hk | rfl)
    · exact h.ownC k hk
    · exact h.own
  refine ⟨?_, hF.weaken fun k _ => hS k⟩
  exact
    { here := hH
      mod := (h.mod.live.fr hF (fun k hk hk' => by
        rcases hk' with hk' | hk'
        · exact hk.1.2.2 hk'
        · exact hk.1.2.1 hk')).sub (fun k hk => ⟨.inl hk.1.1, hk.1.2.1, fun e => by
          rcases hat k e with h1 | h1
          · exact hk.1.2.2 h1
          · have := hk.2; omega⟩)
      code := hO
      own := .inl h.own
      ownC := fun g hg => by
        rcases hat g hg with h1 | h1
        · exact .inl (h.ownC g h1)
        · exact .inr ⟨h1, owns_lt hO g hg⟩ }
/-- the register emptied -/
theorem BelRep.putNil (h : BelRep q S w bb K x) : BelRep q (Own S w (w.setCell ⟨bb, 1, none⟩ (.slice none 0 0))) (w.setCell ⟨bb, 1, none⟩ (.slice none 0 0)) bb { K with ca := none, cc := 0 } { x with code := [] } ∧ Fr S w (w.setCell ⟨bb, 1, none⟩ (.slice none 0 0)) := by
  refine h.putCode [] ((Fr.refl _ w).setCell (p := ⟨bb, 1, none⟩) (.inl (.inr rfl)) _) (by simpa using h.here.put 1 (.slice none 0 0)) ⟨rfl, .inl ⟨rfl, rfl⟩⟩ (fun g hg => by simp [Value.ownBlock] at hg)
/-- another module under the builder -/
theorem BelRep.putNew (h : BelRep q S w bb K x) {bm' : Nat} {L' : ModL} {m' : ModD} (hF : Fr (fun _ => False) w w') (hM : ModRep (fun k => k = bm') w' bm' L' m') (hb : w.heap.size ≤ bm') :
    BelRep q (Own S w (w'.setCell ⟨bb, 0, none⟩ (.pointer (some ⟨bm', 0, none⟩)))) (w'.setCell ⟨bb, 0, none⟩ (.pointer (some ⟨bm', 0, none⟩))) bb { K with bm := bm', L := L' } { x with m := m' } ∧ Fr S w (w'.setCell ⟨bb, 0, none⟩ (.pointer (some ⟨bm', 0, none⟩))) := by
  have h1 := h.newer hF
  have hlt := h.here.lt
  have hbl := hM.here.lt
  have hF2 : Fr (fun k => k = bb) w' (w'.setCell ⟨bb, 0, none⟩ (.pointer (some ⟨bm', 0, none⟩))) := Fr.setCell (S := fun k => k = bb) (Fr.refl _ w') (p := ⟨bb, 0, none⟩) (.inl rfl) _
  refine ⟨?_, (hF.weaken (fun _ _ h => h.elim)).trans hF2 (fun j _ hj => by subst hj; exact h.own)⟩
  exact
    { here := by simpa using h1.here.put 0 (.pointer (some ⟨bm', 0, none⟩))
      mod := (hM.fr hF2 (fun k hk hk' => by omega)).sub (fun k hk => by
        subst hk
        refine ⟨.inr ⟨hb, by simpa [World.setCell] using hbl⟩, by omega, fun e => ?_⟩
        have := owns_lt h.code _ e; omega)
      code := owns_fr h1.code hF2 (fun g hg e => by subst e; exact owns_ne h1.code h1.here (by decide) hg)
      own := .inl h.own
      ownC := fun g hg => .inl (h.ownC g hg) }
end

end Go.Proofs.Qxb6500575aGreatDoor
