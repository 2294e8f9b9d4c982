/-
  A REGION THAT DRAWS ITS ORDER, BY A PLAN: reads that may be taken first, operations that turn the world in whatever order the plan allows, and a tail. Own work over the kit's laws.
-/
import Derived.Test.Qxb6500574aGreatDoorReg6
import Derived.Test.Qxb6500574aGreatDoorReg8
namespace Go.Proofs.Qxb6500574aGreatDoor
open Go Go.RowKit
set_option linter.unusedVariables false
set_option linter.unusedSimpArgs false

section
variable {P : Program} {Q : Exit → Act → World → Prop} {S : World → Prop} {need : Nat → Bool} {ops : Array Oper} {md : Region.Mode}
theorem wpOp_oneS {k g : Nat} {listed : Array Bool} {o : Oper} {a : Act} {w : World} {K : Act → World → Prop} (h0 : ops[k]? = some o) (hK : ∀ a' w', S w' → K a' w' → wpAnyM P md ops Q S need g (listed.setIfInBounds k true) a' w')
    (h : wpList P ops (Exit.then (fun a' w' => S w' ∧ K a' w') Q) [o] a w) : wpOp P ops Q k (fun a' w' => (need k = true → S w') ∧ wpAnyM P md ops Q S need g (listed.setIfInBounds k true) a' w') a w := by
  unfold wpList at h
  unfold wpOp
  simp only [h0]
  split
  · rename_i hw
    rw [if_pos hw] at h
    rcases h with h | ⟨h1, h2⟩
    · exact .inl (Oper.wp_mono (fun a' w' h' => ⟨fun _ => h'.1, hK a' w' h'.1 h'.2⟩) (wp_then h))
    · exact .inr ⟨h1, h2⟩
  · rename_i hw
    rw [if_neg hw] at h
    exact ⟨fun _ => h.1, hK _ _ h.1 h.2⟩
end
/-- what may come next: how many are left, whether the order is as the plan says, what is to be shown, and that this suffices -/
structure Plan where
  lenF : Nat → Nat
  okF : Array Oper → Nat → Array Bool → Bool
  wpF : Program → Array Oper → (Exit → Act → World → Prop) → (World → Prop) → (Act → World → Prop) → Act → World → Prop
  sound : ∀ (P : Program) (Q : Exit → Act → World → Prop) (S : World → Prop) (ops : Array Oper), Region.noSelect ops = true → (∀ c a t v w, Q (.panic c) (a.put (some t) v) w → Q (.panic c) a w) → ∀ t : Nat, t ≤ ops.size → ∀ tl : List Oper, (∀ j, tl[j]? = ops[t + j]?) → tl.length = ops.size - t →
    ∀ G : Act → World → Prop, (∀ a w, S w → G a w → wpChain P ops Q S tl tl.length a w) → ∀ (L : Array Bool) (a : Act) (w : World), ClosedL .any ops L → S w → okF ops t L = true → wpF P ops Q S G a w → wpAnyM P .any ops Q S (fun j => decide (j < ops.size)) (lenF (ops.size - t)) L a w
def Plan.len (t : Nat) (p : Plan) : Nat := p.lenF t
def Plan.ok (ops : Array Oper) (t : Nat) (p : Plan) (L : Array Bool) : Bool := p.okF ops t L
def Plan.wp (P : Program) (ops : Array Oper) (Q : Exit → Act → World → Prop) (S : World → Prop) (G : Act → World → Prop) (p : Plan) (a : Act) (w : World) : Prop := p.wpF P ops Q S G a w
def Plan.done : Plan where
  lenF := fun t => t
  okF := fun ops t L => chainFrom .any ops (ops.size - t) t L
  wpF := fun _ _ _ _ G a w => G a w
  sound := by
    intro P Q S ops hs hQ t ht tl htl hlen G hG L a w hc hS hB h
    have hn : ∀ j, j < ops.size → (fun j => decide (j < ops.size)) j = true := fun j hj => by simpa using hj
    have := wpAnyM_chain (P := P) (ops := ops) (Q := Q) (S := S) (md := .any) (need := fun j => decide (j < ops.size)) tl.length tl t L a w (fun j hj => by simp; omega) (Nat.le_refl _) htl (by rw [hlen]; exact hB) (hG a w hS h)
    rw [hlen] at this
    exact this
def Plan.quiet (ks : List Nat) (p : Plan) : Plan where
  lenF := fun t => ks.length + p.len t
  okF := fun ops t L => headF .any ops ks L && p.ok ops t (listAll ks L)
  wpF := fun P ops Q S G a w => ∃ hl, ks.map (fun k => ops[k]?) = hl.map some ∧ wpQuiet P ops S (fun a' => p.wp P ops Q S G a' w) hl a
  sound := by
    intro P Q S ops hs hQ t ht tl htl hlen G hG L a w hc hS hB h
    have ih := p.sound P Q S ops hs hQ t ht tl htl hlen G hG
    have hn : ∀ j, j < ops.size → (fun j => decide (j < ops.size)) j = true := fun j hj => by simpa using hj
    simp only [Bool.and_eq_true] at hB
    obtain ⟨hl, hh, h⟩ := h
    exact wpAnyM_headF (P := P) (ops := ops) (Q := Q) (md := .any) (S := S) (need := fun j => decide (j < ops.size)) hn hs hQ hS (p.len (ops.size - t)) ks hl L a hc hh hB.1 (fun a' ha' hc' => ih _ a' w hc' hS hB.2 ha') h
def Plan.one (k : Nat) (p : Plan) : Plan where
  lenF := fun t => p.len t + 1
  okF := fun ops t L => (Region.ready .any ops L == [k]) && p.ok ops t (L.setIfInBounds k true)
  wpF := fun P ops Q S G a w => ∃ o, ops[k]? = some o ∧ wpList P ops (Exit.then (fun a' w' => S w' ∧ p.wp P ops Q S G a' w') Q) [o] a w
  sound := by
    intro P Q S ops hs hQ t ht tl htl hlen G hG L a w hc hS hB h
    have ih := p.sound P Q S ops hs hQ t ht tl htl hlen G hG
    simp only [Bool.and_eq_true, beq_iff_eq] at hB
    obtain ⟨o, ho, h⟩ := h
    refine ⟨fun e => (by rw [hB.1] at e; cases e), fun i hi => ?_⟩
    have hi' := hi
    rw [hB.1] at hi'
    obtain rfl : i = k := by simpa using hi'
    exact wpOp_oneS ho (fun a' w' hS' hk => ih _ a' w' (hc.set hi) hS' hB.2 hk) h
def Plan.two (k : Nat) (p : Plan) (k' : Nat) (p' : Plan) : Plan where
  lenF := fun t => p.len t + 1
  okF := fun ops t L => (Region.ready .any ops L == [k, k']) && p.ok ops t (L.setIfInBounds k true) && p'.ok ops t (L.setIfInBounds k' true) && decide (p'.len (ops.size - t) = p.len (ops.size - t))
  wpF := fun P ops Q S G a w => (∃ o, ops[k]? = some o ∧ wpList P ops (Exit.then (fun a' w' => S w' ∧ p.wp P ops Q S G a' w') Q) [o] a w) ∧ (∃ o, ops[k']? = some o ∧ wpList P ops (Exit.then (fun a' w' => S w' ∧ p'.wp P ops Q S G a' w') Q) [o] a w)
  sound := by
    intro P Q S ops hs hQ t ht tl htl hlen G hG L a w hc hS hB h
    have ih := p.sound P Q S ops hs hQ t ht tl htl hlen G hG
    have ih' := p'.sound P Q S ops hs hQ t ht tl htl hlen G hG
    simp only [Bool.and_eq_true, beq_iff_eq, decide_eq_true_eq] at hB
    obtain ⟨⟨⟨hr, h1⟩, h2⟩, he⟩ := hB
    obtain ⟨⟨o, ho, hx⟩, ⟨o', ho', hx'⟩⟩ := h
    refine ⟨fun e => (by rw [hr] at e; cases e), fun i hi => ?_⟩
    have hi' := hi
    rw [hr] at hi'
    simp at hi'
    rcases hi' with rfl | rfl
    · exact wpOp_oneS ho (fun a' w' hS' hk => ih _ a' w' (hc.set hi) hS' h1 hk) hx
    · refine wpOp_oneS (md := .any) (need := fun j => decide (j < ops.size)) (listed := L) (g := p.len (ops.size - t)) ho' (fun a' w' hS' hk => ?_) hx'
      rw [← he]
      exact ih' _ a' w' (hc.set hi) hS' h2 hk
def Plan.three (k : Nat) (p : Plan) (k' : Nat) (p' : Plan) (k2 : Nat) (p2 : Plan) : Plan where
  lenF := fun t => p.len t + 1
  okF := fun ops t L => (Region.ready .any ops L == [k, k', k2]) && p.ok ops t (L.setIfInBounds k true) && p'.ok ops t (L.setIfInBounds k' true) && p2.ok ops t (L.setIfInBounds k2 true) && decide (p'.len (ops.size - t) = p.len (ops.size - t)) && decide (p2.len (ops.size - t) = p.len (ops.size - t))
  wpF := fun P ops Q S G a w => (∃ o, ops[k]? = some o ∧ wpList P ops (Exit.then (fun a' w' => S w' ∧ p.wp P ops Q S G a' w') Q) [o] a w) ∧ (∃ o, ops[k']? = some o ∧ wpList P ops (Exit.then (fun a' w' => S w' ∧ p'.wp P ops Q S G a' w') Q) [o] a w) ∧ (∃ o, ops[k2]? = some o ∧ wpList P ops (Exit.then (fun a' w' => S w' ∧ p2.wp P ops Q S G a' w') Q) [o] a w)
  sound := by
    intro P Q S ops hs hQ t ht tl htl hlen G hG L a w hc hS hB h
    have ih := p.sound P Q S ops hs hQ t ht tl htl hlen G hG
    have ih' := p'.sound P Q S ops hs hQ t ht tl htl hlen G hG
    have ih2 := p2.sound P Q S ops hs hQ t ht tl htl hlen G hG
    simp only [Bool.and_eq_true, beq_iff_eq, decide_eq_true_eq] at hB
    obtain ⟨⟨⟨⟨⟨hr, h1⟩, h2⟩, h3⟩, he⟩, he2⟩ := hB
    obtain ⟨⟨o, ho, hx⟩, ⟨o', ho', hx'⟩, ⟨o2, ho2, hx2⟩⟩ := h
    refine ⟨fun e => (by rw [hr] at e; cases e), fun i hi => ?_⟩
    have hi' := hi
    rw [hr] at hi'
    simp at hi'
    rcases hi' with rfl | rfl | rfl
    · exact wpOp_oneS ho (fun a' w' hS' hk => ih _ a' w' (hc.set hi) hS' h1 hk) hx
    · refine wpOp_oneS (md := .any) (need := fun j => decide (j < ops.size)) (listed := L) (g := p.len (ops.size - t)) ho' (fun a' w' hS' hk => ?_) hx'
      rw [← he]
      exact ih' _ a' w' (hc.set hi) hS' h2 hk
    · refine wpOp_oneS (md := .any) (need := fun j => decide (j < ops.size)) (listed := L) (g := p.len (ops.size - t)) ho2 (fun a' w' hS' hk => ?_) hx2
      rw [← he2]
      exact ih2 _ a' w' (hc.set hi) hS' h3 hk
section
variable {P : Program} {Q : Exit → Act → World → Prop}
def planB (ops : Array Oper) (ks : List Nat) (p : Plan) (t : Nat) : Bool :=
  Region.noSelect ops && decide (t ≤ ops.size) && decide (ks.length + p.len (ops.size - t) = ops.size) && headF .any ops ks (Array.replicate ops.size false) && p.ok ops t (listAll ks (Array.replicate ops.size false))
theorem wpAny_plan {a : Act} {w : World} {l : List Oper} (ks : List Nat) (p : Plan) (t : Nat) (S : World → Prop) (hB : planB l.toArray ks p t = true)
    (hQ : ∀ c a t v w, Q (.panic c) (a.put (some t) v) w → Q (.panic c) a w) (hS : S w) (hl : List Oper) (hh : ks.map (fun k => l.toArray[k]?) = hl.map some) (tl : List Oper) (htl : l.drop t = tl)
    (h : wpQuiet P l.toArray S (fun a' => ∃ G1 : Act → Act → World → Prop, (∀ a w, S w → G1 a' a w → wpChain P l.toArray Q S tl tl.length a w) ∧ ∀ G : Act → World → Prop, Hid (G = G1 a') → p.wp P l.toArray Q S G a' w) hl a) : wpAny P .any l.toArray Q l.toArray.size (Array.replicate l.toArray.size false) a w := by
  subst htl
  simp only [planB, Bool.and_eq_true, decide_eq_true_eq] at hB
  obtain ⟨⟨⟨⟨hs, ht⟩, hlen⟩, hhd⟩, hp⟩ := hB
  refine wpAny_of_M (S := S) (need := fun j => decide (j < l.toArray.size)) _ _ _ _ ?_
  have hn : ∀ j, j < l.toArray.size → (fun j => decide (j < l.toArray.size)) j = true := fun j hj => by simpa using hj
  have hcl0 : ClosedL .any l.toArray (Array.replicate l.toArray.size false) := fun j oj _ hl => by rw [getD_replicate_false] at hl; cases hl
  have := wpAnyM_headF (P := P) (ops := l.toArray) (Q := Q) (md := .any) (S := S) (need := fun j => decide (j < l.toArray.size)) hn hs hQ hS (p.len (l.toArray.size - t)) ks hl (Array.replicate l.toArray.size false) a hcl0 hh hhd
    (fun a' ha' hcl => by
      obtain ⟨G1, hG, hW⟩ := ha'
      exact p.sound P Q S l.toArray hs hQ t ht (l.drop t) (fun j => by simp) (by simp) (G1 a') hG _ a' _ hcl hS hp (hW (G1 a') rfl)) h
  rw [hlen] at this
  exact this
/-- reads ks, the plan, the tail from number t on; the tail is walked once, of what G1 says -/
theorem wp_region_plan {id : Nat} {a : Act} {w : World} {l : List Oper} (ks : List Nat) (p : Plan) (t : Nat) (S : World → Prop) (hm : P.follows .mixedOrders = true) (hB : planB l.toArray ks p t = true)
    (hQ : ∀ c a t v w, Q (.panic c) (a.put (some t) v) w → Q (.panic c) a w) (hS : S w.drew) (hl : List Oper) (hh : ks.map (fun k => l.toArray[k]?) = hl.map some) (tl : List Oper) (htl : l.drop t = tl)
    (h : wpQuiet P l.toArray S (fun a' => ∃ G1 : Act → Act → World → Prop, (∀ a w, S w → G1 a' a w → wpChain P l.toArray Q S tl tl.length a w) ∧ ∀ G : Act → World → Prop, Hid (G = G1 a') → p.wp P l.toArray Q S G a' w.drew) hl a) : (Code.region id l.toArray true).wp P Q a w :=
  wp_region_any hm (wpAny_plan ks p t S hB hQ hS hl hh tl htl h)
end
end Go.Proofs.Qxb6500574aGreatDoor
