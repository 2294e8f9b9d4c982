/-
  A REGION THAT DRAWS ITS ORDER, BY A PLAN: reads that may be taken first, operations that turn the world in whatever order the plan allows, and a tail. Own work over the kit's laws.
-/
import Derived.Test.Qxb6500577aGreatReg6
import Derived.Test.Qxb6500577aGreatReg8
namespace Go.Proofs.Qxb6500577aGreat
open Go Go.RowKit
set_option linter.unusedVariables false
set_option linter.unusedSimpArgs false

/-- what may come next -/
inductive Plan where
  | done
  | quiet (ks : List Nat) (p : Plan)
  | one (k : Nat) (p : Plan)
  | two (k : Nat) (p : Plan) (k' : Nat) (p' : Plan)
  | three (k : Nat) (p : Plan) (k' : Nat) (p' : Plan) (k2 : Nat) (p2 : Plan)
def Plan.len (t : Nat) : Plan → Nat
  | .done => t
  | .quiet ks p => ks.length + p.len t
  | .one _ p => p.len t + 1
  | .two _ p _ _ => p.len t + 1
  | .three _ p _ _ _ _ => p.len t + 1
def Plan.ok (ops : Array Oper) (t : Nat) : Plan → Array Bool → Bool
  | .done, L => chainFrom .any ops (ops.size - t) t L
  | .quiet ks p, L => headF .any ops ks L && p.ok ops t (listAll ks L)
  | .one k p, L => (Region.ready .any ops L == [k]) && p.ok ops t (L.setIfInBounds k true)
  | .two k p k' p', L => (Region.ready .any ops L == [k, k']) && p.ok ops t (L.setIfInBounds k true) && p'.ok ops t (L.setIfInBounds k' true) && decide (p'.len (ops.size - t) = p.len (ops.size - t))
  | .three k p k' p' k2 p2, L => (Region.ready .any ops L == [k, k', k2]) && p.ok ops t (L.setIfInBounds k true) && p'.ok ops t (L.setIfInBounds k' true) && p2.ok ops t (L.setIfInBounds k2 true) && decide (p'.len (ops.size - t) = p.len (ops.size - t)) && decide (p2.len (ops.size - t) = p.len (ops.size - t))
def Plan.wp (P : Program) (ops : Array Oper) (Q : Exit → Act → World → Prop) (S : World → Prop) (G : Act → World → Prop) : Plan → Act → World → Prop
  | .done, a, w => G a w
  | .quiet ks p, a, w => ∃ hl, ks.map (fun k => ops[k]?) = hl.map some ∧ wpQuiet P ops S (fun a' => p.wp P ops Q S G a' w) hl a
  | .one k p, a, w => ∃ o, ops[k]? = some o ∧ wpList P ops (Exit.then (fun a' w' => S w' ∧ p.wp P ops Q S G a' w') Q) [o] a w
  | .two k p k' p', a, w => (∃ o, ops[k]? = some o ∧ wpList P ops (Exit.then (fun a' w' => S w' ∧ p.wp P ops Q S G a' w') Q) [o] a w) ∧ (∃ o, ops[k']? = some o ∧ wpList P ops (Exit.then (fun a' w' => S w' ∧ p'.wp P ops Q S G a' w') Q) [o] a w)
  | .three k p k' p' k2 p2, a, w => (∃ o, ops[k]? = some o ∧ wpList P ops (Exit.then (fun a' w' => S w' ∧ p.wp P ops Q S G a' w') Q) [o] a w) ∧ (∃ o, ops[k']? = some o ∧ wpList P ops (Exit.then (fun a' w' => S w' ∧ p'.wp P ops Q S G a' w') Q) [o] a w) ∧ (∃ o, ops[k2]? = some o ∧ wpList P ops (Exit.then (fun a' w' => S w' ∧ p2.wp P ops Q S G a' w') Q) [o] a w)
section
variable {P : Program} {Q : Exit → Act → World → Prop} {S : World → Prop} {need : Nat → Bool} {ops : Array Oper} {md : Region.Mode}
theorem wpOp_oneS {k g : Nat} {listed : Array Bool} {o : Oper} {a : Act} {w : World} {K : Act → World → Prop} (h0 : ops[k]? = some o) (hK : ∀ a' w', S w' → K a' w' → wpAnyM P md ops Q S need g (listed.setIfInBounds k true) a' w')
    (h : wpList P ops (Exit.then (fun a' w' => S w' ∧ K a' w') Q) [o] a w) : wpOp P ops Q k (fun a' w' => (need k = true → S w') ∧ wpAnyM P md ops Q S need g (listed.setIfInBounds k true) a' w') a w := by
  unfold wpList at h
  unfold wpOp
  simp only [h0]
  split
  · rename_i hw
    rw [if_pos hw] at h
    rcases h with h | ⟨h1, h2⟩
    · exact .inl (Oper.wp_mono (fun a' w' h' => ⟨fun _ => h'.1, hK a' w' h'.1 h'.2⟩) (wp_then h))
    · exact .inr ⟨h1, h2⟩
  · rename_i hw
    rw [if_neg hw] at h
    exact ⟨fun _ => h.1, hK _ _ h.1 h.2⟩
theorem plan_any (hs : Region.noSelect ops = true) (hQ : ∀ c a t v w, Q (.panic c) (a.put (some t) v) w → Q (.panic c) a w) (t : Nat) (ht : t ≤ ops.size) (tl : List Oper) (htl : ∀ j, tl[j]? = ops[t + j]?) (hlen : tl.length = ops.size - t) {G : Act → World → Prop} (hG : ∀ a w, S w → G a w → wpChain P ops Q S tl tl.length a w) :
    ∀ (p : Plan) (L : Array Bool) (a : Act) (w : World), ClosedL .any ops L → S w → p.ok ops t L = true → p.wp P ops Q S G a w → wpAnyM P .any ops Q S (fun j => decide (j < ops.size)) (p.len (ops.size - t)) L a w := by
  have hn : ∀ j, j < ops.size → (fun j => decide (j < ops.size)) j = true := fun j hj => by simpa using hj
  intro p
  induction p with
  | done =>
    intro L a w hc hS hB h
    have := wpAnyM_chain (P := P) (ops := ops) (Q := Q) (S := S) (md := .any) (need := fun j => decide (j < ops.size)) tl.length tl t L a w (fun j hj => by simp; omega) (Nat.le_refl _) htl (by rw [hlen]; exact hB) (hG a w hS h)
    rw [hlen] at this
    exact this
  | quiet ks p ih =>
    intro L a w hc hS hB h
    simp only [Plan.ok, Bool.and_eq_true] at hB
    obtain ⟨hl, hh, h⟩ := h
    exact wpAnyM_headF (P := P) (ops := ops) (Q := Q) (md := .any) (S := S) (need := fun j => decide (j < ops.size)) hn hs hQ hS (p.len (ops.size - t)) ks hl L a hc hh hB.1 (fun a' ha' hc' => ih _ a' w hc' hS hB.2 ha') h
  | one k p ih =>
    intro L a w hc hS hB h
    simp only [Plan.ok, Bool.and_eq_true, beq_iff_eq] at hB
    obtain ⟨o, ho, h⟩ := h
    refine ⟨fun e => (by rw [hB.1] at e; cases e), fun i hi => ?_⟩
    have hi' := hi
    rw [hB.1] at hi'
    obtain rfl : i = k := by simpa using hi'
    exact wpOp_oneS ho (fun a' w' hS' hk => ih _ a' w' (hc.set hi) hS' hB.2 hk) h
  | two k p k' p' ih ih' =>
    intro L a w hc hS hB h
    simp only [Plan.ok, Bool.and_eq_true, beq_iff_eq, decide_eq_true_eq] at hB
    obtain ⟨⟨⟨hr, h1⟩, h2⟩, he⟩ := hB
    obtain ⟨⟨o, ho, hx⟩, ⟨o', ho', hx'⟩⟩ := h
    refine ⟨fun e => (by rw [hr] at e; cases e), fun i hi => ?_⟩
    have hi' := hi
    rw [hr] at hi'
    simp at hi'
    rcases hi' with rfl | rfl
    · exact wpOp_oneS ho (fun a' w' hS' hk => ih _ a' w' (hc.set hi) hS' h1 hk) hx
    · refine wpOp_oneS (md := .any) (need := fun j => decide (j < ops.size)) (listed := L) (g := p.len (ops.size - t)) ho' (fun a' w' hS' hk => ?_) hx'
      have := ih' _ a' w' (hc.set hi) hS' h2 hk
      rw [he] at this
      exact this
  | three k p k' p' k2 p2 ih ih' ih2 =>
    intro L a w hc hS hB h
    simp only [Plan.ok, Bool.and_eq_true, beq_iff_eq, decide_eq_true_eq] at hB
    obtain ⟨⟨⟨⟨⟨hr, h1⟩, h2⟩, h3⟩, he⟩, he2⟩ := hB
    obtain ⟨⟨o, ho, hx⟩, ⟨o', ho', hx'⟩, ⟨o2, ho2, hx2⟩⟩ := h
    refine ⟨fun e => (by rw [hr] at e; cases e), fun i hi => ?_⟩
    have hi' := hi
    rw [hr] at hi'
    simp at hi'
    rcases hi' with rfl | rfl | rfl
    · exact wpOp_oneS ho (fun a' w' hS' hk => ih _ a' w' (hc.set hi) hS' h1 hk) hx
    · refine wpOp_oneS (md := .any) (need := fun j => decide (j < ops.size)) (listed := L) (g := p.len (ops.size - t)) ho' (fun a' w' hS' hk => ?_) hx'
      have := ih' _ a' w' (hc.set hi) hS' h2 hk
      rw [he] at this
      exact this
    · refine wpOp_oneS (md := .any) (need := fun j => decide (j < ops.size)) (listed := L) (g := p.len (ops.size - t)) ho2 (fun a' w' hS' hk => ?_) hx2
      have := ih2 _ a' w' (hc.set hi) hS' h3 hk
      rw [he2] at this
      exact this
def planB (ops : Array Oper) (ks : List Nat) (p : Plan) (t : Nat) : Bool :=
  Region.noSelect ops && decide (t ≤ ops.size) && decide (ks.length + p.len (ops.size - t) = ops.size) && headF .any ops ks (Array.replicate ops.size false) && p.ok ops t (listAll ks (Array.replicate ops.size false))
theorem wpAny_plan {a : Act} {w : World} {l : List Oper} (ks : List Nat) (p : Plan) (t : Nat) (S : World → Prop) (hB : planB l.toArray ks p t = true)
    (hQ : ∀ c a t v w, Q (.panic c) (a.put (some t) v) w → Q (.panic c) a w) (hS : S w) (hl : List Oper) (hh : ks.map (fun k => l.toArray[k]?) = hl.map some) (tl : List Oper) (htl : l.drop t = tl)
    (h : wpQuiet P l.toArray S (fun a' => ∃ G1 : Act → Act → World → Prop, (∀ a w, S w → G1 a' a w → wpChain P l.toArray Q S tl tl.length a w) ∧ ∀ G : Act → World → Prop, Hid (G = G1 a') → p.wp P l.toArray Q S G a' w) hl a) : wpAny P .any l.toArray Q l.toArray.size (Array.replicate l.toArray.size false) a w := by
  subst htl
  simp only [planB, Bool.and_eq_true, decide_eq_true_eq] at hB
  obtain ⟨⟨⟨⟨hs, ht⟩, hlen⟩, hhd⟩, hp⟩ := hB
  refine wpAny_of_M (S := S) (need := fun j => decide (j < l.toArray.size)) _ _ _ _ ?_
  have hn : ∀ j, j < l.toArray.size → (fun j => decide (j < l.toArray.size)) j = true := fun j hj => by simpa using hj
  have hcl0 : ClosedL .any l.toArray (Array.replicate l.toArray.size false) := fun j oj _ hl => by rw [getD_replicate_false] at hl; cases hl
  have := wpAnyM_headF (P := P) (ops := l.toArray) (Q := Q) (md := .any) (S := S) (need := fun j => decide (j < l.toArray.size)) hn hs hQ hS (p.len (l.toArray.size - t)) ks hl (Array.replicate l.toArray.size false) a hcl0 hh hhd
    (fun a' ha' hcl => by
      obtain ⟨G1, hG, hW⟩ := ha'
      exact plan_any hs hQ t ht (l.drop t) (fun j => by simp) (by simp) hG p _ a' _ hcl hS hp (hW (G1 a') rfl)) h
  rw [hlen] at this
  exact this
/-- reads ks, the plan, the tail from number t on; the tail is walked once, of what G1 says -/
theorem wp_region_plan {id : Nat} {a : Act} {w : World} {l : List Oper} (ks : List Nat) (p : Plan) (t : Nat) (S : World → Prop) (hm : P.follows .mixedOrders = true) (hB : planB l.toArray ks p t = true)
    (hQ : ∀ c a t v w, Q (.panic c) (a.put (some t) v) w → Q (.panic c) a w) (hS : S w.drew) (hl : List Oper) (hh : ks.map (fun k => l.toArray[k]?) = hl.map some) (tl : List Oper) (htl : l.drop t = tl)
    (h : wpQuiet P l.toArray S (fun a' => ∃ G1 : Act → Act → World → Prop, (∀ a w, S w → G1 a' a w → wpChain P l.toArray Q S tl tl.length a w) ∧ ∀ G : Act → World → Prop, Hid (G = G1 a') → p.wp P l.toArray Q S G a' w.drew) hl a) : (Code.region id l.toArray true).wp P Q a w :=
  wp_region_any hm (wpAny_plan ks p t S hB hQ hS hl hh tl htl h)
end
end Go.Proofs.Qxb6500577aGreat
