/-
  A region that draws its order: reads, then THREE operations that turn the world (the first ahead of the second, the third anywhere), then a tail. Own work over the kit's laws.
-/
import Derived.Test.Qxb6500574aGreatDoorReg3
import Derived.Test.Qxb6500574aGreatDoorReg5
namespace Go.Proofs.Qxb6500574aGreatDoor
open Go Go.RowKit
set_option linter.unusedVariables false
set_option linter.unusedSimpArgs false

section
variable {P : Program} {Q : Exit → Act → World → Prop} {S : World → Prop} {need : Nat → Bool} {ops : Array Oper} {md : Region.Mode}
def seq3 (P : Program) (ops : Array Oper) (Q : Exit → Act → World → Prop) (S : World → Prop) (x y z : Oper) (tl : List Oper) (a : Act) (w : World) : Prop :=
  wpList P ops (Exit.then (fun a1 w1 => S w1 ∧ wpList P ops (Exit.then (fun a2 w2 => S w2 ∧ wpList P ops (Exit.then (fun a3 w3 => S w3 ∧ wpChain P ops Q S tl tl.length a3 w3) Q) [z] a2 w2) Q) [y] a1 w1) Q) [x] a w
def trioB (ops : Array Oper) (ks : List Nat) (k1 k2 k3 t : Nat) : Bool :=
  Region.noSelect ops && decide (ks.length + (3 + (ops.size - t)) = ops.size) && headF .any ops ks (Array.replicate ops.size false) &&
  (let l0 := listAll ks (Array.replicate ops.size false)
   (Region.ready .any ops l0 == [k1, k3]) && (Region.ready .any ops (l0.setIfInBounds k1 true) == [k2, k3]) && (Region.ready .any ops (l0.setIfInBounds k3 true) == [k1]) &&
   (Region.ready .any ops ((l0.setIfInBounds k1 true).setIfInBounds k3 true) == [k2]) && (Region.ready .any ops ((l0.setIfInBounds k1 true).setIfInBounds k2 true) == [k3]) &&
   chainFrom .any ops (ops.size - t) t (((l0.setIfInBounds k1 true).setIfInBounds k2 true).setIfInBounds k3 true))
theorem wpAnyM_one {k g : Nat} {listed : Array Bool} {o : Oper} {a : Act} {w : World} {K : Act → World → Prop} (hr : Region.ready md ops listed = [k]) (h0 : ops[k]? = some o) (hK : ∀ a' w', K a' w' → wpAnyM P md ops Q S need g (listed.setIfInBounds k true) a' w')
    (h : wpList P ops (Exit.then (fun a' w' => S w' ∧ K a' w') Q) [o] a w) : wpAnyM P md ops Q S need (g + 1) listed a w := by
  refine ⟨fun h' => (by rw [hr] at h'; cases h'), fun i hi => ?_⟩
  rw [hr] at hi
  obtain rfl : i = k := by simpa using hi
  exact wpOp_one h0 hK h
theorem wpAnyM_two {k k' g : Nat} {listed : Array Bool} {o o' : Oper} {a : Act} {w : World} {K K' : Act → World → Prop} (hr : Region.ready md ops listed = [k, k']) (h0 : ops[k]? = some o) (h0' : ops[k']? = some o') (hK : ∀ a' w', K a' w' → wpAnyM P md ops Q S need g (listed.setIfInBounds k true) a' w') (hK' : ∀ a' w', K' a' w' → wpAnyM P md ops Q S need g (listed.setIfInBounds k' true) a' w')
    (h : wpList P ops (Exit.then (fun a' w' => S w' ∧ K a' w') Q) [o] a w) (h' : wpList P ops (Exit.then (fun a' w' => S w' ∧ K' a' w') Q) [o'] a w) : wpAnyM P md ops Q S need (g + 1) listed a w := by
  refine ⟨fun h' => (by rw [hr] at h'; cases h'), fun i hi => ?_⟩
  rw [hr] at hi
  simp only [List.mem_cons, List.not_mem_nil, or_false] at hi
  rcases hi with rfl | rfl
  · exact wpOp_one h0 hK h
  · exact wpOp_one h0' hK' h'
/-- the first operation's two ways on are asked for together -/
theorem wp_region_trio {id : Nat} {a : Act} {w : World} {l : List Oper} (ks : List Nat) (k1 k2 k3 t : Nat) (S : World → Prop) (hm : P.follows .mixedOrders = true) (hB : trioB l.toArray ks k1 k2 k3 t = true)
    (hQ : ∀ c a t v w, Q (.panic c) (a.put (some t) v) w → Q (.panic c) a w) (hS : S w.drew) (hl : List Oper) (hh : ks.map (fun k => l.toArray[k]?) = hl.map some) (o1 o2 o3 : Oper) (h1 : l[k1]? = some o1) (h2 : l[k2]? = some o2) (h3 : l[k3]? = some o3) (tl : List Oper) (htl : l.drop t = tl)
    (n12 : k1 ≠ k2) (n13 : k1 ≠ k3) (n23 : k2 ≠ k3)
    (h : wpQuiet P l.toArray S (fun a' =>
      wpList P l.toArray (Exit.then (fun a1 w1 => S w1 ∧ (
        wpList P l.toArray (Exit.then (fun a2 w2 => S w2 ∧ wpList P l.toArray (Exit.then (fun a3 w3 => S w3 ∧ wpChain P l.toArray Q S tl tl.length a3 w3) Q) [o3] a2 w2) Q) [o2] a1 w1 ∧
        wpList P l.toArray (Exit.then (fun a2 w2 => S w2 ∧ wpList P l.toArray (Exit.then (fun a3 w3 => S w3 ∧ wpChain P l.toArray Q S tl tl.length a3 w3) Q) [o2] a2 w2) Q) [o3] a1 w1)) Q) [o1] a' w.drew ∧
      seq3 P l.toArray Q S o3 o1 o2 tl a' w.drew) hl a) : (Code.region id l.toArray true).wp P Q a w := by
  subst htl
  simp only [trioB, Bool.and_eq_true, decide_eq_true_eq, beq_iff_eq] at hB
  obtain ⟨⟨⟨hs, hlen⟩, hhd⟩, ⟨⟨⟨⟨r0, r1⟩, r3⟩, r13⟩, r12⟩, hc⟩ := hB
  refine wp_region_any hm (wpAny_of_M (S := S) (need := fun j => decide (j < l.toArray.size)) _ _ _ _ ?_)
  have hn : ∀ j, j < l.toArray.size → (fun j => decide (j < l.toArray.size)) j = true := fun j hj => by simpa using hj
  have hld : (l.drop t).length = l.toArray.size - t := by simp
  have hcl0 : ClosedL .any l.toArray (Array.replicate l.toArray.size false) := fun j oj _ hl => by rw [getD_replicate_false] at hl; cases hl
  have g1 : l.toArray[k1]? = some o1 := by simpa using h1
  have g2 : l.toArray[k2]? = some o2 := by simpa using h2
  have g3 : l.toArray[k3]? = some o3 := by simpa using h3
  have tail := fun a2 w2 (ha : wpChain P l.toArray Q S (l.drop t) (l.drop t).length a2 w2) => wpAnyM_chain (P := P) (ops := l.toArray) (Q := Q) (S := S) (md := .any) (need := fun j => decide (j < l.toArray.size)) (l.drop t).length (l.drop t) t ((((listAll ks (Array.replicate l.toArray.size false)).setIfInBounds k1 true).setIfInBounds k2 true).setIfInBounds k3 true) a2 w2 (fun j hj => by simp at hj ⊢; omega) (Nat.le_refl _) (fun j => by simp) (by rw [hld]; exact hc) ha
  generalize hL : listAll ks (Array.replicate l.toArray.size false) = L0 at *
  have e1 : ((L0.setIfInBounds k1 true).setIfInBounds k3 true).setIfInBounds k2 true = ((L0.setIfInBounds k1 true).setIfInBounds k2 true).setIfInBounds k3 true := Array.setIfInBounds_comm _ _ (Ne.symm n23)
  have e2 : ((L0.setIfInBounds k3 true).setIfInBounds k1 true) = ((L0.setIfInBounds k1 true).setIfInBounds k3 true) := Array.setIfInBounds_comm _ _ (Ne.symm n13)
  have := wpAnyM_headF (P := P) (ops := l.toArray) (Q := Q) (md := .any) (S := S) (need := fun j => decide (j < l.toArray.size)) hn hs hQ hS (3 + (l.drop t).length) ks hl (Array.replicate l.toArray.size false) a hcl0 hh hhd
    (fun a' ha' _ => by
      rw [hL]
      obtain ⟨hA, hC⟩ := ha'
      rw [show 3 + (l.drop t).length = ((l.drop t).length + 1 + 1) + 1 by omega]
      refine wpAnyM_two r0 g1 g3 (fun a1 w1 h' => ?_) (fun a1 w1 h' => ?_) hA hC
      · obtain ⟨hx, hy⟩ := h'
        refine wpAnyM_two r1 g2 g3 (fun a2 w2 h2 => ?_) (fun a2 w2 h2 => ?_) hx hy
        · exact wpAnyM_one r12 g3 (fun a3 w3 h3 => tail a3 w3 h3) h2
        · exact wpAnyM_one r13 g2 (fun a3 w3 h3 => by rw [e1]; exact tail a3 w3 h3) h2
      · refine wpAnyM_one r3 g1 (fun a2 w2 h2 => ?_) h'
        rw [e2]
        exact wpAnyM_one r13 g2 (fun a3 w3 h3 => by rw [e1]; exact tail a3 w3 h3) h2) h
  rw [hld, hlen] at this
  exact this
def seq3G (P : Program) (ops : Array Oper) (Q : Exit → Act → World → Prop) (S : World → Prop) (G : Act → World → Prop) (x y z : Oper) (a : Act) (w : World) : Prop :=
  wpList P ops (Exit.then (fun a1 w1 => S w1 ∧ wpList P ops (Exit.then (fun a2 w2 => S w2 ∧ wpList P ops (Exit.then (fun a3 w3 => S w3 ∧ G a3 w3) Q) [z] a2 w2) Q) [y] a1 w1) Q) [x] a w
/-- the same; what the tail needs of frame and world is said once, by G -/
theorem wp_region_trioG {id : Nat} {a : Act} {w : World} {l : List Oper} (ks : List Nat) (k1 k2 k3 t : Nat) (S : World → Prop) (hm : P.follows .mixedOrders = true) (hB : trioB l.toArray ks k1 k2 k3 t = true)
    (hQ : ∀ c a t v w, Q (.panic c) (a.put (some t) v) w → Q (.panic c) a w) (hS : S w.drew) (hl : List Oper) (hh : ks.map (fun k => l.toArray[k]?) = hl.map some) (o1 o2 o3 : Oper) (h1 : l[k1]? = some o1) (h2 : l[k2]? = some o2) (h3 : l[k3]? = some o3) (tl : List Oper) (htl : l.drop t = tl)
    (n12 : k1 ≠ k2) (n13 : k1 ≠ k3) (n23 : k2 ≠ k3)
    (h : wpQuiet P l.toArray S (fun a' => ∃ G1 : Act → Act → World → Prop, (∀ a w, G1 a' a w → wpChain P l.toArray Q S tl tl.length a w) ∧ ∀ G : Act → World → Prop, Hid (G = G1 a') →
      wpList P l.toArray (Exit.then (fun a1 w1 => S w1 ∧ (
        wpList P l.toArray (Exit.then (fun a2 w2 => S w2 ∧ wpList P l.toArray (Exit.then (fun a3 w3 => S w3 ∧ G a3 w3) Q) [o3] a2 w2) Q) [o2] a1 w1 ∧
        wpList P l.toArray (Exit.then (fun a2 w2 => S w2 ∧ wpList P l.toArray (Exit.then (fun a3 w3 => S w3 ∧ G a3 w3) Q) [o2] a2 w2) Q) [o3] a1 w1)) Q) [o1] a' w.drew ∧
      seq3G P l.toArray Q S G o3 o1 o2 a' w.drew) hl a) : (Code.region id l.toArray true).wp P Q a w := by
  subst htl
  simp only [trioB, Bool.and_eq_true, decide_eq_true_eq, beq_iff_eq] at hB
  obtain ⟨⟨⟨hs, hlen⟩, hhd⟩, ⟨⟨⟨⟨r0, r1⟩, r3⟩, r13⟩, r12⟩, hc⟩ := hB
  refine wp_region_any hm (wpAny_of_M (S := S) (need := fun j => decide (j < l.toArray.size)) _ _ _ _ ?_)
  have hn : ∀ j, j < l.toArray.size → (fun j => decide (j < l.toArray.size)) j = true := fun j hj => by simpa using hj
  have hld : (l.drop t).length = l.toArray.size - t := by simp
  have hcl0 : ClosedL .any l.toArray (Array.replicate l.toArray.size false) := fun j oj _ hl => by rw [getD_replicate_false] at hl; cases hl
  have g1 : l.toArray[k1]? = some o1 := by simpa using h1
  have g2 : l.toArray[k2]? = some o2 := by simpa using h2
  have g3 : l.toArray[k3]? = some o3 := by simpa using h3
  have tail := fun a2 w2 (ha : wpChain P l.toArray Q S (l.drop t) (l.drop t).length a2 w2) => wpAnyM_chain (P := P) (ops := l.toArray) (Q := Q) (S := S) (md := .any) (need := fun j => decide (j < l.toArray.size)) (l.drop t).length (l.drop t) t ((((listAll ks (Array.replicate l.toArray.size false)).setIfInBounds k1 true).setIfInBounds k2 true).setIfInBounds k3 true) a2 w2 (fun j hj => by simp at hj ⊢; omega) (Nat.le_refl _) (fun j => by simp) (by rw [hld]; exact hc) ha
  generalize hL : listAll ks (Array.replicate l.toArray.size false) = L0 at *
  have e1 : ((L0.setIfInBounds k1 true).setIfInBounds k3 true).setIfInBounds k2 true = ((L0.setIfInBounds k1 true).setIfInBounds k2 true).setIfInBounds k3 true := Array.setIfInBounds_comm _ _ (Ne.symm n23)
  have e2 : ((L0.setIfInBounds k3 true).setIfInBounds k1 true) = ((L0.setIfInBounds k1 true).setIfInBounds k3 true) := Array.setIfInBounds_comm _ _ (Ne.symm n13)
  have := wpAnyM_headF (P := P) (ops := l.toArray) (Q := Q) (md := .any) (S := S) (need := fun j => decide (j < l.toArray.size)) hn hs hQ hS (3 + (l.drop t).length) ks hl (Array.replicate l.toArray.size false) a hcl0 hh hhd
    (fun a' ha' _ => by
      rw [hL]
      obtain ⟨G1, hG, hAC⟩ := ha'
      obtain ⟨hA, hC⟩ := hAC (G1 a') rfl
      rw [show 3 + (l.drop t).length = ((l.drop t).length + 1 + 1) + 1 by omega]
      refine wpAnyM_two r0 g1 g3 (fun a1 w1 h' => ?_) (fun a1 w1 h' => ?_) hA hC
      · obtain ⟨hx, hy⟩ := h'
        refine wpAnyM_two r1 g2 g3 (fun a2 w2 h2 => ?_) (fun a2 w2 h2 => ?_) hx hy
        · exact wpAnyM_one r12 g3 (fun a3 w3 h3 => tail a3 w3 (hG a3 w3 h3)) h2
        · exact wpAnyM_one r13 g2 (fun a3 w3 h3 => by rw [e1]; exact tail a3 w3 (hG a3 w3 h3)) h2
      · refine wpAnyM_one r3 g1 (fun a2 w2 h2 => ?_) h'
        rw [e2]
        exact wpAnyM_one r13 g2 (fun a3 w3 h3 => by rw [e1]; exact tail a3 w3 (hG a3 w3 h3)) h2) h
  rw [hld, hlen] at this
  exact this
end
end Go.Proofs.Qxb6500574aGreatDoor
