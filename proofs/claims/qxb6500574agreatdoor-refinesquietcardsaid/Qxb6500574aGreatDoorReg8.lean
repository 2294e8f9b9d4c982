/-
  A region that draws its order: reads; a call; mere work on what it answers; and an operation (a new variable's block) that may come at any time; then a tail. Own work over the kit's laws.
-/
import Derived.Test.Qxb6500574aGreatDoorReg6
import Derived.Test.Qxb6500574aGreatDoorMem
namespace Go.Proofs.Qxb6500574aGreatDoor
open Go Go.RowKit
set_option linter.unusedVariables false
set_option linter.unusedSimpArgs false

section
variable {P : Program} {Q : Exit → Act → World → Prop} {S : World → Prop} {need : Nat → Bool} {ops : Array Oper} {md : Region.Mode}
def callB (ops : Array Oper) (ks1 ks2 : List Nat) (k1 kA t : Nat) : Bool :=
  Region.noSelect ops && decide (ks1.length + (1 + (ks2.length + (1 + (ops.size - t)))) = ops.size) && headF .any ops ks1 (Array.replicate ops.size false) &&
  (let l0 := listAll ks1 (Array.replicate ops.size false)
   (Region.ready .any ops l0 == [k1, kA]) && (Region.ready .any ops (l0.setIfInBounds kA true) == [k1]) &&
   headF .any ops ks2 (l0.setIfInBounds k1 true) && (Region.ready .any ops (listAll ks2 (l0.setIfInBounds k1 true)) == [kA]) &&
   headF .any ops ks2 ((l0.setIfInBounds kA true).setIfInBounds k1 true) &&
   chainFrom .any ops (ops.size - t) t ((listAll ks2 (l0.setIfInBounds k1 true)).setIfInBounds kA true) &&
   chainFrom .any ops (ops.size - t) t (listAll ks2 ((l0.setIfInBounds kA true).setIfInBounds k1 true)))
theorem wp_region_call {id : Nat} {a : Act} {w : World} {l : List Oper} (ks1 ks2 : List Nat) (k1 kA t : Nat) (S : World → Prop) (hm : P.follows .mixedOrders = true) (hB : callB l.toArray ks1 ks2 k1 kA t = true)
    (hQ : ∀ c a t v w, Q (.panic c) (a.put (some t) v) w → Q (.panic c) a w) (hS : S w.drew) (hl1 hl2 : List Oper) (hh1 : ks1.map (fun k => l.toArray[k]?) = hl1.map some) (hh2 : ks2.map (fun k => l.toArray[k]?) = hl2.map some) (o1 oA : Oper) (h1 : l[k1]? = some o1) (hA : l[kA]? = some oA) (tl : List Oper) (htl : l.drop t = tl)
    (h : wpQuiet P l.toArray S (fun a' =>
      wpList P l.toArray (Exit.then (fun a1 w1 => S w1 ∧ S w1 ∧ wpQuiet P l.toArray S (fun a2 => wpList P l.toArray (Exit.then (fun a3 w3 => S w3 ∧ wpChain P l.toArray Q S tl tl.length a3 w3) Q) [oA] a2 w1) hl2 a1) Q) [o1] a' w.drew ∧
      wpList P l.toArray (Exit.then (fun a1 w1 => S w1 ∧ wpList P l.toArray (Exit.then (fun a2 w2 => S w2 ∧ S w2 ∧ wpQuiet P l.toArray S (fun a3 => wpChain P l.toArray Q S tl tl.length a3 w2) hl2 a2) Q) [o1] a1 w1) Q) [oA] a' w.drew) hl1 a) : (Code.region id l.toArray true).wp P Q a w := by
  subst htl
  simp only [callB, Bool.and_eq_true, decide_eq_true_eq, beq_iff_eq] at hB
  obtain ⟨⟨⟨hs, hlen⟩, hhd⟩, ⟨⟨⟨⟨⟨⟨r0, rA⟩, hd2⟩, r1⟩, hd3⟩, hc1⟩, hc2⟩⟩ := hB
  refine wp_region_any hm (wpAny_of_M (S := S) (need := fun j => decide (j < l.toArray.size)) _ _ _ _ ?_)
  have hn : ∀ j, j < l.toArray.size → (fun j => decide (j < l.toArray.size)) j = true := fun j hj => by simpa using hj
  have hld : (l.drop t).length = l.toArray.size - t := by simp
  have hcl0 : ClosedL .any l.toArray (Array.replicate l.toArray.size false) := fun j oj _ hl => by rw [getD_replicate_false] at hl; cases hl
  have g1 : l.toArray[k1]? = some o1 := by simpa using h1
  have gA : l.toArray[kA]? = some oA := by simpa using hA
  have tail := fun (L : Array Bool) (hc : chainFrom .any l.toArray (l.toArray.size - t) t L = true) a2 w2 (ha : wpChain P l.toArray Q S (l.drop t) (l.drop t).length a2 w2) => wpAnyM_chain (P := P) (ops := l.toArray) (Q := Q) (S := S) (md := .any) (need := fun j => decide (j < l.toArray.size)) (l.drop t).length (l.drop t) t L a2 w2 (fun j hj => by simp at hj ⊢; omega) (Nat.le_refl _) (fun j => by simp) (by rw [hld]; exact hc) ha
  generalize hL : listAll ks1 (Array.replicate l.toArray.size false) = L0 at *
  have := wpAnyM_headF (P := P) (ops := l.toArray) (Q := Q) (md := .any) (S := S) (need := fun j => decide (j < l.toArray.size)) hn hs hQ hS (1 + (ks2.length + (1 + (l.drop t).length))) ks1 hl1 (Array.replicate l.toArray.size false) a hcl0 hh1 hhd
    (fun a' ha' hcl => by
      rw [hL] at hcl ⊢
      obtain ⟨hX, hY⟩ := ha'
      rw [show 1 + (ks2.length + (1 + (l.drop t).length)) = (ks2.length + (1 + (l.drop t).length)) + 1 by omega]
      refine wpAnyM_two r0 g1 gA (fun a1 w1 h' => ?_) (fun a1 w1 h' => ?_) (K := fun a1 w1 => S w1 ∧ wpQuiet P l.toArray S (fun a2 => wpList P l.toArray (Exit.then (fun a3 w3 => S w3 ∧ wpChain P l.toArray Q S (l.drop t) (l.drop t).length a3 w3) Q) [oA] a2 w1) hl2 a1) (K' := fun a1 w1 => wpList P l.toArray (Exit.then (fun a2 w2 => S w2 ∧ S w2 ∧ wpQuiet P l.toArray S (fun a3 => wpChain P l.toArray Q S (l.drop t) (l.drop t).length a3 w2) hl2 a2) Q) [o1] a1 w1) ?_ ?_
      · refine wpAnyM_headF (P := P) (ops := l.toArray) (Q := Q) (md := .any) (S := S) (need := fun j => decide (j < l.toArray.size)) hn hs hQ h'.1 (1 + (l.drop t).length) ks2 hl2 _ a1 (hcl.set (by rw [r0]; simp)) hh2 hd2 (fun a2 ha2 _ => ?_) h'.2
        rw [show 1 + (l.drop t).length = (l.drop t).length + 1 by omega]
        exact wpAnyM_one r1 gA (fun a3 w3 h3 => tail _ hc1 a3 w3 h3) ha2
      · rw [show ks2.length + (1 + (l.drop t).length) = (ks2.length + (l.drop t).length) + 1 by omega]
        refine wpAnyM_one rA g1 (fun a2 w2 h2 => ?_) (K := fun a2 w2 => S w2 ∧ wpQuiet P l.toArray S (fun a3 => wpChain P l.toArray Q S (l.drop t) (l.drop t).length a3 w2) hl2 a2) ?_
        · exact wpAnyM_headF (P := P) (ops := l.toArray) (Q := Q) (md := .any) (S := S) (need := fun j => decide (j < l.toArray.size)) hn hs hQ h2.1 ((l.drop t).length) ks2 hl2 _ a2 ((hcl.set (by rw [r0]; simp)).set (by rw [rA]; simp)) hh2 hd3 (fun a3 ha3 _ => tail _ hc2 a3 w2 ha3) h2.2
        · exact h'
      · exact hX
      · exact hY) h
  rw [hld, hlen] at this
  exact this
end
/-- a world that has grown out of w -/
structure WS (w : World) where
  y : World
  f : Fr (fun _ => False) w y
theorem WS.non (w : World) : Nonempty (WS w) := ⟨⟨w, Fr.refl _ _⟩⟩
def WS.at (w : World) (x : World) : Prop := ∃ s : WS w, x = s.y
end Go.Proofs.Qxb6500574aGreatDoor
