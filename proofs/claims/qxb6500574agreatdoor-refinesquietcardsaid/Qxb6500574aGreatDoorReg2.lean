/-
  A REGION THAT DRAWS ITS ORDER: reads, one call among them, then a tail that waits for all. No program.
-/
import Derived.Test.Qxb6500574aGreatDoorReg
namespace Go.Proofs.Qxb6500574aGreatDoor
open Go Go.RowKit
set_option linter.unusedVariables false
set_option linter.unusedSimpArgs false
section
variable {P : Program} {Q : Exit → Act → World → Prop} {S : World → Prop}
def midB (ops : Array Oper) (ks : List Nat) (k1 t : Nat) : Bool :=
  Region.noSelect ops && decide (ks.length + (1 + (ops.size - t)) = ops.size) && decide (k1 < t) && sinkA .any ops t [] && headFrom .any ops t [] ks (Array.replicate ops.size false) && (Region.ready .any ops (listAll ks (Array.replicate ops.size false)) == [k1]) && chainFrom .any ops (ops.size - t) t ((listAll ks (Array.replicate ops.size false)).setIfInBounds k1 true)
theorem wp_region_mid {id : Nat} {a : Act} {w : World} {l : List Oper} (ks : List Nat) (k1 t : Nat) (S : World → Prop) (hm : P.follows .mixedOrders = true) (hB : midB l.toArray ks k1 t = true)
    (hQ : ∀ c a t v w, Q (.panic c) (a.put (some t) v) w → Q (.panic c) a w) (hS : S w.drew) (hl : List Oper) (hh : ks.map (fun k => l.toArray[k]?) = hl.map some) (o : Oper) (ho : l[k1]? = some o)
    (h : wpQuiet P l.toArray S (fun a' => wpList P l.toArray (Exit.then (fun a' w' => S w' ∧ wpList P l.toArray Q (l.drop t) a' w') Q) [o] a' w.drew) hl a) : (Code.region id l.toArray true).wp P Q a w := by
  simp only [midB, Bool.and_eq_true, decide_eq_true_eq, beq_iff_eq] at hB
  obtain ⟨⟨⟨⟨⟨⟨hs, hlen⟩, hk1⟩, hsk⟩, hhd⟩, hr1⟩, hc⟩ := hB
  refine wp_region_any hm (wpAny_of_M (S := S) (need := needOf t []) _ _ _ _ ?_)
  have hld : (l.drop t).length = l.toArray.size - t := by simp
  have hcl0 : ClosedL .any l.toArray (Array.replicate l.toArray.size false) := fun j oj _ hl => by rw [getD_replicate_false] at hl; cases hl
  have := wpAnyM_head (P := P) (ops := l.toArray) (Q := Q) (md := .any) (S := S) (m := t) (A := []) hs hsk hQ hS (1 + (l.drop t).length) (T := fun a' => wpList P l.toArray (Exit.then (fun a' w' => S w' ∧ wpList P l.toArray Q (l.drop t) a' w') Q) [o] a' w.drew) ks hl (Array.replicate l.toArray.size false) a hcl0 hh hhd
    (fun a' ha' => by
      rw [Nat.add_comm]
      refine ⟨fun h' => (by rw [hr1] at h'; cases h'), fun i hi => ?_⟩
      rw [hr1] at hi
      obtain rfl : i = k1 := by simpa using hi
      have h0 : l.toArray[i]? = some o := by simpa using ho
      have key := fun a' w' (h : wpList P l.toArray Q (l.drop t) a' w') => wpAnyM_tail (P := P) (ops := l.toArray) (Q := Q) (S := S) (md := .any) (need := needOf t []) (l.drop t) t ((listAll ks (Array.replicate l.toArray.size false)).setIfInBounds i true) a' w' (fun j hj => by simp [needOf]; omega) (fun j => by simp) (by rw [hld]; exact hc) h
      unfold wpList at ha'
      unfold wpOp
      simp only [h0]
      split
      · rename_i hw
        rw [if_pos hw] at ha'
        rcases ha' with h | ⟨h1, h2⟩
        · exact .inl (Oper.wp_mono (fun a' w' h' => ⟨fun _ => h'.1, key a' w' h'.2⟩) (wp_then h))
        · exact .inr ⟨h1, h2⟩
      · rename_i hw
        rw [if_neg hw] at ha'
        exact ⟨fun _ => ha'.1, key _ _ ha'.2⟩) h
  rw [hld, hlen] at this
  exact this
end
end Go.Proofs.Qxb6500574aGreatDoor
