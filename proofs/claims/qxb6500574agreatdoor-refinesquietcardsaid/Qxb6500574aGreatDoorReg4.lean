/-
  A REGION THAT DRAWS ITS ORDER: reads, one call, then operations one behind the other, then a tail that waits for all. No program.
-/
import Derived.Test.Qxb6500574aGreatDoorReg2
namespace Go.Proofs.Qxb6500574aGreatDoor
open Go Go.RowKit
set_option linter.unusedVariables false
set_option linter.unusedSimpArgs false
section
variable {P : Program} {Q : Exit → Act → World → Prop} {S : World → Prop}
def mid2B (ops : Array Oper) (ks : List Nat) (k1 c : Nat) : Bool :=
  Region.noSelect ops && decide (ks.length + (1 + (ops.size - (k1 + 1))) = ops.size) && decide (c ≤ ops.size - (k1 + 1)) && sinkA .any ops (k1 + 1 + c) [] && headFrom .any ops (k1 + 1 + c) [] ks (Array.replicate ops.size false) && (Region.ready .any ops (listAll ks (Array.replicate ops.size false)) == [k1]) && chainFrom .any ops (ops.size - (k1 + 1)) (k1 + 1) ((listAll ks (Array.replicate ops.size false)).setIfInBounds k1 true)
theorem wp_region_mid2 {id : Nat} {a : Act} {w : World} {l : List Oper} (ks : List Nat) (k1 c : Nat) (S : World → Prop) (hm : P.follows .mixedOrders = true) (hB : mid2B l.toArray ks k1 c = true)
    (hQ : ∀ c a t v w, Q (.panic c) (a.put (some t) v) w → Q (.panic c) a w) (hS : S w.drew) (hl : List Oper) (hh : ks.map (fun k => l.toArray[k]?) = hl.map some) (o : Oper) (ho : l[k1]? = some o)
    (h : wpQuiet P l.toArray S (fun a' => wpList P l.toArray (Exit.then (fun a' w' => S w' ∧ wpChain P l.toArray Q S (l.drop (k1 + 1)) c a' w') Q) [o] a' w.drew) hl a) : (Code.region id l.toArray true).wp P Q a w := by
  simp only [mid2B, Bool.and_eq_true, decide_eq_true_eq, beq_iff_eq] at hB
  obtain ⟨⟨⟨⟨⟨⟨hs, hlen⟩, hcl⟩, hsk⟩, hhd⟩, hr1⟩, hc⟩ := hB
  refine wp_region_any hm (wpAny_of_M (S := S) (need := needOf (k1 + 1 + c) []) _ _ _ _ ?_)
  have hld : (l.drop (k1 + 1)).length = l.toArray.size - (k1 + 1) := by simp
  have hcl0 : ClosedL .any l.toArray (Array.replicate l.toArray.size false) := fun j oj _ hl => by rw [getD_replicate_false] at hl; cases hl
  have := wpAnyM_head (P := P) (ops := l.toArray) (Q := Q) (md := .any) (S := S) (m := k1 + 1 + c) (A := []) hs hsk hQ hS (1 + (l.drop (k1 + 1)).length) (T := fun a' => wpList P l.toArray (Exit.then (fun a' w' => S w' ∧ wpChain P l.toArray Q S (l.drop (k1 + 1)) c a' w') Q) [o] a' w.drew) ks hl (Array.replicate l.toArray.size false) a hcl0 hh hhd
    (fun a' ha' => by
      rw [Nat.add_comm 1 (l.drop (k1 + 1)).length]
      refine ⟨fun h' => (by rw [hr1] at h'; cases h'), fun i hi => ?_⟩
      rw [hr1] at hi
      obtain rfl : i = k1 := by simpa using hi
      have h0 : l.toArray[i]? = some o := by simpa using ho
      have key := fun a' w' (h : wpChain P l.toArray Q S (l.drop (i + 1)) c a' w') => wpAnyM_chain (P := P) (ops := l.toArray) (Q := Q) (S := S) (md := .any) (need := needOf (i + 1 + c) []) c (l.drop (i + 1)) (i + 1) ((listAll ks (Array.replicate l.toArray.size false)).setIfInBounds i true) a' w' (fun j hj => by simp [needOf]; omega) (by rw [hld]; exact hcl) (fun j => by simp) (by rw [hld]; exact hc) h
      unfold wpList at ha'
      unfold wpOp
      simp only [h0]
      split
      · rename_i hw
        rw [if_pos hw] at ha'
        rcases ha' with h | ⟨h1, h2⟩
        · exact .inl (Oper.wp_mono (fun a' w' h' => ⟨fun _ => h'.1, key a' w' h'.2⟩) (wp_then h))
        · exact .inr ⟨h1, h2⟩
      · rename_i hw
        rw [if_neg hw] at ha'
        exact ⟨fun _ => ha'.1, key _ _ ha'.2⟩) h
  rw [hld, hlen] at this
  exact this
theorem chain_app2 {ops : Array Oper} {l : List Oper} {c : Nat} {o : Oper} {a : Act} {w wa : World} {t u : TypeId} (g1 : o.guard = none) (s x : Operand) (ho : o.op = .call { callee := .builtin .append, args := #[s, x], argTypes := #[t, u] }) (v y r : Value) (hs : a.eval s = v) (hx : a.eval x = y)
    (hr : (Builtin.append_ #[t, u] o.type #[v, y]).run P w = .ok r wa) (h : S wa ∧ wpChain P ops Q S l c (a.put o.dst r) wa) : wpChain P ops Q S (o :: l) (c + 1) a w := by
  refine chain_of_run (v := r) (w' := wa) g1 ?_ h
  simp only [execOp, ho, resolve, invoke, builtin, Sem.run_bind, Sem.run_pure, Result.andThen_ok, List.map_toArray, List.map_cons, List.map_nil, hs, hx, hr]
end
end Go.Proofs.Qxb6500574aGreatDoor
