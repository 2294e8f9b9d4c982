/-
  A REGION THAT DRAWS ITS ORDER: reads, a call, reads, then operations one behind the other; S holds behind every operation. No program.
-/
import Derived.Test.Qxb6500574aGreatDoorReg2
namespace Go.Proofs.Qxb6500574aGreatDoor
open Go Go.RowKit
set_option linter.unusedVariables false
set_option linter.unusedSimpArgs false
section
variable {P : Program} {ops : Array Oper} {Q : Exit → Act → World → Prop} {md : Region.Mode} {S : World → Prop} {need : Nat → Bool}
def headF (md : Region.Mode) (ops : Array Oper) : List Nat → Array Bool → Bool
  | [], _ => true
  | k :: ks, listed => (Region.ready md ops listed).contains k && Region.free md ops listed k && ((ops[k]?).map quietKind).getD false && headF md ops ks (listed.setIfInBounds k true)
theorem ready_lt {listed : Array Bool} {j : Nat} (h : j ∈ Region.ready md ops listed) : j < ops.size := by
  obtain ⟨_, oj, hoj, _⟩ := mem_ready.1 h
  exact (Array.getElem?_eq_some_iff.1 hoj).1
theorem wpAnyM_headF (hn : ∀ j, j < ops.size → need j = true) (hs : Region.noSelect ops = true) (hQ : ∀ c a t v w, Q (.panic c) (a.put (some t) v) w → Q (.panic c) a w) {w : World} (hS : S w) (g : Nat) {T : Act → Prop} :
    ∀ (ks : List Nat) (l : List Oper) (listed : Array Bool) (a : Act), ClosedL md ops listed → ks.map (fun k => ops[k]?) = l.map some → headF md ops ks listed = true →
      (∀ a', T a' → ClosedL md ops (listAll ks listed) → wpAnyM P md ops Q S need g (listAll ks listed) a' w) → wpQuiet P ops S T l a → wpAnyM P md ops Q S need (ks.length + g) listed a w
  | [], [], _, a, hcl, _, _, hT, h => by simpa [listAll] using hT a h hcl
  | [], _ :: _, _, _, _, hl, _, _, _ => by simp at hl
  | _ :: _, [], _, _, _, hl, _, _, _ => by simp at hl
  | k :: ks, o :: l, listed, a, hcl, hl, hB, hT, h => by
    simp only [List.map_cons, List.cons.injEq] at hl
    obtain ⟨h0, hl⟩ := hl
    simp only [headF, Bool.and_eq_true, h0, Option.map_some, Option.getD_some] at hB
    obtain ⟨⟨⟨hr, hf⟩, hk⟩, hB'⟩ := hB
    have hr' : k ∈ Region.ready md ops listed := by simpa using hr
    obtain ⟨v, hy, hK⟩ := yieldsIf_of_quiet (K := wpQuiet P ops S T l) hk h
    have hq : ∀ c a w, Q (.panic c) (a.put o.dst v) w → Q (.panic c) a w := by
      intro c a w hq
      cases hd : o.dst with
      | none => rw [hd] at hq; exact hq
      | some t => rw [hd] at hq; exact hQ c a t v w hq
    rw [show (k :: ks).length + g = (ks.length + g) + 1 by simp; omega]
    have rest := wpAnyM_headF hn hs hQ hS g ks l (listed.setIfInBounds k true) (a.put o.dst v) (hcl.set hr') hl hB' hT hK
    exact wpAnyM_first h0 (Region.noSelect_spec hs) hq (fun _ => True) (fun _ _ h => h) (fun lst _ _ _ j hj => hn j (ready_lt hj)) (ks.length + g) listed a w trivial hcl (Region.free_spec h0 hf) hr' hy hS rest
def twoB (ops : Array Oper) (ks : List Nat) (k1 : Nat) (ks2 : List Nat) (t : Nat) : Bool :=
  Region.noSelect ops && decide (ks.length + (1 + (ks2.length + (ops.size - t))) = ops.size) && headF .any ops ks (Array.replicate ops.size false) && (Region.ready .any ops (listAll ks (Array.replicate ops.size false)) == [k1]) && headF .any ops ks2 ((listAll ks (Array.replicate ops.size false)).setIfInBounds k1 true) && chainFrom .any ops (ops.size - t) t (listAll ks2 ((listAll ks (Array.replicate ops.size false)).setIfInBounds k1 true))
theorem wp_region_two {id : Nat} {a : Act} {w : World} {l : List Oper} (ks : List Nat) (k1 : Nat) (ks2 : List Nat) (t : Nat) (S : World → Prop) (hm : P.follows .mixedOrders = true) (hB : twoB l.toArray ks k1 ks2 t = true)
    (hQ : ∀ c a t v w, Q (.panic c) (a.put (some t) v) w → Q (.panic c) a w) (hS : S w.drew) (hl : List Oper) (hh : ks.map (fun k => l.toArray[k]?) = hl.map some) (o : Oper) (ho : l[k1]? = some o) (hl2 : List Oper) (hh2 : ks2.map (fun k => l.toArray[k]?) = hl2.map some)
    (h : wpQuiet P l.toArray S (fun a' => wpList P l.toArray (Exit.then (fun a' w' => S w' ∧ wpQuiet P l.toArray S (fun a2 => wpChain P l.toArray Q S (l.drop t) (l.length - t) a2 w') hl2 a') Q) [o] a' w.drew) hl a) : (Code.region id l.toArray true).wp P Q a w := by
  simp only [twoB, Bool.and_eq_true, decide_eq_true_eq, beq_iff_eq] at hB
  obtain ⟨⟨⟨⟨⟨hs, hlen⟩, hhd⟩, hr1⟩, hhd2⟩, hc⟩ := hB
  refine wp_region_any hm (wpAny_of_M (S := S) (need := fun j => decide (j < l.toArray.size)) _ _ _ _ ?_)
  have hn : ∀ j, j < l.toArray.size → (fun j => decide (j < l.toArray.size)) j = true := fun j hj => by simpa using hj
  have hld : (l.drop t).length = l.toArray.size - t := by simp
  have hcl0 : ClosedL .any l.toArray (Array.replicate l.toArray.size false) := fun j oj _ hl => by rw [getD_replicate_false] at hl; cases hl
  have := wpAnyM_headF (P := P) (ops := l.toArray) (Q := Q) (md := .any) (S := S) (need := fun j => decide (j < l.toArray.size)) hn hs hQ hS (1 + (ks2.length + (l.drop t).length)) (T := fun a' => wpList P l.toArray (Exit.then (fun a' w' => S w' ∧ wpQuiet P l.toArray S (fun a2 => wpChain P l.toArray Q S (l.drop t) (l.length - t) a2 w') hl2 a') Q) [o] a' w.drew) ks hl (Array.replicate l.toArray.size false) a hcl0 hh hhd
    (fun a' ha' hcl1 => by
      rw [Nat.add_comm]
      refine ⟨fun h' => (by rw [hr1] at h'; cases h'), fun i hi => ?_⟩
      have hcl2 := hcl1.set hi
      rw [hr1] at hi
      obtain rfl : i = k1 := by simpa using hi
      have h0 : l.toArray[i]? = some o := by simpa using ho
      have key : ∀ a' w', S w' → wpQuiet P l.toArray S (fun a2 => wpChain P l.toArray Q S (l.drop t) (l.length - t) a2 w') hl2 a' → wpAnyM P .any l.toArray Q S (fun j => decide (j < l.toArray.size)) (ks2.length + (l.drop t).length) ((listAll ks (Array.replicate l.toArray.size false)).setIfInBounds i true) a' w' := fun a' w' hS' hq' =>
        wpAnyM_headF (P := P) (ops := l.toArray) (Q := Q) (md := .any) (S := S) hn hs hQ hS' (l.drop t).length ks2 hl2 _ a' hcl2 hh2 hhd2
          (fun a2 ha2 _ => wpAnyM_chain (P := P) (ops := l.toArray) (Q := Q) (S := S) (md := .any) (l.length - t) (l.drop t) t _ a2 w' (fun j hj => by simp; omega) (by simp) (fun j => by simp) (by rw [hld]; exact hc) ha2) hq'
      unfold wpList at ha'
      unfold wpOp
      simp only [h0]
      split
      · rename_i hw
        rw [if_pos hw] at ha'
        rcases ha' with h | ⟨h1, h2⟩
        · exact .inl (Oper.wp_mono (fun a' w' h' => ⟨fun _ => h'.1, key a' w' h'.1 h'.2⟩) (wp_then h))
        · exact .inr ⟨h1, h2⟩
      · rename_i hw
        rw [if_neg hw] at ha'
        exact ⟨fun _ => ha'.1, key _ _ ha'.1 ha'.2⟩) h
  rw [hld, hlen] at this
  exact this
end
end Go.Proofs.Qxb6500574aGreatDoor
