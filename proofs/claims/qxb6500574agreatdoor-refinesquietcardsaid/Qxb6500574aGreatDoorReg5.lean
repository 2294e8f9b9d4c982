/-
  A region that draws its order: a head that only reads, then TWO operations that turn the world, in either order, then a tail. Own work over the kit's laws.
-/
import Derived.Test.Qxb6500574aGreatDoorReg
namespace Go.Proofs.Qxb6500574aGreatDoor
open Go Go.RowKit
set_option linter.unusedVariables false
set_option linter.unusedSimpArgs false

section
variable {P : Program} {Q : Exit → Act → World → Prop} {S : World → Prop} {need : Nat → Bool} {ops : Array Oper} {md : Region.Mode}
theorem wpOp_one {k g : Nat} {listed : Array Bool} {o : Oper} {a : Act} {w : World} {K : Act → World → Prop} (h0 : ops[k]? = some o) (hK : ∀ a' w', K a' w' → wpAnyM P md ops Q S need g (listed.setIfInBounds k true) a' w')
    (h : wpList P ops (Exit.then (fun a' w' => S w' ∧ K a' w') Q) [o] a w) : wpOp P ops Q k (fun a' w' => (need k = true → S w') ∧ wpAnyM P md ops Q S need g (listed.setIfInBounds k true) a' w') a w := by
  unfold wpList at h
  unfold wpOp
  simp only [h0]
  split
  · rename_i hw
    rw [if_pos hw] at h
    rcases h with h | ⟨h1, h2⟩
    · exact .inl (Oper.wp_mono (fun a' w' h' => ⟨fun _ => h'.1, hK a' w' h'.2⟩) (wp_then h))
    · exact .inr ⟨h1, h2⟩
  · rename_i hw
    rw [if_neg hw] at h
    exact ⟨fun _ => h.1, hK _ _ h.2⟩
def pairFrom (md : Region.Mode) (ops : Array Oper) (g k : Nat) (listed : Array Bool) : Bool :=
  (Region.ready md ops listed == [k, k + 1]) && (Region.ready md ops (listed.setIfInBounds k true) == [k + 1]) && (Region.ready md ops (listed.setIfInBounds (k + 1) true) == [k]) &&
  chainFrom md ops g (k + 2) ((listed.setIfInBounds k true).setIfInBounds (k + 1) true)
theorem set_comm (l : Array Bool) (k : Nat) : (l.setIfInBounds (k + 1) true).setIfInBounds k true = (l.setIfInBounds k true).setIfInBounds (k + 1) true := by
  apply Array.ext'
  simp only [Array.toList_setIfInBounds]
  exact List.set_comm _ _ (by omega)
theorem wpAnyM_pair (k : Nat) (listed : Array Bool) (a : Act) (w : World) (o1 o2 : Oper) (l : List Oper) (hkc : ∀ j, k + 2 ≤ j → need j = false) (h1 : ops[k]? = some o1) (h2 : ops[k + 1]? = some o2) (hl : ∀ j, l[j]? = ops[k + 2 + j]?) (hB : pairFrom md ops l.length k listed = true)
    (hA : wpList P ops (Exit.then (fun a' w' => S w' ∧ wpList P ops (Exit.then (fun a2 w2 => S w2 ∧ wpList P ops Q l a2 w2) Q) [o2] a' w') Q) [o1] a w)
    (hZ : wpList P ops (Exit.then (fun a' w' => S w' ∧ wpList P ops (Exit.then (fun a2 w2 => S w2 ∧ wpList P ops Q l a2 w2) Q) [o1] a' w') Q) [o2] a w) :
    wpAnyM P md ops Q S need (2 + l.length) listed a w := by
  simp only [pairFrom, Bool.and_eq_true, beq_iff_eq] at hB
  obtain ⟨⟨⟨r0, r1⟩, r2⟩, hc⟩ := hB
  have tail := fun a2 w2 => wpAnyM_tail (P := P) (Q := Q) (S := S) (need := need) (md := md) (ops := ops) l (k + 2) ((listed.setIfInBounds k true).setIfInBounds (k + 1) true) a2 w2 hkc hl hc
  rw [show 2 + l.length = (l.length + 1) + 1 by omega]
  refine ⟨fun h' => (by rw [r0] at h'; cases h'), fun i hi => ?_⟩
  rw [r0] at hi
  simp at hi
  rcases hi with rfl | rfl
  · refine wpOp_one (K := fun a' w' => wpList P ops (Exit.then (fun a2 w2 => S w2 ∧ wpList P ops Q l a2 w2) Q) [o2] a' w') h1 (fun a' w' h' => ?_) hA
    refine ⟨fun h'' => (by rw [r1] at h''; cases h''), fun i hi => ?_⟩
    rw [r1] at hi
    simp at hi
    subst hi
    exact wpOp_one (K := fun a2 w2 => wpList P ops Q l a2 w2) h2 (fun a2 w2 h2' => tail a2 w2 h2') h'
  · refine wpOp_one (K := fun a' w' => wpList P ops (Exit.then (fun a2 w2 => S w2 ∧ wpList P ops Q l a2 w2) Q) [o1] a' w') h2 (fun a' w' h' => ?_) hZ
    refine ⟨fun h'' => (by rw [r2] at h''; cases h''), fun i hi => ?_⟩
    rw [r2] at hi
    simp at hi
    subst hi
    refine wpOp_one (K := fun a2 w2 => wpList P ops Q l a2 w2) h1 (fun a2 w2 h2' => ?_) h'
    rw [set_comm]
    exact tail a2 w2 h2'
def pairB (ops : Array Oper) (n : Nat) : Bool :=
  Region.noSelect ops && decide (n + 2 ≤ ops.size) && sinkA .any ops (n + 2) [] && headFrom .any ops (n + 2) [] (List.range n) (Array.replicate ops.size false) && pairFrom .any ops (ops.size - (n + 2)) n (listAll (List.range n) (Array.replicate ops.size false))
theorem wp_region_pair {id : Nat} {a : Act} {w : World} {l : List Oper} (n : Nat) (S : World → Prop) (hm : P.follows .mixedOrders = true) (hB : pairB l.toArray n = true)
    (hQ : ∀ c a t v w, Q (.panic c) (a.put (some t) v) w → Q (.panic c) a w) (hS : S w.drew) (o1 o2 : Oper) (tl : List Oper) (hd : l.drop n = o1 :: o2 :: tl)
    (h : wpQuiet P l.toArray S (fun a' => wpList P l.toArray (Exit.then (fun a' w' => S w' ∧ wpList P l.toArray (Exit.then (fun a2 w2 => S w2 ∧ wpList P l.toArray Q tl a2 w2) Q) [o2] a' w') Q) [o1] a' w.drew ∧
      wpList P l.toArray (Exit.then (fun a' w' => S w' ∧ wpList P l.toArray (Exit.then (fun a2 w2 => S w2 ∧ wpList P l.toArray Q tl a2 w2) Q) [o1] a' w') Q) [o2] a' w.drew) (l.take n) a) : (Code.region id l.toArray true).wp P Q a w := by
  simp only [pairB, Bool.and_eq_true, decide_eq_true_eq] at hB
  obtain ⟨⟨⟨⟨hs, hn⟩, hsk⟩, hhd⟩, hc⟩ := hB
  refine wp_region_any hm (wpAny_of_M (S := S) (need := needOf (n + 2) []) _ _ _ _ ?_)
  have hn' : n + 2 ≤ l.length := by simpa using hn
  have hcl0 : ClosedL .any l.toArray (Array.replicate l.toArray.size false) := fun j oj _ hl => by rw [getD_replicate_false] at hl; cases hl
  have hat : ∀ j, l[n + j]? = (o1 :: o2 :: tl)[j]? := fun j => by rw [← hd]; simp
  have htl : tl.length = l.toArray.size - (n + 2) := by
    have := congrArg List.length hd
    simp at this ⊢
    omega
  have hh : (List.range n).map (fun k => l.toArray[k]?) = (l.take n).map some := by
    apply List.ext_getElem?
    intro i
    by_cases hi : i < n
    · have : i < l.length := by omega
      simp [hi, this]
    · simp [hi]; omega
  have := wpAnyM_head (P := P) (ops := l.toArray) (Q := Q) (md := .any) (S := S) (m := n + 2) (A := []) hs hsk hQ hS (2 + tl.length) (List.range n) (l.take n) (Array.replicate l.toArray.size false) a hcl0 hh hhd
    (fun a' ha' => wpAnyM_pair n _ a' w.drew o1 o2 tl (fun j hj => by simp [needOf]; omega) (by have := hat 0; simpa using this) (by have := hat 1; simpa using this) (fun j => by have := hat (j + 2); simp only [List.getElem?_cons_succ] at this; rw [← this]; simp; congr 1; omega) (by rw [htl]; exact hc) ha'.1 ha'.2) h
  rw [List.length_range, htl, show n + (2 + (l.toArray.size - (n + 2))) = l.toArray.size by omega] at this
  exact this
/-- a head with one mere copy (number p) for which not all of the tail waits -/
theorem wp_region_headA1 {id : Nat} {a : Act} {w : World} {l : List Oper} (n c p : Nat) (S : World → Prop) (hm : P.follows .mixedOrders = true) (hB : headB l.toArray n c [p] = true)
    (hQ : ∀ c a t v w, Q (.panic c) (a.put (some t) v) w → Q (.panic c) a w) (hS : S w.drew) (o : Oper) (ho : l[p]? = some o)
    (h : wpQuiet P l.toArray S (fun a' => wpChain P l.toArray Q S (l.drop n) c a' w.drew) (o :: (l.take n).eraseIdx p) a) : (Code.region id l.toArray true).wp P Q a w := by
  refine wp_region_headA n c [p] S hm hB hQ hS (o :: (l.take n).eraseIdx p) ?_ h
  simp only [headB, Bool.and_eq_true, decide_eq_true_eq] at hB
  obtain ⟨⟨⟨⟨⟨⟨_, hn⟩, _⟩, _⟩, _⟩, _⟩, _⟩ := hB
  have hn' : n + c ≤ l.length := by simpa using hn
  have e : (List.range n).map (fun k => l.toArray[k]?) = (l.take n).map some := by
    apply List.ext_getElem?
    intro i
    by_cases hi : i < n
    · have : i < l.length := by omega
      simp [hi, this]
    · simp [hi]; omega
  simp only [headOrder, List.map_cons, map_erase, e]
  simp [ho]
/-- a load of one cell in the head -/
theorem wpQ_load1 {T : Act → Prop} {o : Oper} {l : List Oper} {a : Act} (hg : o.guard = none) {Ty : TypeId} (x : Operand) (p : Addr) (v : Value) (ho : o.op = .load Ty x) (hx : a.eval x = .pointer (some p)) (hT : (isAgg Ty).run P = fun w => .ok false w) (hC : ∀ w, S w → w.cell? p = some v) (h : wpQuiet P ops S T l (a.put o.dst v)) : wpQuiet P ops S T (o :: l) a := by
  have hw : Region.wanted o (yielded ops a.tmps) = true := by simp [Region.wanted, hg]
  unfold wpQuiet
  rw [if_pos hw]
  exact quiet_load1 x p v ho hx hT hC h
theorem wpQ_pure {T : Act → Prop} {o : Oper} {l : List Oper} {a : Act} (hg : o.guard = none) (v : Value) (hv : ∀ w, (execOp a.eval o).run P w = .ok (.value v) w) (h : wpQuiet P ops S T l (a.put o.dst v)) : wpQuiet P ops S T (o :: l) a := by
  have hw : Region.wanted o (yielded ops a.tmps) = true := by simp [Region.wanted, hg]
  unfold wpQuiet
  rw [if_pos hw]
  exact quiet_pure v hv h
theorem wpQ_nilCheck {T : Act → Prop} {o : Oper} {l : List Oper} {a : Act} (hg : o.guard = none) (x : Operand) (p : Addr) (ho : o.op = .nilCheck x) (hx : a.eval x = .pointer (some p)) (h : wpQuiet P ops S T l (a.put o.dst (.pointer (some p)))) : wpQuiet P ops S T (o :: l) a :=
  wpQ_pure hg _ (fun w => by simp [execOp, ho, hx]) h
theorem wpQ_fieldAddr {T : Act → Prop} {o : Oper} {l : List Oper} {a : Act} (hg : o.guard = none) {Ty : TypeId} (x : Operand) (i : Nat) (p q : Addr) (ho : o.op = .fieldAddr Ty x i) (hx : a.eval x = .pointer (some p)) (hr : ∀ w, (Instr.fieldAt Ty (.pointer (some p)) i).run P w = .ok (.pointer (some q)) w) (h : wpQuiet P ops S T l (a.put o.dst (.pointer (some q)))) : wpQuiet P ops S T (o :: l) a :=
  wpQ_pure hg _ (fun w => by simp [execOp, ho, hx, Sem.run_bind, hr]) h
theorem wpQ_move {T : Act → Prop} {o : Oper} {l : List Oper} {a : Act} (hg : o.guard = none) (x : Operand) (v : Value) (ho : o.op = .move x) (hx : a.eval x = v) (h : wpQuiet P ops S T l (a.put o.dst v)) : wpQuiet P ops S T (o :: l) a :=
  wpQ_pure hg _ (fun w => by simp [execOp, ho, hx]) h
theorem wpQ_assign {T : Act → Prop} {o : Oper} {l : List Oper} {a : Act} (hg : o.guard = none) (x : Operand) (v : Value) (ho : o.op = .assign x) (hx : a.eval x = v) (h : wpQuiet P ops S T l (a.put o.dst v)) : wpQuiet P ops S T (o :: l) a :=
  wpQ_pure hg _ (fun w => by simp [execOp, ho, hx]) h
end
end Go.Proofs.Qxb6500574aGreatDoor
