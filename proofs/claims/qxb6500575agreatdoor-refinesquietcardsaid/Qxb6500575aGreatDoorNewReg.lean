/-
  THE REGION OF newChecker: reads; then the one open block's row, the checker itself, the cell of the captured variable, in whatever order they are made. No program.
-/
import Derived.Test.Qxb6500575aGreatDoorRegApp
namespace Go.Proofs.Qxb6500575aGreatDoor
open Go Go.RowKit
set_option linter.unusedVariables false
set_option linter.unusedSimpArgs false

section
variable {P : Program} {ops : Array Oper} {Q : Exit → Act → World → Prop} {md : Region.Mode} {S : World → Prop} {need : Nat → Bool}
theorem wpOp_value {i : Nat} {o : Oper} {K : Act → World → Prop} {a : Act} {w w' : World} {v : Value} (h0 : ops[i]? = some o) (hg : o.guard = none) (hr : (execOp a.eval o).run P w = .ok (.value v) w') (h : K (a.put o.dst v) w') : wpOp P ops Q i K a w := by
  have hw : Region.wanted o (yielded ops a.tmps) = true := by simp [Region.wanted, hg]
  unfold wpOp
  simp only [h0]
  rw [if_pos hw]
  refine .inl ?_
  unfold Oper.wp; rw [hr]; exact h
theorem any_one {fuel : Nat} {listed : Array Bool} {i : Nat} {o : Oper} {a : Act} {w w' : World} {v : Value} (hrd : Region.ready md ops listed = [i]) (h0 : ops[i]? = some o) (hg : o.guard = none) (hr : (execOp a.eval o).run P w = .ok (.value v) w')
    (hS : S w') (h : wpAnyM P md ops Q S need fuel (listed.setIfInBounds i true) (a.put o.dst v) w') : wpAnyM P md ops Q S need (fuel + 1) listed a w := by
  refine ⟨fun h' => (by rw [hrd] at h'; cases h'), fun k hk => ?_⟩
  rw [hrd] at hk
  obtain rfl : k = i := by simpa using hk
  exact wpOp_value h0 hg hr ⟨fun _ => hS, h⟩
theorem any_two {fuel : Nat} {listed : Array Bool} {i j : Nat} {o o' : Oper} {a : Act} {w w' w'' : World} {v v' : Value} (hrd : Region.ready md ops listed = [i, j]) (h0 : ops[i]? = some o) (hg : o.guard = none) (hr : (execOp a.eval o).run P w = .ok (.value v) w')
    (h0' : ops[j]? = some o') (hg' : o'.guard = none) (hr' : (execOp a.eval o').run P w = .ok (.value v') w'')
    (hS : S w') (hS' : S w'') (h : wpAnyM P md ops Q S need fuel (listed.setIfInBounds i true) (a.put o.dst v) w') (h' : wpAnyM P md ops Q S need fuel (listed.setIfInBounds j true) (a.put o'.dst v') w'') : wpAnyM P md ops Q S need (fuel + 1) listed a w := by
  refine ⟨fun h' => (by rw [hrd] at h'; cases h'), fun k hk => ?_⟩
  rw [hrd] at hk
  simp at hk
  rcases hk with rfl | rfl
  · exact wpOp_value h0 hg hr ⟨fun _ => hS, h⟩
  · exact wpOp_value h0' hg' hr' ⟨fun _ => hS', h'⟩
end

theorem wpQ_load {P : Program} {ops : Array Oper} {C : World → Prop} {T : Act → Prop} {a : Act} {o : Oper} {rest : List Oper} {ty : TypeId} (hg : o.guard = none) (x : Operand) (p : Addr) (v : Value) (ho : o.op = .load ty x) (hx : a.eval x = .pointer (some p)) (hT : (isAgg ty).run P = fun w => .ok false w) (hC : ∀ w, C w → w.cell? p = some v)
    (h : wpQuiet P ops C T rest (a.put o.dst v)) : wpQuiet P ops C T (o :: rest) a := by
  refine wpQuiet_step (fun K hK => ?_)
  rw [if_pos (by simp [Region.wanted, hg])]
  exact quiet_load1 x p v ho hx hT hC (hK _ h)
theorem put_comm (a : Act) (i j : Nat) (h : i ≠ j) (u v : Value) : (a.put (some i) u).put (some j) v = (a.put (some j) v).put (some i) u := by
  simp only [Act.put]
  rw [Array.setIfInBounds_comm _ _ h]
theorem eval_put_ne (a : Act) (i j : Nat) (h : i ≠ j) (v : Value) : (a.put (some i) v).eval (.tmp j) = a.eval (.tmp j) := by
  simp [Act.put, Act.eval, Array.getElem?_setIfInBounds_ne h]
theorem eval_put_eq (a : Act) (i : Nat) (h : i < a.tmps.size) (v : Value) : (a.put (some i) v).eval (.tmp i) = v := by
  simp [Act.put, Act.eval, h]
theorem put_size (a : Act) (i : Nat) (v : Value) : (a.put (some i) v).tmps.size = a.tmps.size := by simp [Act.put]

/-- n reads (0 .. n - 1); n: a row is made; n + 1: the struct is built of it; n + 2: it is boxed; n + 3 (free): a cell is made; n + 4: the cell is set -/
def makeB (ops : Array Oper) (n : Nat) : Bool :=
  Region.noSelect ops && decide (ops.size = n + 5) && sinkA .any ops (n + 4) [] && headFrom .any ops (n + 4) [] (List.range n) (Array.replicate ops.size false) &&
  (let L0 := listAll (List.range n) (Array.replicate ops.size false)
   let s := fun (i : Nat) (L : Array Bool) => L.setIfInBounds i true
   let r := Region.ready .any ops
   r L0 == [n, n + 3] && r (s n L0) == [n + 1, n + 3] && r (s (n + 1) (s n L0)) == [n + 2, n + 3] && r (s (n + 2) (s (n + 1) (s n L0))) == [n + 3] &&
   r (s (n + 3) L0) == [n] && r (s n (s (n + 3) L0)) == [n + 1] && r (s (n + 1) (s n (s (n + 3) L0))) == [n + 2] &&
   r (s (n + 3) (s n L0)) == [n + 1] && r (s (n + 1) (s (n + 3) (s n L0))) == [n + 2] &&
   r (s (n + 3) (s (n + 1) (s n L0))) == [n + 2] &&
   r (s (n + 3) (s (n + 2) (s (n + 1) (s n L0)))) == [n + 4] && r (s (n + 2) (s (n + 1) (s n (s (n + 3) L0)))) == [n + 4] && r (s (n + 2) (s (n + 1) (s (n + 3) (s n L0)))) == [n + 4] && r (s (n + 2) (s (n + 3) (s (n + 1) (s n L0)))) == [n + 4] &&
   r (s (n + 4) (s (n + 3) (s (n + 2) (s (n + 1) (s n L0))))) == [] && r (s (n + 4) (s (n + 2) (s (n + 1) (s n (s (n + 3) L0))))) == [] && r (s (n + 4) (s (n + 2) (s (n + 1) (s (n + 3) (s n L0))))) == [] && r (s (n + 4) (s (n + 2) (s (n + 3) (s (n + 1) (s n L0))))) == [])

/-- what stands behind: the row bB, the struct bC, the cell bA -/
structure Made (w W : World) (cB : Array Value) (tB : TypeId) (cC : Nat → Array Value) (tC : TypeId) (cA : Array Value) (tA : TypeId) (bA bB bC : Nat) : Prop where
  fr : Fr (fun _ => False) w W
  a : Has W bA cA tA
  b : Has W bB cB tB
  c : Has W bC (cC bB) tC
  ga : w.heap.size ≤ bA
  gb : w.heap.size ≤ bB
  gc : w.heap.size ≤ bC

theorem wp_region_make {P : Program} {id : Nat} {Q : Exit → Act → World → Prop} {a : Act} {w : World} {l : List Oper} (n : Nat)
    (hm : P.follows .mixedOrders = true) (hB : makeB l.toArray n = true) (hQ : ∀ c a t v w, Q (.panic c) (a.put (some t) v) w → Q (.panic c) a w)
    (o0 o1 o2 o3 o4 : Oper) (hd : l.drop n = [o0, o1, o2, o3, o4]) (d0 d1 d2 d3 : Tmp) (hd0 : o0.dst = some d0) (hd1 : o1.dst = some d1) (hd2 : o2.dst = some d2) (hd3 : o3.dst = some d3)
    (hn1 : d0 ≠ d1) (hn2 : d0 ≠ d2) (hn3 : d0 ≠ d3) (hn4 : d1 ≠ d2) (hn5 : d1 ≠ d3) (hn6 : d2 ≠ d3)
    (g0 : o0.guard = none) (g1 : o1.guard = none) (g2 : o2.guard = none) (g3 : o3.guard = none)
    (cB : Array Value) (tB : TypeId) (cC : Nat → Array Value) (tC : TypeId) (cA : Array Value) (tA : TypeId) (vK : Nat → Value) (OK : Act → Prop)
    (hokp : ∀ a d v, d = d0 ∨ d = d1 ∨ d = d2 ∨ d = d3 → OK a → OK (a.put (some d) v))
    (r0 : ∀ a w, OK a → (execOp a.eval o0).run P w = .ok (.value (.slice (some ⟨w.heap.size, 0, none⟩) 1 1)) (w.alloc (.cells cB tB)))
    (r1 : ∀ a w g, OK a → a.eval (.tmp d0) = .slice (some ⟨g, 0, none⟩) 1 1 → (execOp a.eval o1).run P w = .ok (.value (vK g)) w)
    (r2 : ∀ a w g, OK a → a.eval (.tmp d1) = vK g → (execOp a.eval o2).run P w = .ok (.value (.pointer (some ⟨w.heap.size, 0, none⟩))) (w.alloc (.cells (cC g) tC)))
    (r3 : ∀ a w, OK a → (execOp a.eval o3).run P w = .ok (.value (.pointer (some ⟨w.heap.size, 0, none⟩))) (w.alloc (.cells cA tA)))
    (h : wpQuiet P l.toArray (fun y => Fr (fun _ => False) w y) (fun a' => OK a' ∧ d0 < a'.tmps.size ∧ d1 < a'.tmps.size ∧
        ∀ bA bB bC W, Made w W cB tB cC tC cA tA bA bB bC →
        wpList P l.toArray Q [o4] ((((a'.put (some d0) (.slice (some ⟨bB, 0, none⟩) 1 1)).put (some d1) (vK bB)).put (some d2) (.pointer (some ⟨bC, 0, none⟩))).put (some d3) (.pointer (some ⟨bA, 0, none⟩))) W) (l.take n) a) :
    (Code.region id l.toArray true).wp P Q a w := by
  simp only [makeB, Bool.and_eq_true, decide_eq_true_eq, beq_iff_eq, List.isEmpty_iff] at hB
  obtain ⟨⟨⟨⟨hs, hsz⟩, hsk⟩, hhd⟩, ⟨⟨⟨⟨⟨⟨⟨⟨⟨⟨⟨⟨⟨⟨⟨⟨⟨q0, q1⟩, q2⟩, q3⟩, q4⟩, q5⟩, q6⟩, q7⟩, q8⟩, q9⟩, q10⟩, q11⟩, q12⟩, q13⟩, q14⟩, q15⟩, q16⟩, q17⟩⟩ := hB
  have hat : ∀ j, l.toArray[n + j]? = [o0, o1, o2, o3, o4][j]? := fun j => by rw [← hd]; simp
  have e0 : l.toArray[n]? = some o0 := by simpa using hat 0
  have e1 : l.toArray[n + 1]? = some o1 := by simpa using hat 1
  have e2 : l.toArray[n + 2]? = some o2 := by simpa using hat 2
  have e3 : l.toArray[n + 3]? = some o3 := by simpa using hat 3
  have e4 : l.toArray[n + 4]? = some o4 := by simpa using hat 4
  refine wp_region_any hm (wpAny_of_M (S := fun y => Fr (fun _ => False) w y) (need := needOf (n + 4) []) _ _ _ _ ?_)
  have hcl0 : ClosedL .any l.toArray (Array.replicate l.toArray.size false) := fun j oj _ hl => by rw [getD_replicate_false] at hl; cases hl
  have hn5l : n + 5 = l.length := by simpa using hsz.symm
  have hh : (List.range n).map (fun k => l.toArray[k]?) = (l.take n).map some := by
    apply List.ext_getElem?
    intro i
    by_cases hi : i < n
    · have : i < l.length := by omega
      simp [hi, this]
    · simp [hi]; omega
  have hS0 : Fr (fun _ => False) w w.drew := (Fr.refl _ w).drew
  have main := wpAnyM_head (P := P) (ops := l.toArray) (Q := Q) (md := .any) (S := fun y => Fr (fun _ => False) w y) (m := n + 4) (A := []) hs hsk hQ (w := w.drew) hS0 5 (T := fun a' => OK a' ∧ d0 < a'.tmps.size ∧ d1 < a'.tmps.size ∧
        ∀ bA bB bC W, Made w W cB tB cC tC cA tA bA bB bC →
        wpList P l.toArray Q [o4] ((((a'.put (some d0) (.slice (some ⟨bB, 0, none⟩) 1 1)).put (some d1) (vK bB)).put (some d2) (.pointer (some ⟨bC, 0, none⟩))).put (some d3) (.pointer (some ⟨bA, 0, none⟩))) W) (List.range n) (l.take n) (Array.replicate l.toArray.size false) a hcl0 hh hhd ?tree h
  · rw [show (List.range n).length + 5 = l.toArray.size by simp; omega] at main
    exact main
  case tree =>
    rintro a' ⟨hok', hs0, hs1, hrest⟩
    generalize listAll (List.range n) (Array.replicate l.toArray.size false) = L0 at *
    -- the tail, in any of the four orders
    have fin : ∀ (L : Array Bool) (a2 : Act) (W : World), Region.ready .any l.toArray L = [n + 4] → Region.ready .any l.toArray (L.setIfInBounds (n + 4) true) = [] → wpList P l.toArray Q [o4] a2 W → wpAnyM P .any l.toArray Q (fun y => Fr (fun _ => False) w y) (needOf (n + 4) []) 1 L a2 W := by
      intro L a2 W h1 h2 h3
      refine ⟨fun h' => (by rw [h1] at h'; cases h'), fun k hk => ?_⟩
      rw [h1] at hk
      obtain rfl : k = n + 4 := by simpa using hk
      unfold wpOp
      simp only [e4]
      unfold wpList at h3
      have hnn : needOf (n + 4) [] (n + 4) = false := by simp [needOf]
      split
      · rename_i hw
        rw [if_pos hw] at h3
        rcases h3 with h3 | h3
        · exact .inl (Oper.wp_mono (fun a3 w3 h4 => ⟨fun hh => (by rw [hnn] at hh; cases hh), h2, by simpa [wpList] using h4⟩) h3)
        · exact .inr h3
      · rename_i hw
        rw [if_neg hw] at h3
        exact ⟨fun hh => (by rw [hnn] at hh; cases hh), h2, by simpa [wpList] using h3⟩
    have S1 : ∀ {W : World} (o : Obj), Fr (fun _ => False) w W → Fr (fun _ => False) w (W.alloc o) := fun o h => h.alloc o
    have sz : ∀ (W : World) (o : Obj), (W.alloc o).heap.size = W.heap.size + 1 := fun W o => by simp
    have szd : w.drew.heap.size = w.heap.size := rfl
    -- the effects
    let SB : Nat → Value := fun g => .slice (some ⟨g, 0, none⟩) 1 1
    let PT : Nat → Value := fun g => .pointer (some ⟨g, 0, none⟩)
    have k0 : ∀ v, OK (a'.put (some d0) v) := fun v => hokp _ _ _ (.inl rfl) hok'
    have k3 : ∀ v, OK (a'.put (some d3) v) := fun v => hokp _ _ _ (.inr (.inr (.inr rfl))) hok'
    have p1 : ∀ {b : Act} v, OK b → OK (b.put (some d1) v) := fun v h => hokp _ _ _ (.inr (.inl rfl)) h
    have p0 : ∀ {b : Act} v, OK b → OK (b.put (some d0) v) := fun v h => hokp _ _ _ (.inl rfl) h
    have p3 : ∀ {b : Act} v, OK b → OK (b.put (some d3) v) := fun v h => hokp _ _ _ (.inr (.inr (.inr rfl))) h
    have hw0 : Fr (fun _ => False) w w.drew := hS0
    refine any_two q0 e0 g0 (r0 a' w.drew hok') e3 g3 (r3 a' w.drew hok') (S1 _ hw0) (S1 _ hw0) ?_ ?_
    · -- the row first
      rw [hd0]
      have hev : ∀ v, (a'.put (some d0) v).eval (.tmp d0) = v := fun v => eval_put_eq _ _ hs0 v
      refine any_two q1 e1 g1 (r1 _ _ w.drew.heap.size (k0 _) (hev _)) e3 g3 (r3 _ _ (k0 _)) (S1 _ hw0) (S1 _ (S1 _ hw0)) ?_ ?_
      · rw [hd1]
        have hev1 : ∀ u v, ((a'.put (some d0) u).put (some d1) v).eval (.tmp d1) = v := fun u v => eval_put_eq _ _ (by rw [put_size]; exact hs1) v
        refine any_two q2 e2 g2 (r2 _ _ w.drew.heap.size (p1 _ (k0 _)) (hev1 _ _)) e3 g3 (r3 _ _ (p1 _ (k0 _))) (S1 _ (S1 _ hw0)) (S1 _ (S1 _ hw0)) ?_ ?_
        · rw [hd2]
          refine any_one q3 e3 g3 (r3 _ _ (hokp _ _ _ (.inr (.inr (.inl rfl))) (p1 _ (k0 _)))) (S1 _ (S1 _ (S1 _ hw0))) ?_
          rw [hd3]
          refine fin _ _ _ q10 q14 ?_
          refine hrest _ _ _ _ ⟨S1 _ (S1 _ (S1 _ hw0)), Has.new _ _ _, ((Has.new _ _ _).alloc _).alloc _, (Has.new _ _ _).alloc _, ?_, ?_, ?_⟩ <;> simp only [sz, szd] <;> omega
        · rw [hd3]
          refine any_one q9 e2 g2 (r2 _ _ w.drew.heap.size (p3 _ (p1 _ (k0 _))) (by rw [eval_put_ne _ _ _ (Ne.symm hn5)]; exact hev1 _ _)) (S1 _ (S1 _ (S1 _ hw0))) ?_
          rw [hd2, put_comm _ d3 d2 (Ne.symm hn6)]
          refine fin _ _ _ q13 q17 ?_
          refine hrest _ _ _ _ ⟨S1 _ (S1 _ (S1 _ hw0)), (Has.new _ _ _).alloc _, ((Has.new _ _ _).alloc _).alloc _, Has.new _ _ _, ?_, ?_, ?_⟩ <;> simp only [sz, szd] <;> omega
      · rw [hd3]
        refine any_one q7 e1 g1 (r1 _ _ w.drew.heap.size (p3 _ (k0 _)) (by rw [eval_put_ne _ _ _ (Ne.symm hn3)]; exact hev _)) (S1 _ (S1 _ hw0)) ?_
        rw [hd1, put_comm _ d3 d1 (Ne.symm hn5)]
        have hev1 : ∀ u v, ((a'.put (some d0) u).put (some d1) v).eval (.tmp d1) = v := fun u v => eval_put_eq _ _ (by rw [put_size]; exact hs1) v
        refine any_one q8 e2 g2 (r2 _ _ w.drew.heap.size (p3 _ (p1 _ (k0 _))) (by rw [eval_put_ne _ _ _ (Ne.symm hn5)]; exact hev1 _ _)) (S1 _ (S1 _ (S1 _ hw0))) ?_
        rw [hd2, put_comm _ d3 d2 (Ne.symm hn6)]
        refine fin _ _ _ q12 q16 ?_
        refine hrest _ _ _ _ ⟨S1 _ (S1 _ (S1 _ hw0)), (Has.new _ _ _).alloc _, ((Has.new _ _ _).alloc _).alloc _, Has.new _ _ _, ?_, ?_, ?_⟩ <;> simp only [sz, szd] <;> omega
    · -- the cell first
      rw [hd3]
      refine any_one q4 e0 g0 (r0 _ _ (k3 _)) (S1 _ (S1 _ hw0)) ?_
      rw [hd0, put_comm _ d3 d0 (Ne.symm hn3)]
      have hev : ∀ v, (a'.put (some d0) v).eval (.tmp d0) = v := fun v => eval_put_eq _ _ hs0 v
      refine any_one q5 e1 g1 (r1 _ _ (w.drew.alloc (.cells cA tA)).heap.size (p3 _ (k0 _)) (by rw [eval_put_ne _ _ _ (Ne.symm hn3)]; exact hev _)) (S1 _ (S1 _ hw0)) ?_
      rw [hd1, put_comm _ d3 d1 (Ne.symm hn5)]
      have hev1 : ∀ u v, ((a'.put (some d0) u).put (some d1) v).eval (.tmp d1) = v := fun u v => eval_put_eq _ _ (by rw [put_size]; exact hs1) v
      refine any_one q6 e2 g2 (r2 _ _ (w.drew.alloc (.cells cA tA)).heap.size (p3 _ (p1 _ (k0 _))) (by rw [eval_put_ne _ _ _ (Ne.symm hn5)]; exact hev1 _ _)) (S1 _ (S1 _ (S1 _ hw0))) ?_
      rw [hd2, put_comm _ d3 d2 (Ne.symm hn6)]
      refine fin _ _ _ q11 q15 ?_
      refine hrest _ _ _ _ ⟨S1 _ (S1 _ (S1 _ hw0)), ((Has.new _ _ _).alloc _).alloc _, (Has.new _ _ _).alloc _, Has.new _ _ _, ?_, ?_, ?_⟩ <;> simp only [sz, szd] <;> omega
end Go.Proofs.Qxb6500575aGreatDoor
