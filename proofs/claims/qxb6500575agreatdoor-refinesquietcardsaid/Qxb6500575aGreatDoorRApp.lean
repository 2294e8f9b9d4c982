/-
  'x.f = append(x.f, call(..))' in a region that draws its order: the call turns nothing. Own work over the kit's laws.
-/
import Derived.Test.Qxb6500575aGreatDoorRegApp
namespace Go.Proofs.Qxb6500575aGreatDoor
open Go Go.RowKit
set_option linter.unusedVariables false
set_option linter.unusedSimpArgs false

theorem wp_region_wapp {P : Program} {t e : TypeId} {z : Value} {size bytes : Nat} (R : IsRow P t e z size bytes) {id : Nat} {Q : Exit → Act → World → Prop} {a : Act} {w : World} {l : List Oper} (n : Nat)
    (hm : P.follows .mixedOrders = true) (hB : headB l.toArray n 3 [] = true) (hQ : ∀ c a t v w, Q (.panic c) (a.put (some t) v) w → Q (.panic c) a w)
    (o0 o1 o2 : Oper) (tl : List Oper) (hd : l.drop n = o0 :: o1 :: o2 :: tl) (s : Operand) (d0 d1 d2 : Tmp) (hd0 : o0.dst = some d0) (hd1 : o1.dst = some d1) (hd2 : o2.dst = some d2) (g1 : o1.guard = none) (g2 : o2.guard = none)
    (ho1 : o1.op = .buildSlice t 1 #[(0, .tmp d0)]) (ho2 : o2.op = .call { callee := .builtin .append, args := #[s, .tmp d1], argTypes := #[t, t] })
    (v : Value) (k : Nat) (xs : List Value) (hown : w.ownsRow 0 e size v k xs) (el : Value) (hel : el.cells.size = size) (hs : size ≤ 1000) (h1 : ∀ u ∈ el.cells.toList, u.oneCell' = true) (hbound : (k + 1) * (bytes + 1) ≤ 140737488355328)
    (h : ∀ g cap w2, w2.ownsRow 0 e size (.slice (some ⟨g, 0, none⟩) (k + 1) cap) (k + 1) (xs ++ el.cells.toList) → Fr (fun j => v.ownBlock = some j) (w.alloc (.cells el.cells e)) w2 → (v.ownBlock = some g ∨ g = w.heap.size + 1) → g < w2.heap.size →
      wpQuiet P l.toArray (fun y => y = w.drew ∨ y = (w.alloc (.cells el.cells e)).drew ∨ y = w2) (fun a' => (∀ K : Act → World → Prop, K (a'.put (some d0) el) w.drew → wpList P l.toArray (Exit.then K Q) [o0] a' w.drew) ∧ d0 < a'.tmps.size ∧ d1 < a'.tmps.size ∧ ((a'.put (some d0) el).put (some d1) (.slice (some ⟨w.heap.size, 0, none⟩) 1 1)).eval s = v ∧
        wpList P l.toArray Q tl (((a'.put (some d0) el).put (some d1) (.slice (some ⟨w.heap.size, 0, none⟩) 1 1)).put (some d2) (.slice (some ⟨g, 0, none⟩) (k + 1) cap)) w2) (l.take n) a) :
    (Code.region id l.toArray true).wp P Q a w := by
  have hB1 : Has (w.alloc (.cells el.cells e)).drew w.heap.size el.cells.toList.toArray e := by simpa using (Has.new w el.cells e).drew
  obtain ⟨g, cap, w2, hr, f1, f2, f3, f4⟩ := app_run R (w.alloc (.cells el.cells e)).drew o2.type v k xs (owns_drew (owns_alloc hown _)) w.heap.size el.cells.toList hB1 (by simpa using hel) h1 hbound
  have h' := h g cap w2 f1 ⟨f2.os, f2.tape, f2.output, f2.size, f2.block⟩ (by simpa using f3) f4
  refine wp_region_head n 3 (fun y => y = w.drew ∨ y = (w.alloc (.cells el.cells e)).drew ∨ y = w2) hm hB hQ (.inl rfl) ?_
  have mono : ∀ (l' : List Oper) (T T' : Act → Prop) (a : Act), (∀ a, T a → T' a) → wpQuiet P l.toArray (fun y => y = w.drew ∨ y = (w.alloc (.cells el.cells e)).drew ∨ y = w2) T l' a → wpQuiet P l.toArray (fun y => y = w.drew ∨ y = (w.alloc (.cells el.cells e)).drew ∨ y = w2) T' l' a := by
    intro l'
    induction l' with
    | nil => exact fun T T' a hT h => hT a h
    | cons o r ih =>
      intro T T' a hT h
      unfold wpQuiet at h ⊢
      split
      · rename_i hw; rw [if_pos hw] at h; exact Oper.quiet_mono (fun a => ih T T' a hT) h
      · rename_i hw; rw [if_neg hw] at h; exact ih T T' _ hT h
  refine mono _ _ _ a (fun a' ha => ?_) h'
  obtain ⟨e1, e2, e3, e4, e5⟩ := ha
  rw [hd]
  show wpList P l.toArray (Exit.then _ Q) [o0] a' w.drew
  refine e1 _ ⟨.inl rfl, ?_⟩
  have hsz : ∀ (v : Value), (a'.put (some d0) v).tmps.size = a'.tmps.size := fun v => by simp [Act.put]
  refine chain_of_run (v := .slice (some ⟨w.heap.size, 0, none⟩) 1 1) (w' := (w.alloc (.cells el.cells e)).drew) g1 ?_ ⟨.inr (.inl rfl), chain_of_run (v := .slice (some ⟨g, 0, none⟩) (k + 1) cap) (w' := w2) g2 ?_ ⟨.inr (.inr rfl), ?_⟩⟩
  · have := run_build1 R w.drew el hel hs
    have e6 : (a'.put (some d0) el).eval (.tmp d0) = el := by simp [Act.put, Act.eval, e2]
    simp only [execOp, ho1, Sem.run_bind, Sem.run_pure, List.map_toArray, List.map_cons, List.map_nil, e6, this, Result.andThen_ok]
    rfl
  · have e6 : ((a'.put (some d0) el).put o1.dst (.slice (some ⟨w.heap.size, 0, none⟩) 1 1)).eval (.tmp d1) = .slice (some ⟨w.heap.size, 0, none⟩) 1 1 := by
      rw [hd1]
      simp [Act.put, Act.eval, e3]
    rw [hd1] at e6 ⊢
    simp only [execOp, ho2, resolve, invoke, builtin, Sem.run_bind, Sem.run_pure, Result.andThen_ok, List.map_toArray, List.map_cons, List.map_nil, e4, e6, hr]
  · rw [hd1, hd2]
    cases tl <;> exact e5
theorem wp_region_wapp2 {P : Program} {t e : TypeId} {z : Value} {size bytes : Nat} (R : IsRow P t e z size bytes) {id : Nat} {Q : Exit → Act → World → Prop} {a : Act} {w : World} {l : List Oper} (n : Nat)
    (hm : P.follows .mixedOrders = true) (hB : headB l.toArray n 4 [] = true) (hQ : ∀ c a t v w, Q (.panic c) (a.put (some t) v) w → Q (.panic c) a w)
    (oc o0 o1 o2 : Oper) (tl : List Oper) (hd : l.drop n = oc :: o0 :: o1 :: o2 :: tl) (s : Operand) (dc d0 d1 d2 : Tmp) (hdc : oc.dst = some dc) (hd0 : o0.dst = some d0) (hd1 : o1.dst = some d1) (hd2 : o2.dst = some d2) (g1 : o1.guard = none) (g2 : o2.guard = none)
    (ho1 : o1.op = .buildSlice t 1 #[(0, .tmp d0)]) (ho2 : o2.op = .call { callee := .builtin .append, args := #[s, .tmp d1], argTypes := #[t, t] })
    (v vc : Value) (k : Nat) (xs : List Value) (hown : w.ownsRow 0 e size v k xs) (el : Value) (hel : el.cells.size = size) (hs : size ≤ 1000) (h1 : ∀ u ∈ el.cells.toList, u.oneCell' = true) (hbound : (k + 1) * (bytes + 1) ≤ 140737488355328)
    (h : ∀ g cap w2, w2.ownsRow 0 e size (.slice (some ⟨g, 0, none⟩) (k + 1) cap) (k + 1) (xs ++ el.cells.toList) → Fr (fun j => v.ownBlock = some j) (w.alloc (.cells el.cells e)) w2 → (v.ownBlock = some g ∨ g = w.heap.size + 1) → g < w2.heap.size →
      wpQuiet P l.toArray (fun y => y = w.drew ∨ y = (w.alloc (.cells el.cells e)).drew ∨ y = w2) (fun a' => (∀ K : Act → World → Prop, K (a'.put (some dc) vc) w.drew → wpList P l.toArray (Exit.then K Q) [oc] a' w.drew) ∧ (∀ K : Act → World → Prop, K ((a'.put (some dc) vc).put (some d0) el) w.drew → wpList P l.toArray (Exit.then K Q) [o0] (a'.put (some dc) vc) w.drew) ∧ d0 < a'.tmps.size ∧ d1 < a'.tmps.size ∧ (((a'.put (some dc) vc).put (some d0) el).put (some d1) (.slice (some ⟨w.heap.size, 0, none⟩) 1 1)).eval s = v ∧
        wpList P l.toArray Q tl ((((a'.put (some dc) vc).put (some d0) el).put (some d1) (.slice (some ⟨w.heap.size, 0, none⟩) 1 1)).put (some d2) (.slice (some ⟨g, 0, none⟩) (k + 1) cap)) w2) (l.take n) a) :
    (Code.region id l.toArray true).wp P Q a w := by
  have hB1 : Has (w.alloc (.cells el.cells e)).drew w.heap.size el.cells.toList.toArray e := by simpa using (Has.new w el.cells e).drew
  obtain ⟨g, cap, w2, hr, f1, f2, f3, f4⟩ := app_run R (w.alloc (.cells el.cells e)).drew o2.type v k xs (owns_drew (owns_alloc hown _)) w.heap.size el.cells.toList hB1 (by simpa using hel) h1 hbound
  have h' := h g cap w2 f1 ⟨f2.os, f2.tape, f2.output, f2.size, f2.block⟩ (by simpa using f3) f4
  refine wp_region_head n 4 (fun y => y = w.drew ∨ y = (w.alloc (.cells el.cells e)).drew ∨ y = w2) hm hB hQ (.inl rfl) ?_
  have mono : ∀ (l' : List Oper) (T T' : Act → Prop) (a : Act), (∀ a, T a → T' a) → wpQuiet P l.toArray (fun y => y = w.drew ∨ y = (w.alloc (.cells el.cells e)).drew ∨ y = w2) T l' a → wpQuiet P l.toArray (fun y => y = w.drew ∨ y = (w.alloc (.cells el.cells e)).drew ∨ y = w2) T' l' a := by
    intro l'
    induction l' with
    | nil => exact fun T T' a hT h => hT a h
    | cons o r ih =>
      intro T T' a hT h
      unfold wpQuiet at h ⊢
      split
      · rename_i hw; rw [if_pos hw] at h; exact Oper.quiet_mono (fun a => ih T T' a hT) h
      · rename_i hw; rw [if_neg hw] at h; exact ih T T' _ hT h
  refine mono _ _ _ a (fun a' ha => ?_) h'
  obtain ⟨ec, e1, e2, e3, e4, e5⟩ := ha
  rw [hd]
  show wpList P l.toArray (Exit.then _ Q) [oc] a' w.drew
  refine ec _ ⟨.inl rfl, ?_⟩
  show wpList P l.toArray (Exit.then _ Q) [o0] (a'.put (some dc) vc) w.drew
  refine e1 _ ⟨.inl rfl, ?_⟩
  refine chain_of_run (v := .slice (some ⟨w.heap.size, 0, none⟩) 1 1) (w' := (w.alloc (.cells el.cells e)).drew) g1 ?_ ⟨.inr (.inl rfl), chain_of_run (v := .slice (some ⟨g, 0, none⟩) (k + 1) cap) (w' := w2) g2 ?_ ⟨.inr (.inr rfl), ?_⟩⟩
  · have := run_build1 R w.drew el hel hs
    have e6 : ((a'.put (some dc) vc).put (some d0) el).eval (.tmp d0) = el := by simp [Act.put, Act.eval, e2]
    simp only [execOp, ho1, Sem.run_bind, Sem.run_pure, List.map_toArray, List.map_cons, List.map_nil, e6, this, Result.andThen_ok]
    rfl
  · have e6 : (((a'.put (some dc) vc).put (some d0) el).put o1.dst (.slice (some ⟨w.heap.size, 0, none⟩) 1 1)).eval (.tmp d1) = .slice (some ⟨w.heap.size, 0, none⟩) 1 1 := by
      rw [hd1]
      simp [Act.put, Act.eval, e3]
    rw [hd1] at e6 ⊢
    simp only [execOp, ho2, resolve, invoke, builtin, Sem.run_bind, Sem.run_pure, Result.andThen_ok, List.map_toArray, List.map_cons, List.map_nil, e4, e6, hr]
  · rw [hd1, hd2]
    cases tl <;> exact e5
end Go.Proofs.Qxb6500575aGreatDoor
