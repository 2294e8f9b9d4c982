/-
  'k.st = append(k.st, s...)' IN A REGION THAT DRAWS ITS ORDER. No program.
-/
import Derived.Test.Qxb6500575aGreatDoorRegApp
import Derived.Test.Qxb6500575aGreatDoorMem2
namespace Go.Proofs.Qxb6500575aGreatDoor
open Go Go.RowKit
set_option linter.unusedVariables false
set_option linter.unusedSimpArgs false
theorem wpQuiet_mono {P : Program} {ops : Array Oper} {C : World → Prop} : ∀ (l' : List Oper) (T T' : Act → Prop) (a : Act), (∀ a, T a → T' a) → wpQuiet P ops C T l' a → wpQuiet P ops C T' l' a
  | [], _, _, a, hT, h => hT a h
  | o :: r, T, T', a, hT, h => by
    unfold wpQuiet at h ⊢
    split
    · rename_i hw; rw [if_pos hw] at h; exact Oper.quiet_mono (fun a => wpQuiet_mono r T T' a hT) h
    · rename_i hw; rw [if_neg hw] at h; exact wpQuiet_mono r T T' _ hT h

theorem wp_region_appStr {P : Program} {t u e : TypeId} (R : IsRow P t e (.int .u8 0) 1 1) (hu : P.underlying u = some .string) {id : Nat} {Q : Exit → Act → World → Prop} {a : Act} {w : World} {l : List Oper} (n : Nat)
    (hm : P.follows .mixedOrders = true) (hB : headB l.toArray n 1 [] = true) (hQ : ∀ c a t v w, Q (.panic c) (a.put (some t) v) w → Q (.panic c) a w)
    (o1 : Oper) (tl : List Oper) (hd : l.drop n = o1 :: tl) (x s : Operand) (d1 : Tmp) (hd1 : o1.dst = some d1) (g1 : o1.guard = none)
    (ho1 : o1.op = .call { callee := .builtin .append, args := #[s, x], argTypes := #[t, u] })
    (v : Value) (k : Nat) (xs : List Value) (hown : w.ownsRow 0 e 1 v k xs) (out : List UInt8) (hb : k + out.length ≤ 1000000)
    (h : ∀ b cap w2, w2.ownsRow 0 e 1 (.slice b (k + out.length) cap) (k + out.length) (xs ++ byteCells out) → Fr (fun j => v.ownBlock = some j) w w2 → (∀ g, (Value.slice b (k + out.length) cap).ownBlock = some g → v.ownBlock = some g ∨ w.heap.size ≤ g) →
      wpQuiet P l.toArray (fun y => y = w.drew ∨ y = w2) (fun a' => a'.eval s = v ∧ a'.eval x = sv out ∧ wpList P l.toArray Q tl (a'.put (some d1) (.slice b (k + out.length) cap)) w2) (l.take n) a) :
    (Code.region id l.toArray true).wp P Q a w := by
  obtain ⟨b, cap, w2, hr, f1, f2, f3⟩ := run_appStr R hu w.drew o1.type v k xs (owns_drew hown) out hb
  have h' := h b cap w2 f1 ⟨f2.os, f2.tape, f2.output, f2.size, f2.block⟩ f3
  refine wp_region_head n 1 (fun y => y = w.drew ∨ y = w2) hm hB hQ (.inl rfl) ?_
  refine wpQuiet_mono _ _ _ a (fun a' ha => ?_) h'
  obtain ⟨e1, e2, e5⟩ := ha
  rw [hd]
  refine chain_of_run (v := .slice b (k + out.length) cap) (w' := w2) g1 ?_ ⟨.inr rfl, ?_⟩
  · simp only [execOp, ho1, resolve, invoke, builtin, Sem.run_bind, Sem.run_pure, Result.andThen_ok, List.map_toArray, List.map_cons, List.map_nil, e1, e2, hr]
  · rw [hd1]
    cases tl <;> exact e5
end Go.Proofs.Qxb6500575aGreatDoor
