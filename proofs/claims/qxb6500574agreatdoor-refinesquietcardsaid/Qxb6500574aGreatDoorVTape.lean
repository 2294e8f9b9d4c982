/-
  'next' over a map leaves the tape as it is. No program.
-/
import Derived.Laws.IdiomRangeMap
import Derived.Test.Qxb6500574aGreatDoorMem
namespace Go.Proofs.Qxb6500574aGreatDoor
open Go Go.RowKit
set_option linter.unusedVariables false
set_option linter.unusedSimpArgs false

def KT {α : Type} (s : Sem α) : Prop := ∀ (P : Program) (w : World) (a : α) (w' : World), s.run P w = .ok a w' → w'.tape = w.tape
theorem KT.pure {α : Type} (a : α) : KT (Pure.pure a : Sem α) := fun P w b w' h => by
  have h2 : (Pure.pure a : Sem α).run P w = .ok a w := Sem.run_pure ..
  rw [h2] at h
  cases h
  rfl
theorem KT.bind {α β : Type} {s : Sem α} {f : α → Sem β} (hs : KT s) (hf : ∀ a, KT (f a)) : KT (s >>= f) := fun P w b w' h => by
  rw [Sem.run_bind] at h
  cases h1 : s.run P w with
  | ok a w1 =>
    rw [h1] at h
    exact (hf a P w1 b w' h).trans (hs P w a w1 h1)
  | halt x w1 => rw [h1] at h; cases h
theorem KT.getObj (r : Nat) : KT (getObj r) := fun P w b w' h => by
  simp only [Go.getObj, Sem.run] at h
  split at h
  · cases h
  · cases h; rfl
  · cases h
theorem KT.setObj (r : Nat) (o : Obj) : KT (setObj r o) := fun P w b w' h => by
  simp only [Go.setObj, Sem.run] at h
  split at h
  · cases h
  · cases h; rfl
  · cases h
theorem KT.choose (q : Question) : KT (choose q) := fun P w b w' h => by
  simp only [Go.choose, Sem.run] at h
  split at h
  · cases h; rfl
  · cases h; rfl
theorem KT.stuck {α : Type} (m : String) : KT (stuck m : Sem α) := fun P w b w' h => by cases h
theorem KT.unsupported {α : Type} (u : Unsupported) : KT (unsupported u : Sem α) := fun P w b w' h => by cases h
theorem KT.next (r : Nat) (ty : TypeId) : KT (Instr.next (.pointer (some ⟨r, 0, none⟩)) false ty) := by
  unfold Instr.next
  refine KT.bind (KT.getObj r) (fun o => ?_)
  split
  · split
    · exact KT.bind (KT.setObj _ _) (fun _ => KT.pure _)
    · exact KT.pure _
  · exact KT.pure _
  · refine KT.bind (KT.getObj _) (fun o2 => ?_)
    split
    · split
      · refine KT.bind (KT.unsupported _) (fun _ => ?_)
        refine KT.bind (KT.choose _) (fun _ => ?_)
        split
        · exact KT.bind (KT.setObj _ _) (fun _ => KT.pure _)
        · exact KT.pure _
        · exact KT.stuck _
      · refine KT.bind (KT.choose _) (fun _ => ?_)
        split
        · exact KT.bind (KT.setObj _ _) (fun _ => KT.pure _)
        · exact KT.pure _
        · exact KT.stuck _
    · exact KT.stuck _
  · exact KT.stuck _
theorem Fr.alike {w w1 w2 : World} (ha : w2.Alike w1) (ht : w2.tape = w1.tape) (h : Fr (fun _ => False) w w1) : Fr (fun _ => False) w w2 :=
  ⟨ha.2.1.trans h.os, ht.trans h.tape, ha.2.2.trans h.output, by rw [ha.1]; exact h.size, fun k hk hn => by rw [ha.1]; exact h.block k hk hn⟩
end Go.Proofs.Qxb6500574aGreatDoor
