/-
  THE WALK of the parser layer: flat.go: opt.
-/
import Derived.Test.Qxb6500574aGreatDoorWFl4
namespace Go.Proofs.Qxb6500574aGreatDoor
open Go Go.RowKit
set_option linter.unusedVariables false
set_option linter.unusedSimpArgs false
open Go.Lib
section
set_option maxRecDepth 100000
set_option maxHeartbeats 1000000
variable {w W : World} {o oW : Nat → Nat} {sb : Nat} {nm tk : Value} {A N : List Nd} {nb : Nat} {cs : Array Value} {P : Nat → Prop} {lo hi a mx : Nat} {x : Value} {ks : List Mb}
theorem OpM.le (h : OpM lo hi a x ks) : lo ≤ hi := by
  rcases h with ⟨_, _, _, h⟩ | ⟨h1, h2, _⟩ <;> omega
theorem FSt.op (h : FSt w o sb nm tk W oW A nb cs) (C : ExC N mx) (ho : OpM lo hi a x ks) (hk : ∀ y ∈ ks, TrA w P N y.1 y.2.1 y.2.2) (hg : a = 0 ∨ GoodE N a) (hz : ∀ y ∈ ks, (N.getD y.2.1 nd0).next = 0) (hP : ∀ k, P k → k < w.heap.size ∧ o k = 0) (hn : hi < mx) (hA : A.length = lo + 1) :
    Calls Tryz.prog 229 #[.pointer (some ⟨sb, 0, none⟩), x] W fun e w' => e = .returned (.int .i64 (a : Nat)) ∧ ∃ o', FSt w o sb nm tk w' o' (A ++ fulN N lo hi) nb cs := by
  rcases ho with ⟨h1, h2, _, h3⟩ | ⟨h1, h2, h3⟩
  · subst h1 h2 h3
    have H : Hid (FSt w o sb nm tk W oW (A ++ fulN N hi hi) nb cs) := by
      show FSt _ _ _ _ _ _ _ _ _ _
      rw [fulN_self, List.append_nil]
      exact h
    clear h hg hz hk hA
    go_enter Tryz.func229, Tryz.ntmps229
    go_wp2_with fail
    go_ret
    exact ⟨rfl, _, H.out⟩
  · subst h1
    have hT := hk (lo, a, x) (by rw [h3]; simp)
    have hZ := hz (lo, a, x) (by rw [h3]; simp)
    obtain ⟨tt, bb, hv⟩ := hT.ptr
    have CA : Hid (Calls Tryz.prog 164 #[.pointer (some ⟨sb, 0, none⟩), x] W fun e w' => e = .returned (.int .i64 (a : Nat)) ∧ ∃ o', FSt w o sb nm tk w' o' (A ++ fulN N lo a) nb cs) := h.ex C hT (.inl (hg.resolve_left (by omega))) hP hn hA hZ
    dsimp only at hv
    subst hv
    clear h hg hz hk hA hT hZ h3
    go_enter Tryz.func229, Tryz.ntmps229
    go_wp2_with fail
    refine CA.out.mono ?_
    rintro e w' ⟨rfl, o', q⟩
    have HQ : Hid (FSt w o sb nm tk w' o' (A ++ fulN N lo a) nb cs) := q
    clear q CA
    go_wp2_with fail
    go_ret
    exact ⟨rfl, _, HQ.out⟩
end
end Go.Proofs.Qxb6500574aGreatDoor
