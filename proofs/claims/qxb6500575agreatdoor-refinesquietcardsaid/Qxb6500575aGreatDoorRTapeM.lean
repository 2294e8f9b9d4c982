/-
  runlaw.Tape: plain data, and how it lies in memory. No walk.
-/
import Derived.Test.Qxb6500575aGreatDoorRAns
import Derived.Test.Qxb6500575aGreatDoorRRun
namespace Go.Proofs.Qxb6500575aGreatDoor
open Go Go.RowKit
set_option linter.unusedVariables false
set_option linter.unusedSimpArgs false

structure TapeD where
  tape : List UInt8
  trace : List UInt8
  k : Nat
  ka : Option Addr
  kc : Nat
  kept : List Value
/-- what the host has written over -/
def bang (n : Nat) : List BV := List.replicate n ⟨33, -7⟩
def TS (bt : Nat) (s : TapeD) (j : Nat) : Prop := j = bt ∨ (Value.slice s.ka 0 0).ownBlock = some j ∨ ∃ v ∈ s.kept, v.ownBlock = some j
structure TapeRep (bt : Nat) (w : World) (s : TapeD) : Prop where
  here : Has w bt #[sv s.tape, sv s.trace, .int .i64 s.k, .slice s.ka s.kept.length s.kc] 88
  row : w.ownsRow 0 37 1 (.slice s.ka s.kept.length s.kc) s.kept.length s.kept
  each : ∀ v ∈ s.kept, ∃ a n c, n ≤ 3 ∧ v = .slice a n c ∧ w.ownsRow 0 70 2 v n (bvCells (bang n))
structure TapeOk (s : TapeD) : Prop where
  kle : s.k ≤ 7
  klen : s.kept.length = s.k
  tr : s.trace.length ≤ 100 * s.k
section
variable {bt : Nat} {w w' : World} {s : TapeD}
theorem TapeRep.typed (h : TapeRep bt w s) : Typed w (TS bt s) tsH := by
  rintro k (rfl | hk | ⟨v, hv, hk⟩)
  · exact ⟨_, _, h.here, by simp⟩
  · obtain ⟨cs, hcs⟩ := owns_typed h.row (by rw [ownBlock_any _ _ _ 0 0]; exact hk)
    exact ⟨cs, _, hcs, by simp⟩
  · obtain ⟨a, n, c, _, rfl, ho⟩ := h.each v hv
    obtain ⟨cs, hcs⟩ := owns_typed ho hk
    exact ⟨cs, _, hcs, by simp⟩
theorem TapeRep.fr (h : TapeRep bt w s) {S' : Nat → Prop} (hf : Fr S' w w') (hd : ∀ k, TS bt s k → ¬ S' k) : TapeRep bt w' s :=
  { h with
    here := h.here.fr hf (hd _ (.inl rfl))
    row := owns_fr h.row hf (fun g hg => hd g (.inr (.inl (by rw [ownBlock_any] at hg; exact hg))))
    each := fun v hv => by
      obtain ⟨a, n, c, h1, h2, h3⟩ := h.each v hv
      exact ⟨a, n, c, h1, h2, owns_fr h3 hf (fun g hg => hd g (.inr (.inr ⟨v, hv, hg⟩)))⟩ }
theorem TapeRep.fresh (h : TapeRep bt w s) (hf : Fr (fun _ => False) w w') : TapeRep bt w' s := h.fr hf (fun _ _ h => h)
theorem TapeRep.lt (h : TapeRep bt w s) {k : Nat} (hk : TS bt s k) : k < w.heap.size := by
  obtain ⟨cs, t, h1, _⟩ := h.typed k hk
  exact h1.lt
/-- the host as the interpreter sees it -/
def tapeH (bt : Nat) : HostL TapeD where
  Rep := fun w s => TapeRep bt w s ∧ TapeOk s
  S := TS bt
  typed := fun h => h.1.typed
  fr := fun h hf hd => ⟨h.1.fr hf hd, h.2⟩
/-- a field of the Tape itself is written -/
theorem TapeRep.field (h : TapeRep bt w s) {s' : TapeD} (i : Nat) (v : Value) (he : #[sv s.tape, sv s.trace, .int .i64 s.k, .slice s.ka s.kept.length s.kc].setIfInBounds i v = #[sv s'.tape, sv s'.trace, .int .i64 s'.k, .slice s'.ka s'.kept.length s'.kc])
    (hk : s'.kept = s.kept) (ha : s'.ka = s.ka) (hc : s'.kc = s.kc) : TapeRep bt (w.setCell ⟨bt, i, none⟩ v) s' := by
  have h1 := owns_ne h.row h.here (by decide)
  refine { here := by rw [← he]; exact h.here.put i v, row := ?_, each := ?_ }
  · rw [hk, ha, hc]
    exact owns_other h.row (p := ⟨bt, i, none⟩) h1 v
  · intro u hu
    rw [hk] at hu
    obtain ⟨a, n, c, e1, e2, e3⟩ := h.each u hu
    exact ⟨a, n, c, e1, e2, owns_other e3 (p := ⟨bt, i, none⟩) (owns_ne e3 h.here (by decide)) v⟩
/-- the arguments are kept -/
theorem TapeRep.keep (h : TapeRep bt w s) {a : Option Addr} {n c : Nat} (hn : n ≤ 3) (hv : w.ownsRow 0 70 2 (.slice a n c) n (bvCells (bang n))) {o : Obj} {w1 : World} {g cap : Nat}
    (q1 : w1.ownsRow 0 37 1 (.slice (some ⟨g, 0, none⟩) (s.kept.length + 1) cap) (s.kept.length + 1) (s.kept ++ [.slice a n c])) (q2 : Fr (fun k => (Value.slice s.ka s.kept.length s.kc).ownBlock = some k) (w.alloc o) w1) (q3 : (Value.slice s.ka s.kept.length s.kc).ownBlock = some g ∨ g = w.heap.size + 1) (q4 : g < w1.heap.size) :
    TapeRep bt (w1.setCell ⟨bt, 3, none⟩ (.slice (some ⟨g, 0, none⟩) (s.kept.length + 1) cap)) { s with ka := some ⟨g, 0, none⟩, kc := cap, kept := s.kept ++ [.slice a n c] } ∧
    Fr (TS bt s) w (w1.setCell ⟨bt, 3, none⟩ (.slice (some ⟨g, 0, none⟩) (s.kept.length + 1) cap)) ∧
    (∀ k, k < w.heap.size → TS bt { s with ka := some ⟨g, 0, none⟩, kc := cap, kept := s.kept ++ [.slice a n c] } k → TS bt s k ∨ (Value.slice a n c).ownBlock = some k) := by
  have hne := owns_ne h.row h.here (by decide)
  obtain ⟨n1, n2, n3, n4, n5⟩ := app_net h.here hne q2 q1 (by decide) q3 q4 3
  have key : ∀ (v : Value) (m : Nat) (xs : List Value), w.ownsRow 0 70 2 v m xs → (w1.setCell ⟨bt, 3, none⟩ (.slice (some ⟨g, 0, none⟩) (s.kept.length + 1) cap)).ownsRow 0 70 2 v m xs := fun v m xs ho =>
    owns_fr ho n1 (fun k hk e => by
      rcases e with e | rfl
      · exact owns_apart ho h.row (by decide) k hk e
      · exact owns_ne ho h.here (by decide) hk)
  refine ⟨{ here := by simpa using n2, row := by simpa using n3, each := ?_ }, n1.weaken ?_, ?_⟩
  · intro v hv'
    simp only [List.mem_append, List.mem_singleton] at hv'
    rcases hv' with hv' | rfl
    · obtain ⟨a', n', c', e1, e2, e3⟩ := h.each v hv'
      exact ⟨a', n', c', e1, e2, key _ _ _ e3⟩
    · exact ⟨a, n, c, hn, rfl, key _ _ _ hv⟩
  · rintro k _ (hk | rfl)
    · exact .inr (.inl (by rw [ownBlock_any] at hk; exact hk))
    · exact .inl rfl
  · rintro k hk (rfl | h1 | ⟨v, hv', h1⟩)
    · exact .inl (.inl rfl)
    · simp [Value.ownBlock] at h1
      subst h1
      rcases n4 with h2 | h2
      · exact .inl (.inr (.inl (by rw [ownBlock_any] at h2; exact h2)))
      · omega
    · simp only [List.mem_append, List.mem_singleton] at hv'
      rcases hv' with hv' | rfl
      · exact .inl (.inr (.inr ⟨v, hv', h1⟩))
      · exact .inr h1
end
end Go.Proofs.Qxb6500575aGreatDoor
