/-
  COMPILER AND DRIVER AT THE START. No walk.
-/
import Derived.Test.Qxb6500574aGreatDoorWRu3
namespace Go.Proofs.Qxb6500574aGreatDoor
open Go Go.RowKit
set_option linter.unusedVariables false
set_option linter.unusedSimpArgs false
/-- all that was there at the start -/
def ob (w : World) : Nat → Nat := fun k => if k < w.heap.size then 1039 else 0
/-- the package's tables -/
structure Glob (w : World) : Prop where
  k : TabL w (ob w) 1 keywordL
  g : TabL w (ob w) 2 signL
  b : TabB w (ob w)
def oG (s : Nat) : Nat → Nat := fun k => if k < s then 1039 else if k = s + 4 then 1040 else if k = s + 9 then 1051 else if k = s + 10 then 1050 else if k = s + 1 ∨ k = s + 2 ∨ k = s + 3 ∨ k = s + 5 ∨ k = s + 6 ∨ k = s + 7 then 999 else 0
def gC (s : Nat) : CC := ⟨s + 10, s + 9, .pointer (some ⟨s + 4, 0, none⟩), .pointer (some ⟨s + 7, 0, none⟩), sl0, sl0, []⟩
theorem fl0_here (g : Nat) : ((List.replicate 13 fl0).flatMap (fnV g)).toArray = z143 := rfl
theorem fl0_one (w : World) (o : Nat → Nat) (g x : Nat) : FnOne w o g x fl0 :=
  ⟨Row.nil _ _ _ _ _, Row.nil _ _ _ _ _, Row.nil _ _ _ _ _, fun b e => (by cases e), fun b e => (by cases e), Row.nil _ _ _ _ _, Row.nil _ _ _ _ _, rfl, fun i l b h _ => by
    have h' : ([] : List LpD)[i]? = some l := h
    simp at h'⟩
theorem grd_cm {w w1 : World} {s : Nat} (G : Glob w) (g : Grd w s w1) (hs : w.heap.size = s) (cs : Array Value) (T : TypeId) :
    CM (s + 7) (((w1.alloc (.cells cs T)).alloc (.cells z143 102)).alloc (.cells #[.pointer (some ⟨s + 4, 0, none⟩), .pointer (some ⟨s + 7, 0, none⟩), .slice none 0 0, .slice (some ⟨s + 9, 0, none⟩) 13 13, .int .i64 0, .slice none 0 0] 51)) (oG s) (gA s) (gC s) (s + 4) (.pointer (some ⟨s + 2, 0, none⟩)) cm00 ∧
    Stp (fun _ => False) w (ob w) (((w1.alloc (.cells cs T)).alloc (.cells z143 102)).alloc (.cells #[.pointer (some ⟨s + 4, 0, none⟩), .pointer (some ⟨s + 7, 0, none⟩), .slice none 0 0, .slice (some ⟨s + 9, 0, none⟩) 13 13, .int .i64 0, .slice none 0 0] 51)) (oG s) ∧
    Has (((w1.alloc (.cells cs T)).alloc (.cells z143 102)).alloc (.cells #[.pointer (some ⟨s + 4, 0, none⟩), .pointer (some ⟨s + 7, 0, none⟩), .slice none 0 0, .slice (some ⟨s + 9, 0, none⟩) 13 13, .int .i64 0, .slice none 0 0] 51)) (s + 8) cs T := by
  have sz := g.sz
  have h8 : Has _ (s + 8) cs T := ((Has.newC w1 cs T sz.symm).alloc (.cells z143 102)).alloc (.cells #[.pointer (some ⟨s + 4, 0, none⟩), .pointer (some ⟨s + 7, 0, none⟩), .slice none 0 0, .slice (some ⟨s + 9, 0, none⟩) 13 13, .int .i64 0, .slice none 0 0] 51)
  have h9 : Has _ (s + 9) z143 102 := (Has.newC (w1.alloc (.cells cs T)) z143 102 (by simp [sz])).alloc (.cells #[.pointer (some ⟨s + 4, 0, none⟩), .pointer (some ⟨s + 7, 0, none⟩), .slice none 0 0, .slice (some ⟨s + 9, 0, none⟩) 13 13, .int .i64 0, .slice none 0 0] 51)
  have h10 : Has _ (s + 10) #[.pointer (some ⟨s + 4, 0, none⟩), .pointer (some ⟨s + 7, 0, none⟩), .slice none 0 0, .slice (some ⟨s + 9, 0, none⟩) 13 13, .int .i64 0, .slice none 0 0] 51 := Has.newC ((w1.alloc (.cells cs T)).alloc (.cells z143 102)) _ _ (by simp [sz])
  have F : Fr (fun _ => False) w1 (((w1.alloc (.cells cs T)).alloc (.cells z143 102)).alloc (.cells #[.pointer (some ⟨s + 4, 0, none⟩), .pointer (some ⟨s + 7, 0, none⟩), .slice none 0 0, .slice (some ⟨s + 9, 0, none⟩) 13 13, .int .i64 0, .slice none 0 0] 51)) := (((Fr.refl _ _).alloc _).alloc _).alloc _
  have SZ : (((w1.alloc (.cells cs T)).alloc (.cells z143 102)).alloc (.cells #[.pointer (some ⟨s + 4, 0, none⟩), .pointer (some ⟨s + 7, 0, none⟩), .slice none 0 0, .slice (some ⟨s + 9, 0, none⟩) 13 13, .int .i64 0, .slice none 0 0] 51)).heap.size = s + 11 := by simp [sz]
  generalize (((w1.alloc (.cells cs T)).alloc (.cells z143 102)).alloc (.cells #[.pointer (some ⟨s + 4, 0, none⟩), .pointer (some ⟨s + 7, 0, none⟩), .slice none 0 0, .slice (some ⟨s + 9, 0, none⟩) 13 13, .int .i64 0, .slice none 0 0] 51)) = W at h8 h9 h10 F SZ
  have o4 : oG s (s + 4) = 1040 := by unfold oG; rw [if_neg (by omega), if_pos rfl]
  have o9 : oG s (s + 9) = 1051 := by unfold oG; rw [if_neg (by omega), if_neg (by omega), if_pos rfl]
  have o10 : oG s (s + 10) = 1050 := by unfold oG; rw [if_neg (by omega), if_neg (by omega), if_neg (by omega), if_pos rfl]
  have oW : Ow W (oG s) := by
    intro k hk
    unfold oG
    rw [if_neg (by omega), if_neg (by omega), if_neg (by omega), if_neg (by omega), if_neg (by omega)]
  have ST : Stp (fun _ => False) w (ob w) W (oG s) := ⟨g.fr.trans F (fun _ _ x => x), fun k hk => by unfold oG ob; rw [if_pos (by omega), if_pos hk], fun _ => oW⟩
  refine ⟨⟨⟨⟨⟨h10, o10⟩, Row.nil _ _ _ _ _, Row.nil _ _ _ _ _, ⟨List.replicate 13 fl0, ⟨⟨by rw [fl0_here]; exact h9, o9⟩, fun x d hd => ?_⟩, rfl, fun x hx => absurd hx (Nat.not_lt_zero x)⟩, rfl, Nat.zero_le _, oW⟩, rfl, rfl, [], [], ⟨⟨sl0, sl0, ⟨g.sy.fr F (fun x => x), o4⟩, Row.nil _ _ _ _ _, Row.nil _ _ _ _ _⟩, G.k.st ST (fun x => x), G.g.st ST (fun x => x), G.b.st ST (fun x => x), oW⟩, ⟨.inl rfl, .inl rfl, Nat.zero_le _⟩⟩, ⟨⟨vm0, 0, 21, 0, g.rep.fresh F, g.co.fr F (fun x => x), DI.zero, by omega, by omega⟩, ?_⟩, rfl, fun k hk => ?_, .inl ⟨rfl, rfl⟩, rfl⟩, ST, h8⟩
  · have : d = fl0 := List.eq_of_mem_replicate (List.mem_of_getElem? hd)
    subst this
    exact fl0_one _ _ _ _
  · simp [gA]
  · have hk' : k = s + 1 ∨ k = s + 2 ∨ k = s + 3 ∨ k = s + 5 ∨ k = s + 6 ∨ k = s + 7 := by
      rcases hk with h | h
      · apply Decidable.byContradiction
        intro hn
        apply h
        show (if k = s + 1 then 3 else if k = s + 2 then 2 else if k = s + 3 then 4 else if k = s + 5 then 13 else if k = s + 6 then 1 else 0) = 0
        rw [if_neg (by omega), if_neg (by omega), if_neg (by omega), if_neg (by omega), if_neg (by omega)]
      · omega
    unfold oG
    rw [if_neg (by omega), if_neg (by omega), if_neg (by omega), if_neg (by omega), if_pos hk']
end Go.Proofs.Qxb6500574aGreatDoor
