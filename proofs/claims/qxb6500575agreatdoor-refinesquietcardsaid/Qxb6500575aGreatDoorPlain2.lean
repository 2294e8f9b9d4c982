/-
  THE PLAIN FUNCTIONS of the checker (prep/check.go). No program.
-/
import Derived.Test.Qxb6500575aGreatDoorCk
namespace Go.Proofs.Qxb6500575aGreatDoor
open Go Go.RowKit
set_option linter.unusedVariables false
set_option linter.unusedSimpArgs false

/-- the innermost open block, its floor within the stack -/
structure Ck.Top (s : Ck) (b : Blk) (r : List Blk) : Prop where
  opn : s.opn = b :: r
  fl : b.height ≤ s.st.length

def Ck.pop (s : Ck) (want : UInt8) : Ck × UInt8 × Bool :=
  match s.opn with
  | [] => (s, want, false)
  | b :: _ => if s.st.length = b.height then (s, want, b.dead) else
    match s.st with
    | [] => (s, want, false)
    | t :: st' => if t = 0 then ({ s with st := st' }, want, true) else ({ s with st := st' }, t, want == 0 || t == want)
theorem Ck.pop_opn (s : Ck) (want : UInt8) : (s.pop want).1.opn = s.opn := by
  unfold Ck.pop
  split
  · rfl
  · split
    · rfl
    · split
      · rfl
      · split <;> rfl
theorem Ck.pop_code (s : Ck) (want : UInt8) : (s.pop want).1.code = s.code := by
  unfold Ck.pop
  split
  · rfl
  · split
    · rfl
    · split
      · rfl
      · split <;> rfl
theorem Ck.pop_len (s : Ck) (want : UInt8) : (s.pop want).1.st.length ≤ s.st.length := by
  unfold Ck.pop
  split
  · exact Nat.le_refl _
  · split
    · exact Nat.le_refl _
    · split
      · exact Nat.le_refl _
      · rename_i h
        split <;> simp [h]
theorem Ck.pop_top {s : Ck} {b : Blk} {r : List Blk} (h : s.Top b r) (want : UInt8) : (s.pop want).1.Top b r := by
  refine ⟨by rw [s.pop_opn]; exact h.opn, ?_⟩
  have hf := h.fl
  unfold Ck.pop
  rw [h.opn]
  simp only
  split
  · exact hf
  · rename_i hne
    cases hs : s.st with
    | nil => simp only; rw [hs] at hf; rw [hs]; exact hf
    | cons t st' =>
      simp only
      rw [hs] at hf hne
      simp at hf hne
      split <;> simp <;> omega

/-- pops, over the types from the last to the first -/
def Ck.popsR : List UInt8 → Ck → Ck × Int
  | [], s => (s, 0)
  | t :: ts, s => if (s.pop t).2.2 = true then Ck.popsR ts (s.pop t).1 else ((s.pop t).1, 6)
def Ck.pops (s : Ck) (types : List UInt8) : Ck × Int := Ck.popsR types.reverse s
theorem Ck.popsR_opn : ∀ (l : List UInt8) (s : Ck), (Ck.popsR l s).1.opn = s.opn
  | [], _ => rfl
  | t :: ts, s => by
    unfold Ck.popsR
    split
    · rw [Ck.popsR_opn ts, s.pop_opn]
    · exact s.pop_opn t
theorem Ck.popsR_code : ∀ (l : List UInt8) (s : Ck), (Ck.popsR l s).1.code = s.code
  | [], _ => rfl
  | t :: ts, s => by
    unfold Ck.popsR
    split
    · rw [Ck.popsR_code ts, s.pop_code]
    · exact s.pop_code t
theorem Ck.popsR_len : ∀ (l : List UInt8) (s : Ck), (Ck.popsR l s).1.st.length ≤ s.st.length
  | [], _ => Nat.le_refl _
  | t :: ts, s => by
    unfold Ck.popsR
    split
    · exact Nat.le_trans (Ck.popsR_len ts _) (s.pop_len t)
    · exact s.pop_len t
theorem Ck.popsR_top : ∀ (l : List UInt8) (s : Ck) {b : Blk} {r : List Blk}, s.Top b r → (Ck.popsR l s).1.Top b r
  | [], _, _, _, h => h
  | t :: ts, s, _, _, h => by
    unfold Ck.popsR
    split
    · exact Ck.popsR_top ts _ (Ck.pop_top h t)
    · exact Ck.pop_top h t
theorem Ck.pops_opn (s : Ck) (l : List UInt8) : (s.pops l).1.opn = s.opn := Ck.popsR_opn _ _
theorem Ck.pops_code (s : Ck) (l : List UInt8) : (s.pops l).1.code = s.code := Ck.popsR_code _ _
theorem Ck.pops_len (s : Ck) (l : List UInt8) : (s.pops l).1.st.length ≤ s.st.length := Ck.popsR_len _ _
theorem Ck.pops_top {s : Ck} {b : Blk} {r : List Blk} (h : s.Top b r) (l : List UInt8) : (s.pops l).1.Top b r := Ck.popsR_top _ _ h

def Ck.swap (s : Ck) (i o : List UInt8) : Ck × Int := ({ (s.pops i).1 with st := o.reverse ++ (s.pops i).1.st }, (s.pops i).2)
/-- the stack cut to n operands -/
def cut (n : Nat) (st : List UInt8) : List UInt8 := st.drop (st.length - n)
theorem cut_len {n : Nat} {st : List UInt8} (h : n ≤ st.length) : (cut n st).length = n := by simp [cut]; omega
def Ck.leaves (s : Ck) (carry : List UInt8) : Ck × Int :=
  match (s.pops carry).1.opn with
  | [] => s.pops carry
  | b :: r => ({ (s.pops carry).1 with st := cut b.height (s.pops carry).1.st, opn := { b with dead := true } :: r }, (s.pops carry).2)
def Ck.closes (s : Ck) : Ck × Int :=
  match s.opn with
  | [] => (s, 0)
  | b :: _ => ((s.pops b.res).1, if (s.pops b.res).1.st.length ≠ b.height then 6 else (s.pops b.res).2)
/-- the jump at place a gets its target -/
def patchAt (code : List Flat) (a : Nat) (target : Int) : List Flat :=
  match code[a]? with
  | some c => code.set a { c with imm := target }
  | none => code
theorem patchAt_len (code : List Flat) (a : Nat) (t : Int) : (patchAt code a t).length = code.length := by
  unfold patchAt; split <;> simp

/-- the patches that an end brings, one behind the other -/
def patchAll (code : List Flat) (t : Int) (ps : List Nat) : List Flat := ps.foldl (fun c a => patchAt c a t) code
theorem patchAll_len (code : List Flat) (t : Int) (ps : List Nat) : (patchAll code t ps).length = code.length := by
  unfold patchAll
  induction ps generalizing code with
  | nil => rfl
  | cons a ps ih => simp only [List.foldl_cons]; rw [ih, patchAt_len]
end Go.Proofs.Qxb6500575aGreatDoor
