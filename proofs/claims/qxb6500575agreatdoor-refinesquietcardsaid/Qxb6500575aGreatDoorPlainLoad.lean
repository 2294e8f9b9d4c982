/-
  THE PLAIN FUNCTIONS of prep.New. No program.
-/
import Derived.Test.Qxb6500575aGreatDoorOne
import Derived.Test.Qxb6500575aGreatDoorNewCk
import Derived.Test.Qxb6500575aGreatDoorRead
namespace Go.Proofs.Qxb6500575aGreatDoor
open Go Go.RowKit
set_option linter.unusedVariables false
set_option linter.unusedSimpArgs false

/-- one body: the first fault, and the checker behind it -/
def runCk (E : Env) : Nat → List Ins → Ck → Option (Nat × Int) × Ck
  | _, [], s => (none, s)
  | k, c :: cs, s => if (s.one E c).2 = 0 then runCk E (k + 1) cs (s.one E c).1 else (some (k, (s.one E c).2), (s.one E c).1)
/-- the checker ahead of instruction k, if none before it was at fault -/
def stateAt (E : Env) (code : List Ins) : Nat → Option Ck
  | 0 => some (Ck.start E.me.results)
  | k + 1 => match stateAt E code k, code[k]? with
    | some s, some c => if (s.one E c).2 = 0 then some (s.one E c).1 else none
    | _, _ => none
theorem runCk_at (E : Env) (code : List Ins) : ∀ (k : Nat) (s : Ck), stateAt E code k = some s → runCk E 0 code (Ck.start E.me.results) = runCk E k (code.drop k) s
  | 0, s, h => by simp [stateAt] at h; subst h; rfl
  | k + 1, s, h => by
    simp only [stateAt] at h
    split at h
    · rename_i s0 c hs hc
      split at h
      · rename_i h0
        simp at h
        subst h
        rw [runCk_at E code k s0 hs]
        have hk : k < code.length := (List.getElem?_eq_some_iff.1 hc).1
        have hcc : code[k] = c := (List.getElem?_eq_some_iff.1 hc).2
        rw [List.drop_eq_getElem_cons hk, hcc]
        simp only [runCk]
        rw [if_pos h0]
      · cases h
    · cases h
/-- what the walk of a body asks of the state ahead of each of its instructions -/
def BodyOk (E : Env) (code : List Ins) : Prop :=
  ∀ (k : Nat) (s : Ck) (c : Ins), stateAt E code k = some s → code[k]? = some c → well c = true ∧ s.Fit ∧ ∃ b r, s.Top b r ∧ (c.op = 4 → ∃ al, b.alt = some al)

/-! ### the joint index space -/
def ModD.typOf (m : ModD) (f : Nat) : Int := if f < m.imports.length then m.importAt f else (m.funcAt ((f : Int) - m.imports.length)).1
def ModD.locOf (m : ModD) (f : Nat) : List UInt8 := if f < m.imports.length then [] else (m.funcAt ((f : Int) - m.imports.length)).2.1
def ModD.sizeOf (m : ModD) (f : Nat) : Int := if f < m.imports.length then 0 else (m.funcAt ((f : Int) - m.imports.length)).2.2
def ModD.funD (m : ModD) (f : Nat) : FunD := { params := (m.typeAt (m.typOf f)).1, results := (m.typeAt (m.typOf f)).2, locals := m.locOf f }
def ModD.nall (m : ModD) : Nat := m.imports.length + m.funcs.length
def ModD.sigs (m : ModD) : List FunD := (List.range m.nall).map m.funD
def ModD.env (m : ModD) (f : Nat) : Env := { funs := m.sigs, me := m.funD f }
def ModD.body (m : ModD) (f : Nat) : List Ins := if f < m.imports.length then [] else ((m.funcs[f - m.imports.length]?).map (·.code)).getD []
def ModD.chk (m : ModD) (f : Nat) : Option (Nat × Int) × Ck := runCk (m.env f) 0 (m.body f) (Ck.start (m.funD f).results)
/-- the first of f, f + 1, .. (k of them) whose type index names no type -/
def ModD.badSig (m : ModD) : Nat → Nat → Option Nat
  | _, 0 => none
  | f, k + 1 => if (m.params.length : Int) ≤ m.typOf f then some f else m.badSig (f + 1) k
/-- the first of f, f + 1, .. whose body is at fault -/
def ModD.badBody (m : ModD) : Nat → Nat → Option (Nat × Nat × Int)
  | _, 0 => none
  | f, k + 1 => match (m.chk f).1 with
    | some (i, e) => some (f, i, e)
    | none => m.badBody (f + 1) k
def ModD.code (m : ModD) (f : Nat) : List Flat := if f < m.imports.length then [] else (m.chk f).2.code
/-- load's three results -/
def ModD.load (m : ModD) : Int × Int × Int :=
  match m.badSig 0 m.nall with
  | some f => (f, -1, 5)
  | none => match m.badBody m.imports.length m.funcs.length with
    | some (f, i, e) => (f, i, e)
    | none => (0, 0, 0)
/-- what modm promises -/
structure ModOk (m : ModD) : Prop where
  np : m.params.length ≤ 4
  nr : m.results.length = m.params.length
  ni : m.imports.length ≤ 2
  nf : m.funcs.length ≤ 4
  pl : ∀ p ∈ m.params, p.length ≤ 3
  rl : ∀ p ∈ m.results, p.length ≤ 1
  im : ∀ t ∈ m.imports, 0 ≤ t
  ft : ∀ f ∈ m.funcs, 0 ≤ f.typ
  fl : ∀ f ∈ m.funcs, f.locals.length ≤ 4
  fc : ∀ f ∈ m.funcs, f.code.length ≤ 24
theorem ModOk.funD {m : ModD} (h : ModOk m) (f : Nat) : (m.funD f).params.length ≤ 3 ∧ (m.funD f).results.length ≤ 1 ∧ (m.funD f).locals.length ≤ 4 := by
  have key : ∀ (l : List (List UInt8)) (n : Nat), (∀ p ∈ l, p.length ≤ n) → ∀ i : Nat, (l[i]?.getD []).length ≤ n := by
    intro l n hl i
    cases hi : l[i]? with
    | none => simp
    | some p => simpa using hl p (List.mem_of_getElem? hi)
  refine ⟨?_, ?_, ?_⟩
  · unfold ModD.funD ModD.typeAt
    simp only
    split
    · simp
    · exact key _ _ h.pl _
  · unfold ModD.funD ModD.typeAt
    simp only
    split
    · simp
    · exact key _ _ h.rl _
  · unfold ModD.funD ModD.locOf ModD.funcAt
    simp only
    split
    · simp
    · split
      · simp
      · split
        · simp
        · rename_i f hf
          exact h.fl _ (List.mem_of_getElem? hf)
theorem ModOk.envOk {m : ModD} (h : ModOk m) (f : Nat) : EnvOk (m.env f) := by
  have h2 := h.ni
  have h4 := h.nf
  have hm : ∀ u ∈ (m.env f).funs, ∃ g, u = m.funD g := by
    intro u hu
    simp only [ModD.env, ModD.sigs, List.mem_map] at hu
    obtain ⟨g, _, rfl⟩ := hu
    exact ⟨g, rfl⟩
  refine ⟨?_, ?_, ?_, ?_⟩
  · simp only [ModD.env, ModD.sigs, ModD.nall, List.length_map, List.length_range]; omega
  · intro u hu; obtain ⟨g, rfl⟩ := hm u hu; have := (h.funD g).1; omega
  · intro u hu; obtain ⟨g, rfl⟩ := hm u hu; have := (h.funD g).2.1; omega
  · intro u hu; obtain ⟨g, rfl⟩ := hm u hu; have := (h.funD g).2.2; omega
end Go.Proofs.Qxb6500575aGreatDoor
