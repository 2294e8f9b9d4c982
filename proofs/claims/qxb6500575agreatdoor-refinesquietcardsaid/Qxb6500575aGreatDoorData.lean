/-
  THE PLAIN DATA of modm and prep, and the cells by which they lie in memory. No program.
-/
import Derived.Test.Qxb6500575aGreatDoorMem
namespace Go.Proofs.Qxb6500575aGreatDoor
open Go Go.RowKit
set_option linter.unusedVariables false
set_option linter.unusedSimpArgs false

/-- a string's value, by its bytes -/
abbrev sv (l : List UInt8) : Value := .string ⟨l.toArray⟩
/-- api.Ins -/
structure Ins where
  op : Int
  imm : Int
  tab : List UInt8
/-- api.Flat -/
structure Flat where
  op : Int
  imm : Int
  keep : Int
  cut : Int
/-- modm.fn -/
structure FnD where
  typ : Int
  locals : List UInt8
  code : List Ins
/-- modm.Module -/
structure ModD where
  params : List (List UInt8)
  results : List (List UInt8)
  imports : List Int
  min : Int
  max : Int
  funcs : List FnD

def Ins.cells (c : Ins) : List Value := [.int .i64 c.op, .int .i64 c.imm, sv c.tab]
def Flat.cells (c : Flat) : List Value := [.int .i64 c.op, .int .i64 c.imm, .int .i64 c.keep, .int .i64 c.cut]
def insCells (l : List Ins) : List Value := l.flatMap Ins.cells
def flatCells (l : List Flat) : List Value := l.flatMap Flat.cells
def strCells (l : List (List UInt8)) : List Value := l.map sv
def intCells (l : List Int) : List Value := l.map (.int .i64)
/-- a list of rows of k cells each, laid one behind the other -/
theorem flatMap_len {α : Type} (f : α → List Value) (k : Nat) (hf : ∀ a, (f a).length = k) : ∀ l : List α, (l.flatMap f).length = l.length * k
  | [] => by simp
  | a :: l => by simp [hf, flatMap_len f k hf l, Nat.add_mul]; omega
theorem flatMap_at {α : Type} (f : α → List Value) (k : Nat) (hf : ∀ a, (f a).length = k) : ∀ (l : List α) (i j : Nat) (a : α), l[i]? = some a → j < k → (l.flatMap f)[i * k + j]? = (f a)[j]?
  | [], i, j, a, h, _ => by simp at h
  | b :: l, 0, j, a, h, hj => by
    simp at h; subst h
    simp only [List.flatMap_cons, Nat.zero_mul, Nat.zero_add]
    rw [List.getElem?_append_left (by rw [hf]; exact hj)]
  | b :: l, i + 1, j, a, h, hj => by
    simp at h
    simp only [List.flatMap_cons]
    rw [List.getElem?_append_right (by rw [hf, Nat.add_mul]; omega), hf, ← flatMap_at f k hf l i j a h hj]
    congr 1
    rw [Nat.add_mul]; omega
theorem Ins.cells_len (c : Ins) : c.cells.length = 3 := rfl
theorem Flat.cells_len (c : Flat) : c.cells.length = 4 := rfl
theorem insCells_len (l : List Ins) : (insCells l).length = l.length * 3 := flatMap_len _ 3 Ins.cells_len l
theorem flatCells_len (l : List Flat) : (flatCells l).length = l.length * 4 := flatMap_len _ 4 Flat.cells_len l
theorem insCells_at (l : List Ins) (i j : Nat) (c : Ins) (h : l[i]? = some c) (hj : j < 3) : (insCells l)[i * 3 + j]? = c.cells[j]? := flatMap_at _ 3 Ins.cells_len l i j c h hj
theorem flatCells_at (l : List Flat) (i j : Nat) (c : Flat) (h : l[i]? = some c) (hj : j < 4) : (flatCells l)[i * 4 + j]? = c.cells[j]? := flatMap_at _ 4 Flat.cells_len l i j c h hj
theorem insCells_snoc (l : List Ins) (c : Ins) : insCells (l ++ [c]) = insCells l ++ c.cells := by simp [insCells]
theorem flatCells_snoc (l : List Flat) (c : Flat) : flatCells (l ++ [c]) = flatCells l ++ c.cells := by simp [flatCells]

/-- what a step may own behind it: what it owned, and what it has made -/
def Own (S : Nat → Prop) (w w' : World) (k : Nat) : Prop := S k ∨ (w.heap.size ≤ k ∧ k < w'.heap.size)
theorem Own.old {S : Nat → Prop} {w w' : World} {k : Nat} (h : S k) : Own S w w' k := .inl h
theorem Own.new {S : Nat → Prop} {w w' : World} {k : Nat} (h : w.heap.size ≤ k) (h' : k < w'.heap.size) : Own S w w' k := .inr ⟨h, h'⟩

/-! ### the module -/
structure ModL where
  pa : Option Addr
  ra : Option Addr
  ia : Option Addr
  fa : Option Addr
  pc : Nat
  rc : Nat
  ic : Nat
  fc : Nat
  cv : List Value
/-- a function's three cells; its code's slice value beside it -/
def fnCells (x : FnD × Value) : List Value := [.int .i64 x.1.typ, sv x.1.locals, x.2]
theorem fnCells_len (x : FnD × Value) : (fnCells x).length = 3 := rfl
structure ModRep (S : Nat → Prop) (w : World) (bm : Nat) (L : ModL) (m : ModD) : Prop where
  here : Has w bm #[.slice L.pa m.params.length L.pc, .slice L.ra m.results.length L.rc, .slice L.ia m.imports.length L.ic, .int .i64 m.min, .int .i64 m.max, .slice L.fa m.funcs.length L.fc] 113
  params : w.ownsRow 0 9 1 (.slice L.pa m.params.length L.pc) m.params.length (strCells m.params)
  results : w.ownsRow 0 9 1 (.slice L.ra m.results.length L.rc) m.results.length (strCells m.results)
  imports : w.ownsRow 0 3 1 (.slice L.ia m.imports.length L.ic) m.imports.length (intCells m.imports)
  funcs : w.ownsRow 0 117 3 (.slice L.fa m.funcs.length L.fc) m.funcs.length ((m.funcs.zip L.cv).flatMap fnCells)
  cvlen : L.cv.length = m.funcs.length
  codes : ∀ (i : Nat) f v, m.funcs[i]? = some f → L.cv[i]? = some v → w.ownsRow 0 67 3 v f.code.length (insCells f.code)
  apart : ∀ g, (Value.slice L.pa m.params.length L.pc).ownBlock = some g → (Value.slice L.ra m.results.length L.rc).ownBlock ≠ some g
  own : S bm
  ownP : ∀ g, (Value.slice L.pa m.params.length L.pc).ownBlock = some g → S g
  ownR : ∀ g, (Value.slice L.ra m.results.length L.rc).ownBlock = some g → S g
  ownI : ∀ g, (Value.slice L.ia m.imports.length L.ic).ownBlock = some g → S g
  ownF : ∀ g, (Value.slice L.fa m.funcs.length L.fc).ownBlock = some g → S g
  ownC : ∀ (i : Nat) v, L.cv[i]? = some v → ∀ g, v.ownBlock = some g → S g
def Mod (S : Nat → Prop) (w : World) (bm : Nat) (m : ModD) : Prop := ∃ L, ModRep S w bm L m

/-- a block of S is one that lies there -/
theorem ModRep.fr {S S' : Nat → Prop} {w w' : World} {bm : Nat} {L : ModL} {m : ModD} (h : ModRep S w bm L m) (hf : Fr S' w w') (hd : ∀ k, S k → ¬ S' k) : ModRep S w' bm L m :=
  { h with
    here := h.here.fr hf (hd _ h.own)
    params := owns_fr h.params hf (fun g hg => hd g (h.ownP g hg))
    results := owns_fr h.results hf (fun g hg => hd g (h.ownR g hg))
    imports := owns_fr h.imports hf (fun g hg => hd g (h.ownI g hg))
    funcs := owns_fr h.funcs hf (fun g hg => hd g (h.ownF g hg))
    codes := fun i f v hi hv => owns_fr (h.codes i f v hi hv) hf (fun g hg => hd g (h.ownC i v hv g hg)) }
theorem ModRep.sub {S S' : Nat → Prop} {w : World} {bm : Nat} {L : ModL} {m : ModD} (h : ModRep S w bm L m) (hs : ∀ k, S k → S' k) : ModRep S' w bm L m :=
  { h with own := hs _ h.own, ownP := fun g hg => hs _ (h.ownP g hg), ownR := fun g hg => hs _ (h.ownR g hg), ownI := fun g hg => hs _ (h.ownI g hg), ownF := fun g hg => hs _ (h.ownF g hg), ownC := fun i v hv g hg => hs _ (h.ownC i v hv g hg) }

/-- nothing has happened -/
theorem ModRep.still {S : Nat → Prop} {w : World} {bm : Nat} {L : ModL} {m : ModD} (h : ModRep S w bm L m) : (∃ L', ModRep (Own S w w) w bm L' m) ∧ Fr S w w := ⟨⟨L, h.sub fun _ => .inl⟩, Fr.refl _ _⟩
theorem Own.trans {S : Nat → Prop} {w w1 w2 : World} (h12 : w1.heap.size ≤ w2.heap.size) (h01 : w.heap.size ≤ w1.heap.size) : ∀ k, Own (Own S w w1) w1 w2 k → Own S w w2 k := by
  rintro k ((hk | ⟨a, b⟩) | ⟨a, b⟩)
  · exact .inl hk
  · exact .inr ⟨a, by omega⟩
  · exact .inr ⟨by omega, b⟩
theorem Own.step {S : Nat → Prop} {w w1 w2 : World} (h12 : Fr (Own S w w1) w1 w2) (h01 : Fr S w w1) : Fr S w w2 :=
  h01.trans h12 fun j hj hO => by
    rcases hO with hO | ⟨a, _⟩
    · exact hO
    · omega
theorem Own.lt {S : Nat → Prop} {w w1 : World} (hS : ∀ k, S k → k < w.heap.size) (h : w.heap.size ≤ w1.heap.size) : ∀ k, Own S w w1 k → k < w1.heap.size := by
  rintro k (hk | ⟨_, b⟩)
  · have := hS k hk; omega
  · exact b

section
variable {S : Nat → Prop} {w w2 : World} {bm : Nat} {L : ModL} {m : ModD} {g cap : Nat}
/-- a part that lies elsewhere -/
theorem ModRep.far (h : ModRep S w bm L m) {v0 : Value} (hF : Fr (fun k => v0.ownBlock = some k ∨ k = bm) w w2) {v : Value} {e : TypeId} {size n : Nat} {xs : List Value} (ho : w.ownsRow 0 e size v n xs) (hb : 113 ≠ e) (hi : ∀ k, v.ownBlock = some k → v0.ownBlock ≠ some k) : w2.ownsRow 0 e size v n xs :=
  owns_fr ho hF (fun k hk hk' => by
      rcases hk' with hk' | rfl
      · exact hi k hk hk'
      · exact owns_ne ho h.here hb hk)
theorem ModRep.putImports (h : ModRep S w bm L m) (typ : Int)
    (hF : Fr (fun k => (Value.slice L.ia m.imports.length L.ic).ownBlock = some k ∨ k = bm) w w2)
    (hH : Has w2 bm (#[.slice L.pa m.params.length L.pc, .slice L.ra m.results.length L.rc, .slice L.ia m.imports.length L.ic, .int .i64 m.min, .int .i64 m.max, .slice L.fa m.funcs.length L.fc].setIfInBounds 2 (.slice (some ⟨g, 0, none⟩) (m.imports.length + 1) cap)) 113)
    (hO : w2.ownsRow 0 3 1 (.slice (some ⟨g, 0, none⟩) (m.imports.length + 1) cap) (m.imports.length + 1) (intCells m.imports ++ [.int .i64 typ]))
    (hat : (Value.slice L.ia m.imports.length L.ic).ownBlock = some g ∨ w.heap.size ≤ g) (hlt : g < w2.heap.size) :
    (∃ L', ModRep (Own S w w2) w2 bm L' { m with imports := m.imports ++ [typ] }) ∧ Fr S w w2 := by
  have hS : ∀ k, ((Value.slice L.ia m.imports.length L.ic).ownBlock = some k ∨ k = bm) → S k := by
    rintro k (hk | rfl)
    · exact h.ownI k hk
    · exact h.own
  refine ⟨⟨{ L with ia := some ⟨g, 0, none⟩, ic := cap }, ?_⟩, hF.weaken fun k _ => hS k⟩
  have h2 := h.sub (S' := Own S w w2) fun _ => .inl
  exact { h2 with
    here := by simpa using hH
    params := h.far hF h.params (by decide) (owns_apart h.params h.imports (by decide))
    results := h.far hF h.results (by decide) (owns_apart h.results h.imports (by decide))
    imports := by simpa [intCells] using hO
    funcs := h.far hF h.funcs (by decide) (owns_apart h.funcs h.imports (by decide))
    codes := fun i f v hi hv => h.far hF (h.codes i f v hi hv) (by decide) (owns_apart (h.codes i f v hi hv) h.imports (by decide))
    ownI := fun k hk => by
      simp [Value.ownBlock] at hk
      subst hk
      rcases hat with hat | hat
      · exact .inl (h.ownI _ hat)
      · exact .inr ⟨hat, hlt⟩ }
theorem ModRep.putParams (h : ModRep S w bm L m) (p : List UInt8)
    (hF : Fr (fun k => (Value.slice L.pa m.params.length L.pc).ownBlock = some k ∨ k = bm) w w2)
    (hH : Has w2 bm (#[.slice L.pa m.params.length L.pc, .slice L.ra m.results.length L.rc, .slice L.ia m.imports.length L.ic, .int .i64 m.min, .int .i64 m.max, .slice L.fa m.funcs.length L.fc].setIfInBounds 0 (.slice (some ⟨g, 0, none⟩) (m.params.length + 1) cap)) 113)
    (hO : w2.ownsRow 0 9 1 (.slice (some ⟨g, 0, none⟩) (m.params.length + 1) cap) (m.params.length + 1) (strCells m.params ++ [sv p]))
    (hat : (Value.slice L.pa m.params.length L.pc).ownBlock = some g ∨ w.heap.size ≤ g) (hlt : g < w2.heap.size) :
    (∃ L', ModRep (Own S w w2) w2 bm L' { m with params := m.params ++ [p] }) ∧ Fr S w w2 := by
  have hS : ∀ k, ((Value.slice L.pa m.params.length L.pc).ownBlock = some k ∨ k = bm) → S k := by
    rintro k (hk | rfl)
    · exact h.ownP k hk
    · exact h.own
  refine ⟨⟨{ L with pa := some ⟨g, 0, none⟩, pc := cap }, ?_⟩, hF.weaken fun k _ => hS k⟩
  have h2 := h.sub (S' := Own S w w2) fun _ => .inl
  exact { h2 with
    here := by simpa using hH
    params := by simpa [strCells] using hO
    results := h.far hF h.results (by decide) (fun k hk hk' => h.apart k hk' hk)
    imports := h.far hF h.imports (by decide) (owns_apart h.imports h.params (by decide))
    funcs := h.far hF h.funcs (by decide) (owns_apart h.funcs h.params (by decide))
    codes := fun i f v hi hv => h.far hF (h.codes i f v hi hv) (by decide) (owns_apart (h.codes i f v hi hv) h.params (by decide))
    apart := fun k hk hk' => by
      simp [Value.ownBlock] at hk
      subst hk
      rcases hat with hat | hat
      · exact h.apart _ hat hk'
      · have := owns_lt h.results _ hk'
        omega
    ownP := fun k hk => by
      simp [Value.ownBlock] at hk
      subst hk
      rcases hat with hat | hat
      · exact .inl (h.ownP _ hat)
      · exact .inr ⟨hat, hlt⟩ }
theorem ModRep.putResults (h : ModRep S w bm L m) (p : List UInt8)
    (hF : Fr (fun k => (Value.slice L.ra m.results.length L.rc).ownBlock = some k ∨ k = bm) w w2)
    (hH : Has w2 bm (#[.slice L.pa m.params.length L.pc, .slice L.ra m.results.length L.rc, .slice L.ia m.imports.length L.ic, .int .i64 m.min, .int .i64 m.max, .slice L.fa m.funcs.length L.fc].setIfInBounds 1 (.slice (some ⟨g, 0, none⟩) (m.results.length + 1) cap)) 113)
    (hO : w2.ownsRow 0 9 1 (.slice (some ⟨g, 0, none⟩) (m.results.length + 1) cap) (m.results.length + 1) (strCells m.results ++ [sv p]))
    (hat : (Value.slice L.ra m.results.length L.rc).ownBlock = some g ∨ w.heap.size ≤ g) (hlt : g < w2.heap.size) :
    (∃ L', ModRep (Own S w w2) w2 bm L' { m with results := m.results ++ [p] }) ∧ Fr S w w2 := by
  have hS : ∀ k, ((Value.slice L.ra m.results.length L.rc).ownBlock = some k ∨ k = bm) → S k := by
    rintro k (hk | rfl)
    · exact h.ownR k hk
    · exact h.own
  refine ⟨⟨{ L with ra := some ⟨g, 0, none⟩, rc := cap }, ?_⟩, hF.weaken fun k _ => hS k⟩
  have h2 := h.sub (S' := Own S w w2) fun _ => .inl
  exact { h2 with
    here := by simpa using hH
    results := by simpa [strCells] using hO
    params := h.far hF h.params (by decide) (fun k hk hk' => h.apart k hk hk')
    imports := h.far hF h.imports (by decide) (owns_apart h.imports h.results (by decide))
    funcs := h.far hF h.funcs (by decide) (owns_apart h.funcs h.results (by decide))
    codes := fun i f v hi hv => h.far hF (h.codes i f v hi hv) (by decide) (owns_apart (h.codes i f v hi hv) h.results (by decide))
    apart := fun k hk hk' => by
      simp [Value.ownBlock] at hk'
      subst hk'
      rcases hat with hat | hat
      · exact h.apart _ hk hat
      · have := owns_lt h.params _ hk
        omega
    ownR := fun k hk => by
      simp [Value.ownBlock] at hk
      subst hk
      rcases hat with hat | hat
      · exact .inl (h.ownR _ hat)
      · exact .inr ⟨hat, hlt⟩ }
theorem ModRep.putFuncs (h : ModRep S w bm L m) (f : FnD) (v : Value)
    (hv : w2.ownsRow 0 67 3 v f.code.length (insCells f.code)) (hvo : ∀ g, v.ownBlock = some g → Own S w w2 g)
    (hF : Fr (fun k => (Value.slice L.fa m.funcs.length L.fc).ownBlock = some k ∨ k = bm) w w2)
    (hH : Has w2 bm (#[.slice L.pa m.params.length L.pc, .slice L.ra m.results.length L.rc, .slice L.ia m.imports.length L.ic, .int .i64 m.min, .int .i64 m.max, .slice L.fa m.funcs.length L.fc].setIfInBounds 5 (.slice (some ⟨g, 0, none⟩) (m.funcs.length + 1) cap)) 113)
    (hO : w2.ownsRow 0 117 3 (.slice (some ⟨g, 0, none⟩) (m.funcs.length + 1) cap) (m.funcs.length + 1) ((m.funcs.zip L.cv).flatMap fnCells ++ fnCells (f, v)))
    (hat : (Value.slice L.fa m.funcs.length L.fc).ownBlock = some g ∨ w.heap.size ≤ g) (hlt : g < w2.heap.size) :
    (∃ L', ModRep (Own S w w2) w2 bm L' { m with funcs := m.funcs ++ [f] }) ∧ Fr S w w2 := by
  have hS : ∀ k, ((Value.slice L.fa m.funcs.length L.fc).ownBlock = some k ∨ k = bm) → S k := by
    rintro k (hk | rfl)
    · exact h.ownF k hk
    · exact h.own
  refine ⟨⟨{ L with fa := some ⟨g, 0, none⟩, fc := cap, cv := L.cv ++ [v] }, ?_⟩, hF.weaken fun k _ => hS k⟩
  have h2 := h.sub (S' := Own S w w2) fun _ => .inl
  have cvl := h.cvlen
  have hcase : ∀ (i : Nat) u, (L.cv ++ [v])[i]? = some u → (i < m.funcs.length ∧ L.cv[i]? = some u) ∨ (i = m.funcs.length ∧ u = v) := by
    intro i u hu
    by_cases hi : i < L.cv.length
    · rw [List.getElem?_append_left hi] at hu; exact .inl ⟨by omega, hu⟩
    · rw [List.getElem?_append_right (by omega)] at hu
      have h0 : i - L.cv.length = 0 := by
        have := (List.getElem?_eq_some_iff.1 hu).1
        simp at this; omega
      rw [h0] at hu
      exact .inr ⟨by omega, by simpa using hu.symm⟩
  exact { h2 with
    here := by simpa using hH
    params := h.far hF h.params (by decide) (owns_apart h.params h.funcs (by decide))
    results := h.far hF h.results (by decide) (owns_apart h.results h.funcs (by decide))
    imports := h.far hF h.imports (by decide) (owns_apart h.imports h.funcs (by decide))
    funcs := by
      have : (m.funcs ++ [f]).zip (L.cv ++ [v]) = m.funcs.zip L.cv ++ [(f, v)] := by
        rw [List.zip_append (by omega)]; rfl
      simpa [this] using hO
    cvlen := by simp [cvl]
    codes := fun i f' u hi hu => by
      rcases hcase i u hu with ⟨a, b⟩ | ⟨a, b⟩
      · have hi' : m.funcs[i]? = some f' := by rw [← hi, List.getElem?_append_left a]
        exact h.far hF (h.codes i f' u hi' b) (by decide) (owns_apart (h.codes i f' u hi' b) h.funcs (by decide))
      · subst a; subst b
        have : f' = f := by simpa using hi.symm
        rw [this]; exact hv
    ownF := fun k hk => by
      simp [Value.ownBlock] at hk
      subst hk
      rcases hat with hat | hat
      · exact .inl (h.ownF _ hat)
      · exact .inr ⟨hat, hlt⟩
    ownC := fun i u hu k hk => by
      rcases hcase i u hu with ⟨a, b⟩ | ⟨a, b⟩
      · exact .inl (h.ownC i u b k hk)
      · subst b; exact hvo k hk }
end

end Go.Proofs.Qxb6500575aGreatDoor
