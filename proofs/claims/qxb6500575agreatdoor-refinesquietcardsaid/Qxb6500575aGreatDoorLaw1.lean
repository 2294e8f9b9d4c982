/-
  THE PLAIN LAW of the flat code: what the checker lays, instruction by instruction. No program.
-/
import Derived.Test.Qxb6500575aGreatDoorPlainLoad
import Derived.Test.Qxb6500575aGreatDoorNest
namespace Go.Proofs.Qxb6500575aGreatDoor
open Go Go.RowKit
set_option linter.unusedVariables false
set_option linter.unusedSimpArgs false
/-- what a flat instruction is to be: t = 0: op, imm as they stand; 1: a jump ahead; 2: a jump -/
structure Kd where
  t : Nat
  op : Int
  imm : Int
def emitK (c : Ins) (last : Bool) : List Kd :=
  if c.op = 1 ∨ c.op = 2 then []
  else if c.op = 3 ∨ c.op = 4 then [⟨1, c.op, 0⟩]
  else if c.op = 5 then (if last then [⟨0, 5, 0⟩] else [])
  else if c.op = 6 ∨ c.op = 7 then [⟨2, c.op, 0⟩]
  else if c.op = 8 then ⟨0, 8, (c.tab.length : Int) - 1⟩ :: List.replicate c.tab.length ⟨2, 6, 0⟩
  else [⟨0, c.op, c.imm⟩]
def emitsTo (code : List Ins) : Nat → List Kd
  | 0 => []
  | k + 1 => emitsTo code k ++ (match code[k]? with | some c => emitK c (decide (k + 1 = code.length)) | none => [])

/-- pd: the place waits for its target -/
structure CellOk (pd : Prop) (len a : Nat) (c : Flat) (kd : Kd) : Prop where
  p0 : kd.t = 0 → c = ⟨kd.op, kd.imm, 0, 0⟩
  p1 : kd.t = 1 → c.op = kd.op ∧ c.keep = 0 ∧ c.cut = 0 ∧ (pd ∨ ((a : Int) < c.imm ∧ c.imm ≤ len))
  p2 : kd.t = 2 → c.op = kd.op ∧ 0 ≤ c.keep ∧ c.keep ≤ 1 ∧ 0 ≤ c.cut ∧ c.cut ≤ 24 ∧ (pd ∨ (0 ≤ c.imm ∧ c.imm ≤ len ∧ ((a : Int) < c.imm ∨ c.keep = 0)))
theorem CellOk.mono {pd pd' : Prop} {len len' a : Nat} {c : Flat} {kd : Kd} (h : CellOk pd len a c kd) (hp : pd → pd') (hl : len ≤ len') : CellOk pd' len' a c kd := by
  refine ⟨h.p0, fun ht => ?_, fun ht => ?_⟩
  · obtain ⟨a1, a2, a3, a4⟩ := h.p1 ht
    refine ⟨a1, a2, a3, ?_⟩
    rcases a4 with a4 | a4
    · exact .inl (hp a4)
    · exact .inr ⟨a4.1, by omega⟩
  · obtain ⟨a1, a2, a3, a4, a5, a6⟩ := h.p2 ht
    refine ⟨a1, a2, a3, a4, a5, ?_⟩
    rcases a6 with a6 | a6
    · exact .inl (hp a6)
    · exact .inr ⟨a6.1, by omega, a6.2.2⟩
/-- patched: its target lies ahead, within the code -/
theorem CellOk.patch {pd pd' : Prop} {len a : Nat} {c : Flat} {kd : Kd} (h : CellOk pd len a c kd) (ht : kd.t ≠ 0) {len' : Nat} {t : Int} (h1 : (a : Int) < t) (h2 : t ≤ len') : CellOk pd' len' a { c with imm := t } kd := by
  refine ⟨fun e => absurd e ht, fun ht => ?_, fun ht => ?_⟩
  · obtain ⟨a1, a2, a3, _⟩ := h.p1 ht
    exact ⟨a1, a2, a3, .inr ⟨h1, h2⟩⟩
  · obtain ⟨a1, a2, a3, a4, a5, _⟩ := h.p2 ht
    exact ⟨a1, a2, a3, a4, a5, .inr ⟨by show 0 ≤ t; omega, h2, .inl h1⟩⟩

def Blk.pd (b : Blk) (a : Nat) : Prop := a ∈ b.wait ++ b.alt.toList
def Pend (bs : List Blk) (a : Nat) : Prop := ∃ b ∈ bs, b.pd a

structure InvC (opn : List Int) (bs : List Blk) (code : List Flat) (ks : List Kd) : Prop where
  len : bs.length = opn.length + 1
  alts : ∀ (i : Nat) b, bs[i]? = some b → (b.alt.isSome = true ↔ opn[i]? = some 3)
  res : ∀ b ∈ bs, b.res.length ≤ 1 ∧ b.carry.length ≤ 1
  head : ∀ b ∈ bs, b.head = -1 ∨ (0 ≤ b.head ∧ b.head ≤ code.length ∧ b.carry = [])
  klen : ks.length = code.length
  cells : ∀ (a : Nat) c kd, code[a]? = some c → ks[a]? = some kd → CellOk (Pend bs a) code.length a c kd
  pend : ∀ a, Pend bs a → ∃ kd, ks[a]? = some kd ∧ kd.t ≠ 0
  waits : ∀ b ∈ bs, b.wait.length ≤ code.length

theorem InvC.pend_lt {opn : List Int} {bs : List Blk} {code : List Flat} {ks : List Kd} (h : InvC opn bs code ks) {a : Nat} (ha : Pend bs a) : a < code.length := by
  obtain ⟨kd, hk, _⟩ := h.pend a ha
  rw [← h.klen]
  exact (List.getElem?_eq_some_iff.1 hk).1

section
variable {opn : List Int} {bs : List Blk} {code : List Flat} {ks : List Kd}
/-- one more instruction at the end -/
theorem InvC.push (h : InvC opn bs code ks) {bs' : List Blk} {opn' : List Int} (c : Flat) (kd : Kd)
    (hl : bs'.length = opn'.length + 1) (ha : ∀ (i : Nat) b, bs'[i]? = some b → (b.alt.isSome = true ↔ opn'[i]? = some 3))
    (hr : ∀ b ∈ bs', b.res.length ≤ 1 ∧ b.carry.length ≤ 1) (hh : ∀ b ∈ bs', b.head = -1 ∨ (0 ≤ b.head ∧ b.head ≤ code.length ∧ b.carry = []))
    (hp : ∀ a, Pend bs a → Pend bs' a) (hp' : ∀ a, Pend bs' a → Pend bs a ∨ (a = code.length ∧ kd.t ≠ 0))
    (hw : ∀ b ∈ bs', b.wait.length ≤ code.length + 1)
    (hc : CellOk (Pend bs' code.length) (code.length + 1) code.length c kd) : InvC opn' bs' (code ++ [c]) (ks ++ [kd]) := by
  have hkl := h.klen
  refine ⟨hl, ha, hr, fun b hb => ?_, by simp [hkl], ?_, ?_, fun b hb => by simpa using hw b hb⟩
  · rcases hh b hb with h1 | h1
    · exact .inl h1
    · exact .inr ⟨h1.1, by simp; omega, h1.2.2⟩
  · intro a c' kd' hc' hk'
    by_cases hal : a < code.length
    · rw [List.getElem?_append_left hal] at hc'
      rw [List.getElem?_append_left (by omega)] at hk'
      exact (h.cells a c' kd' hc' hk').mono (hp a) (by simp)
    · have hae : a = code.length := by
        have := (List.getElem?_eq_some_iff.1 hc').1
        simp at this; omega
      subst hae
      rw [List.getElem?_append_right (Nat.le_refl _)] at hc'
      rw [← hkl, List.getElem?_append_right (Nat.le_refl _)] at hk'
      simp at hc' hk'
      subst hc'; subst hk'
      simpa using hc
  · intro a hpa
    rcases hp' a hpa with h1 | ⟨h1, h2⟩
    · obtain ⟨kd', hk, ht⟩ := h.pend a h1
      exact ⟨kd', by rw [List.getElem?_append_left (List.getElem?_eq_some_iff.1 hk).1]; exact hk, ht⟩
    · subst h1
      exact ⟨kd, by rw [← hkl]; simp, h2⟩
theorem InvC.emit (h : InvC opn bs code ks) (op imm : Int) : InvC opn bs (code ++ [⟨op, imm, 0, 0⟩]) (ks ++ [⟨0, op, imm⟩]) :=
  h.push _ _ h.len h.alts h.res h.head (fun _ => id) (fun _ => .inl) (fun b hb => Nat.le_succ_of_le (h.waits b hb)) ⟨fun _ => rfl, (fun e => by cases e), (fun e => by cases e)⟩

theorem mem_set_or {α : Type} {l : List α} {i : Nat} {x y : α} (h : y ∈ l.set i x) : y ∈ l ∨ y = x := by
  rcases List.mem_or_eq_of_mem_set h with h | h
  · exact .inl h
  · exact .inr h
theorem InvC.jump (h : InvC opn bs code ks) (op : Int) (l : Nat) (b : Blk) (hb : bs[l]? = some b) (hh : b.height ≤ 24) :
    InvC opn (if b.head < 0 then bs.set l { b with wait := b.wait ++ [code.length] } else bs) (code ++ [{ op := op, imm := b.head, keep := b.carry.length, cut := b.height }]) (ks ++ [⟨2, op, 0⟩]) := by
  have hm : b ∈ bs := List.mem_of_getElem? hb
  have hll : l < bs.length := (List.getElem?_eq_some_iff.1 hb).1
  have hcl := (h.res b hm).2
  split
  · rename_i hneg
    have hpB : ∀ a, Pend bs a → Pend (bs.set l { b with wait := b.wait ++ [code.length] }) a := by
      rintro a ⟨x, hx, hxa⟩
      obtain ⟨i, hi⟩ := List.mem_iff_getElem?.1 hx
      by_cases hil : i = l
      · subst hil
        have : x = b := by rw [hb] at hi; exact (Option.some.inj hi).symm
        subst this
        refine ⟨{ x with wait := x.wait ++ [code.length] }, List.mem_iff_getElem?.2 ⟨i, by rw [List.getElem?_set_self hll]⟩, ?_⟩
        unfold Blk.pd at hxa ⊢
        simp at hxa ⊢
        rcases hxa with h1 | h1
        · exact .inl h1
        · exact .inr (.inr h1)
      · exact ⟨x, List.mem_iff_getElem?.2 ⟨i, by rw [List.getElem?_set_ne (fun e => hil e.symm)]; exact hi⟩, hxa⟩
    refine h.push _ _ (by simp [h.len]) (fun i x hx => ?_) (fun x hx => ?_) (fun x hx => ?_) hpB (fun a ha => ?_) (fun x hx => ?_) ⟨(fun e => by cases e), (fun e => by cases e), fun _ => ⟨rfl, by simp, by show (b.carry.length : Int) ≤ 1; omega, by simp, by show (b.height : Int) ≤ 24; omega, .inl ?_⟩⟩
    · by_cases hil : l = i
      · subst hil
        rw [List.getElem?_set_self hll] at hx
        simp at hx
        subst hx
        exact h.alts l b hb
      · rw [List.getElem?_set_ne hil] at hx
        exact h.alts i x hx
    · rcases mem_set_or hx with h1 | h1
      · exact h.res x h1
      · subst h1; exact h.res b hm
    · rcases mem_set_or hx with h1 | h1
      · exact h.head x h1
      · subst h1; exact h.head b hm
    · obtain ⟨x, hx, hxa⟩ := ha
      rcases mem_set_or hx with h1 | h1
      · exact .inl ⟨x, h1, hxa⟩
      · subst h1
        unfold Blk.pd at hxa
        simp at hxa
        rcases hxa with h1 | h1 | h1
        · exact .inl ⟨b, hm, by unfold Blk.pd; simp; exact .inl h1⟩
        · exact .inr ⟨h1, by simp⟩
        · exact .inl ⟨b, hm, by unfold Blk.pd; simp; exact .inr h1⟩
    · rcases mem_set_or hx with h1 | h1
      · exact Nat.le_succ_of_le (h.waits x h1)
      · subst h1; have := h.waits b hm; simp; omega
    · exact ⟨_, List.mem_iff_getElem?.2 ⟨l, List.getElem?_set_self hll⟩, by unfold Blk.pd; simp⟩
  · rename_i hneg
    have hhd : 0 ≤ b.head ∧ b.head ≤ code.length ∧ b.carry = [] := by
      rcases h.head b hm with h1 | h1
      · omega
      · exact h1
    refine h.push _ _ h.len h.alts h.res h.head (fun _ => id) (fun _ => .inl) (fun b hb => Nat.le_succ_of_le (h.waits b hb)) ⟨(fun e => by cases e), (fun e => by cases e), fun _ => ⟨rfl, by simp, by show (b.carry.length : Int) ≤ 1; omega, by simp, by show (b.height : Int) ≤ 24; omega, .inr ⟨hhd.1, by have := hhd.2.1; simp; omega, .inr (by rw [hhd.2.2]; rfl)⟩⟩⟩

/-- the top block's flag 'dead' -/
theorem InvC.dead {b : Blk} {r : List Blk} (h : InvC opn (b :: r) code ks) (d : Bool) : InvC opn ({ b with dead := d } :: r) code ks := by
  have hP : ∀ a, Pend ({ b with dead := d } :: r) a ↔ Pend (b :: r) a := by
    intro a
    simp only [Pend, List.mem_cons, exists_eq_or_imp]
    rfl
  refine ⟨by simpa using h.len, fun i x hx => ?_, fun x hx => ?_, fun x hx => ?_, h.klen, fun a c kd hc hk => (h.cells a c kd hc hk).mono (hP a).2 (Nat.le_refl _), fun a ha => h.pend a ((hP a).1 ha), fun x hx => ?_⟩
  · cases i with
    | zero => simp at hx; subst hx; exact h.alts 0 b rfl
    | succ i => exact h.alts (i + 1) x (by simpa using hx)
  · rcases List.mem_cons.1 hx with rfl | h1
    · exact h.res b (by simp)
    · exact h.res x (by simp [h1])
  · rcases List.mem_cons.1 hx with rfl | h1
    · exact h.head b (by simp)
    · exact h.head x (by simp [h1])
  · rcases List.mem_cons.1 hx with rfl | h1
    · exact h.waits b (by simp)
    · exact h.waits x (by simp [h1])

/-- a block or a loop opens -/
theorem InvC.open (h : InvC opn bs code ks) (b : Blk) (o : Int) (ho : o ≠ 3) (ha : b.alt = none) (hw : b.wait = []) (hr : b.res.length ≤ 1 ∧ b.carry.length ≤ 1) (hh : b.head = -1 ∨ (0 ≤ b.head ∧ b.head ≤ code.length ∧ b.carry = [])) : InvC (o :: opn) (b :: bs) code ks := by
  have hpb : ∀ a, ¬ b.pd a := by intro a; unfold Blk.pd; simp [ha, hw]
  have hP : ∀ a, Pend (b :: bs) a ↔ Pend bs a := by
    intro a
    simp only [Pend, List.mem_cons, exists_eq_or_imp]
    constructor
    · rintro (h1 | h1)
      · exact absurd h1 (hpb a)
      · exact h1
    · exact .inr
  refine ⟨by simp [h.len], fun i x hx => ?_, fun x hx => ?_, fun x hx => ?_, h.klen, fun a c kd hc hk => (h.cells a c kd hc hk).mono (hP a).2 (Nat.le_refl _), fun a ha => h.pend a ((hP a).1 ha), fun x hx => ?_⟩
  · cases i with
    | zero => simp at hx; subst hx; simp [ha, ho]
    | succ i => simpa using h.alts i x (by simpa using hx)
  · rcases List.mem_cons.1 hx with rfl | h1
    · exact hr
    · exact h.res x h1
  · rcases List.mem_cons.1 hx with rfl | h1
    · exact hh
    · exact h.head x h1
  · rcases List.mem_cons.1 hx with rfl | h1
    · rw [hw]; simp
    · exact h.waits x h1
/-- an if opens -/
theorem InvC.openIf (h : InvC opn bs code ks) (b : Blk) (ha : b.alt = some code.length) (hw : b.wait = []) (hr : b.res.length ≤ 1 ∧ b.carry.length ≤ 1) (hh : b.head = -1) : InvC (3 :: opn) (b :: bs) (code ++ [⟨3, -1, 0, 0⟩]) (ks ++ [⟨1, 3, 0⟩]) := by
  have hpb : ∀ a, b.pd a ↔ a = code.length := by intro a; unfold Blk.pd; simp [ha, hw]
  have hP : ∀ a, Pend (b :: bs) a ↔ (a = code.length ∨ Pend bs a) := by
    intro a
    simp only [Pend, List.mem_cons, exists_eq_or_imp, hpb]
  refine h.push _ _ (by simp [h.len]) (fun i x hx => ?_) (fun x hx => ?_) (fun x hx => ?_) (fun a ha => (hP a).2 (.inr ha)) (fun a ha => ?_) (fun x hx => ?_) ⟨(fun e => by cases e), fun _ => ⟨rfl, rfl, rfl, .inl ((hP _).2 (.inl rfl))⟩, (fun e => by cases e)⟩
  · cases i with
    | zero => simp at hx; subst hx; simp [ha]
    | succ i => simpa using h.alts i x (by simpa using hx)
  · rcases List.mem_cons.1 hx with rfl | h1
    · exact hr
    · exact h.res x h1
  · rcases List.mem_cons.1 hx with rfl | h1
    · exact .inl hh
    · exact h.head x h1
  · rcases (hP a).1 ha with h1 | h1
    · exact .inr ⟨h1, by simp⟩
    · exact .inl h1
  · rcases List.mem_cons.1 hx with rfl | h1
    · rw [hw]; simp
    · exact Nat.le_succ_of_le (h.waits x h1)

theorem patchAt_get (code : List Flat) (p : Nat) (t : Int) (a : Nat) : (patchAt code p t)[a]? = (code[a]?).map fun c => if a = p then { c with imm := t } else c := by
  unfold patchAt
  split
  · rename_i c hc
    by_cases h : p = a
    · subst h
      rw [List.getElem?_set_self (List.getElem?_eq_some_iff.1 hc).1, hc]; simp
    · rw [List.getElem?_set_ne h]
      cases code[a]? with
      | none => rfl
      | some x => have h2 : ¬ a = p := fun e => h e.symm
                  simp [h2]
  · rename_i hc
    cases hx : code[a]? with
    | none => rfl
    | some x =>
      have : a ≠ p := by intro e; subst e; rw [hx] at hc; cases hc
      simp [this]
theorem patchAll_get (t : Int) (a : Nat) : ∀ (ps : List Nat) (code : List Flat), (patchAll code t ps)[a]? = (code[a]?).map fun c => if a ∈ ps then { c with imm := t } else c
  | [], code => by
    unfold patchAll
    cases h : code[a]? <;> simp [h]
  | p :: ps, code => by
    have ih := patchAll_get t a ps (patchAt code p t)
    have e : patchAll code t (p :: ps) = patchAll (patchAt code p t) t ps := rfl
    rw [e, ih, patchAt_get]
    cases h : code[a]? with
    | none => rfl
    | some c =>
      simp only [Option.map_some]
      by_cases h1 : a = p <;> by_cases h2 : a ∈ ps <;> simp [h1, h2]

/-- an else -/
theorem InvC.turn {o : Int} {b : Blk} {r : List Blk} {al : Nat} (h : InvC (o :: opn) (b :: r) code ks) (ha : b.alt = some al) :
    InvC (4 :: opn) ({ b with wait := b.wait ++ [code.length], alt := none, dead := false } :: r) (patchAt (code ++ [⟨4, -1, 0, 0⟩]) al ((code.length : Int) + 1)) (ks ++ [⟨1, 4, 0⟩]) := by
  have hal : al < code.length := h.pend_lt ⟨b, by simp, by unfold Blk.pd; simp [ha]⟩
  have hbA : ∀ a, b.pd a ↔ (a ∈ b.wait ∨ a = al) := by intro a; unfold Blk.pd; simp [ha, eq_comm]
  have hP : ∀ a, a ≠ al → Pend (b :: r) a → Pend ({ b with wait := b.wait ++ [code.length], alt := none, dead := false } :: r) a := by
    intro a hne hp
    simp only [Pend, List.mem_cons, exists_eq_or_imp] at hp ⊢
    rcases hp with h1 | h1
    · left
      rcases (hbA a).1 h1 with h1 | h1
      · unfold Blk.pd; simp; exact .inl h1
      · exact absurd h1 hne
    · exact .inr h1
  have hP' : ∀ a, Pend ({ b with wait := b.wait ++ [code.length], alt := none, dead := false } :: r) a → Pend (b :: r) a ∨ a = code.length := by
    intro a hp
    simp only [Pend, List.mem_cons, exists_eq_or_imp] at hp ⊢
    rcases hp with h1 | h1
    · unfold Blk.pd at h1
      simp at h1
      rcases h1 with h1 | h1
      · exact .inl (.inl ((hbA a).2 (.inl h1)))
      · exact .inr h1
    · exact .inl (.inr h1)
  have hkl := h.klen
  refine ⟨by simpa using h.len, fun i x hx => ?_, fun x hx => ?_, fun x hx => ?_, by simp [patchAt_len, hkl], ?_, ?_, fun x hx => ?_⟩
  · cases i with
    | zero => simp at hx; subst hx; simp
    | succ i => simpa using h.alts (i + 1) x (by simpa using hx)
  · rcases List.mem_cons.1 hx with rfl | h1
    · exact h.res b (by simp)
    · exact h.res x (by simp [h1])
  · have key : x.head = -1 ∨ (0 ≤ x.head ∧ x.head ≤ code.length ∧ x.carry = []) := by
      rcases List.mem_cons.1 hx with rfl | h1
      · exact h.head b (by simp)
      · exact h.head x (by simp [h1])
    rcases key with h1 | h1
    · exact .inl h1
    · refine .inr ⟨h1.1, ?_, h1.2.2⟩
      simp [patchAt_len]; omega
  · intro a c kd hc hk
    rw [patchAt_get] at hc
    simp only [patchAt_len, List.length_append, List.length_singleton]
    by_cases hlt : a < code.length
    · rw [List.getElem?_append_left hlt] at hc
      rw [List.getElem?_append_left (by omega)] at hk
      rw [List.getElem?_eq_getElem hlt] at hc
      simp at hc
      have hok := h.cells a _ kd (List.getElem?_eq_getElem hlt) hk
      by_cases hae : a = al
      · subst hae
        rw [if_pos rfl] at hc
        subst hc
        obtain ⟨kd', hk', ht⟩ := h.pend a ⟨b, by simp, by unfold Blk.pd; simp [ha]⟩
        rw [hk] at hk'
        have := Option.some.inj hk'
        subst this
        exact hok.patch ht (by omega) (by simp)
      · rw [if_neg hae] at hc
        subst hc
        exact hok.mono (hP a hae) (by omega)
    · have hae : a = code.length := by
        have h2 := (List.getElem?_eq_some_iff.1 hk).1
        simp at h2; omega
      subst hae
      rw [List.getElem?_append_right (Nat.le_refl _)] at hc
      rw [← hkl, List.getElem?_append_right (Nat.le_refl _)] at hk
      simp at hc hk
      rw [if_neg (by omega)] at hc
      subst hc; subst hk
      exact ⟨(fun e => by cases e), fun _ => ⟨rfl, rfl, rfl, .inl ⟨_, List.mem_cons_self, by unfold Blk.pd; simp⟩⟩, (fun e => by cases e)⟩
  · intro a hp
    rcases hP' a hp with h1 | h1
    · obtain ⟨kd', hk, ht⟩ := h.pend a h1
      exact ⟨kd', by rw [List.getElem?_append_left (List.getElem?_eq_some_iff.1 hk).1]; exact hk, ht⟩
    · subst h1
      exact ⟨⟨1, 4, 0⟩, by rw [← hkl]; simp, by decide⟩
  · simp only [patchAt_len, List.length_append, List.length_singleton]
    rcases List.mem_cons.1 hx with rfl | h1
    · have := h.waits b (by simp)
      simp; omega
    · exact Nat.le_succ_of_le (h.waits x (by simp [h1]))

/-- an inner end -/
theorem InvC.leave {o : Int} {b : Blk} {r : List Blk} (h : InvC (o :: opn) (b :: r) code ks) : InvC opn r (patchAll code code.length (b.wait ++ b.alt.toList)) ks := by
  refine ⟨by simpa using h.len, fun i x hx => ?_, fun x hx => h.res x (by simp [hx]), fun x hx => ?_, by rw [patchAll_len]; exact h.klen, ?_, ?_, fun x hx => by rw [patchAll_len]; exact h.waits x (by simp [hx])⟩
  · simpa using h.alts (i + 1) x (by simpa using hx)
  · rw [patchAll_len]; exact h.head x (by simp [hx])
  · intro a c kd hc hk
    rw [patchAll_get] at hc
    rw [patchAll_len]
    have hlt : a < code.length := by rw [← h.klen]; exact (List.getElem?_eq_some_iff.1 hk).1
    rw [List.getElem?_eq_getElem hlt] at hc
    simp only [Option.map_some] at hc
    have hc := Option.some.inj hc
    have hok := h.cells a _ kd (List.getElem?_eq_getElem hlt) hk
    by_cases hm : a ∈ b.wait ++ b.alt.toList
    · rw [if_pos hm] at hc
      subst hc
      obtain ⟨kd', hk', ht⟩ := h.pend a ⟨b, by simp, hm⟩
      rw [hk] at hk'
      have := Option.some.inj hk'
      subst this
      exact hok.patch ht (by omega) (Int.le_refl _)
    · rw [if_neg hm] at hc
      subst hc
      refine hok.mono (fun hp => ?_) (Nat.le_refl _)
      simp only [Pend, List.mem_cons, exists_eq_or_imp] at hp ⊢
      rcases hp with h1 | h1
      · exact absurd h1 hm
      · exact h1
  · intro a hp
    refine h.pend a ?_
    obtain ⟨x, hx, hxa⟩ := hp
    exact ⟨x, by simp [hx], hxa⟩

structure CellFin (n a : Nat) (c : Flat) (kd : Kd) : Prop where
  p0 : kd.t = 0 → c = ⟨kd.op, kd.imm, 0, 0⟩
  p1 : kd.t = 1 → c.op = kd.op ∧ c.keep = 0 ∧ c.cut = 0 ∧ (a : Int) < c.imm ∧ c.imm < n
  p2 : kd.t = 2 → c.op = kd.op ∧ 0 ≤ c.keep ∧ c.keep ≤ 1 ∧ 0 ≤ c.cut ∧ c.cut ≤ 24 ∧ 0 ≤ c.imm ∧ c.imm < n ∧ ((a : Int) < c.imm ∨ c.keep = 0)
structure FinalOk (code : List Flat) (ks : List Kd) : Prop where
  klen : ks.length = code.length
  cells : ∀ (a : Nat) c kd, code[a]? = some c → ks[a]? = some kd → CellFin code.length a c kd
/-- the body's own end -/
theorem InvC.final {b : Blk} (h : InvC [] [b] code ks) : FinalOk (patchAll code code.length (b.wait ++ b.alt.toList) ++ [⟨5, 0, 0, 0⟩]) (ks ++ [⟨0, 5, 0⟩]) := by
  have hkl := h.klen
  refine ⟨by simp [patchAll_len, hkl], ?_⟩
  intro a c kd hc hk
  simp only [List.length_append, patchAll_len, List.length_singleton]
  by_cases hlt : a < code.length
  · rw [List.getElem?_append_left (by rw [patchAll_len]; exact hlt), patchAll_get, List.getElem?_eq_getElem hlt] at hc
    rw [List.getElem?_append_left (by omega)] at hk
    simp only [Option.map_some] at hc
    have hc := Option.some.inj hc
    have hok := h.cells a _ kd (List.getElem?_eq_getElem hlt) hk
    have key : CellOk False code.length a c kd := by
      by_cases hm : a ∈ b.wait ++ b.alt.toList
      · rw [if_pos hm] at hc
        subst hc
        obtain ⟨kd', hk', ht⟩ := h.pend a ⟨b, by simp, hm⟩
        rw [hk] at hk'
        have := Option.some.inj hk'
        subst this
        exact hok.patch ht (by omega) (Int.le_refl _)
      · rw [if_neg hm] at hc
        subst hc
        refine hok.mono (fun hp => ?_) (Nat.le_refl _)
        simp only [Pend, List.mem_cons, List.not_mem_nil, or_false, exists_eq_left] at hp
        exact hm hp
    refine ⟨key.p0, fun ht => ?_, fun ht => ?_⟩
    · obtain ⟨a1, a2, a3, a4⟩ := key.p1 ht
      rcases a4 with a4 | a4
      · exact a4.elim
      · exact ⟨a1, a2, a3, a4.1, by have := a4.2; omega⟩
    · obtain ⟨a1, a2, a3, a4, a5, a6⟩ := key.p2 ht
      rcases a6 with a6 | a6
      · exact a6.elim
      · exact ⟨a1, a2, a3, a4, a5, a6.1, by have := a6.2.1; omega, a6.2.2⟩
  · have hae : a = code.length := by
      have h2 := (List.getElem?_eq_some_iff.1 hk).1
      simp at h2; omega
    subst hae
    rw [List.getElem?_append_right (by rw [patchAll_len]; exact Nat.le_refl _)] at hc
    rw [← hkl, List.getElem?_append_right (Nat.le_refl _)] at hk
    simp [patchAll_len] at hc hk
    subst hc; subst hk
    exact ⟨fun _ => rfl, (fun e => by cases e), (fun e => by cases e)⟩
end
end Go.Proofs.Qxb6500575aGreatDoor
