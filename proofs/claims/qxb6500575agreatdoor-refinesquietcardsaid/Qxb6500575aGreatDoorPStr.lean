/-
  THE STRUCTURED MACHINE (runm), plain, with a bound on its depth: none: stuck, or the bound is used up. No walk.
-/
import Derived.Test.Qxb6500575aGreatDoorPRun
import Derived.Test.Qxb6500575aGreatDoorPlainM
import Derived.Test.Qxb6500575aGreatDoorYInst
namespace Go.Proofs.Qxb6500575aGreatDoor
open Go Go.RowKit
set_option linter.unusedVariables false
set_option linter.unusedSimpArgs false

/-- a state of the model: its fields, its memory -/
structure MS where
  x : ND
  mem : List UInt8
/-- what is to be run: k = 0: seq from i · 1: the rounds of a block that starts at i (op, h, keep) · 2: invoke f -/
structure Tk where
  k : Nat
  src : List Ins
  i : Nat
  loc : List V
  depth : Int
  op : Int
  h : Nat
  keep : Nat
  f : Nat
/-- br: -1 fell, -2 a return, else a branch; e: 0 or a trap -/
structure Ot where
  br : Int
  e : Int
  loc : List V
  m : MS
def MS.bump (m : MS) : MS := { m with x := { m.x with n := wrap64 (m.x.n + 1) } }
def MS.st (m : MS) (s : List V) : MS := { m with x := { m.x with st := s } }
/-- the top values are of these types -/
def argsOk (ts : List UInt8) (st : List V) : Bool := decide ((st.take ts.length).map V.ty = ts.reverse ∧ st.length ≤ 900)
/-- runm.cut -/
def cutV (h keep : Nat) (st : List V) : Option (List V) := if h + keep ≤ st.length ∧ st.length ≤ 900 then some (st.take keep ++ st.drop (st.length - h)) else none
/-- what the host has seen and written -/
abbrev HS : Type := List UInt8 × Nat × List UInt8
def ND.hs (x : ND) : HS := (x.tape, x.asked, x.trace)
def ND.to (x : ND) (s : HS) : ND := { x with asked := s.2.1, trace := s.2.2 }
/-- a value within its type -/
def fitV (v : V) : Bool := match v with
  | Sum.inl n => decide (-2147483648 ≤ n) && decide (n < 2147483648)
  | Sum.inr n => decide (-9223372036854775808 ≤ n) && decide (n < 9223372036854775808)
theorem fitV_iff (v : V) : fitV v = true ↔ v.Fits := by
  cases v using V.on with
  | w n => simp [fitV, V.Fits]
  | d n => simp [fitV, V.Fits]
/-- what the walk leans on at an instruction: the operands' types, the values' ranges, the stack's and the memory's size: the plain law shows that it holds at every instruction that is reached -/
def tyS (c : Ins) (st loc : List V) : Bool :=
  if c.op = 3 ∨ c.op = 7 ∨ c.op = 8 then (match st with | v :: _ => decide (v.ty = 105) | _ => false)
  else if c.op = 11 then decide (st ≠ [])
  else if c.op = 12 then (match st with | v :: b :: a :: _ => decide (v.ty = 105 ∧ a.ty = b.ty) | _ => false)
  else if c.op = 13 then decide (c.imm.toNat < loc.length)
  else if c.op = 14 then (match st, loc.reverse[c.imm.toNat]? with | v :: _, some u => decide (v.ty = u.ty) | _, _ => false)
  else if 15 ≤ c.op then decide ((sigM c.op).1.length ≤ st.length ∧ (st.take (sigM c.op).1.length).map V.ty = (sigM c.op).1.reverse)
  else true
def okS (c : Ins) (loc : List V) (max : Nat) (m : MS) : Bool :=
  tyS c m.x.st loc && m.x.st.all fitV && loc.all fitV && decide (0 ≤ m.x.used ∧ m.x.fuel ≤ 9223372036854775807 ∧ well c = true ∧ -9223372036854775808 ≤ c.imm ∧ c.imm < 9223372036854775808 ∧ m.x.st.length ≤ 200 ∧ loc.length ≤ 7 ∧ m.mem.length % 8 = 0 ∧ m.mem.length ≤ max * 8 ∧ max ≤ 4)
/-- runm.ask, behind pay -/
def askS (P : ProgD) (H : HF HS) (g : Int) (loc : List V) (m : MS) : Option Ot :=
  match P.funs[g.toNat]? with
  | none => none
  | some u =>
    if argsOk u.params m.x.st = false ∨ 6 < m.x.asked ∨ 90000 < m.x.trace.length ∨ g < 0 then none else
    let q := H m.x.hs g (m.x.st.take u.params.length).reverse
    if q.2.1 = 0 then some ⟨-1, 0, loc, { m with x := { (m.x.to q.1) with st := q.2.2.reverse ++ m.x.st.drop u.params.length } }⟩
    else some ⟨-1, q.2.1, loc, { m with x := { (m.x.to q.1) with st := m.x.st.drop u.params.length } }⟩
/-- an instruction that opens no block and calls nothing, behind pay -/
def plainS (c : Ins) (loc : List V) (max : Nat) (m : MS) : Option Ot :=
  if c.op = 6 then some ⟨c.imm, 0, loc, m⟩
  else if c.op = 7 then (match m.x.st with | v :: r => some ⟨if v.num = 0 then -1 else c.imm, 0, loc, m.st r⟩ | _ => none)
  else if c.op = 8 then (match m.x.st with
    | v :: r => (match c.tab[(min (v.num % 4294967296) ((c.tab.length : Int) - 1)).toNat]? with | some t => some ⟨t.toNat, 0, loc, m.bump.st r⟩ | none => none)
    | _ => none)
  else if c.op = 9 then some ⟨-2, 0, loc, m⟩
  else
    let lo := lstep ⟨c.op, c.imm, 0, 0⟩ m.x.st loc m.mem max
    if lo.t = 10 then none
    else if lo.t = 0 then some ⟨-1, 0, lo.loc, { (m.st lo.ops) with mem := lo.mem }⟩
    else some ⟨-1, lo.t, loc, { (m.st lo.ops) with mem := lo.mem }⟩
/-- one instruction of seq that is no end and no else -/
def sins (P : ProgD) (H : HF HS) (max : Nat) (rec : Tk → MS → Option Ot) (t : Tk) (c : Ins) (m : MS) : Option Ot :=
  if c.op = 1 ∨ c.op = 2 then rec { t with k := 1, i := t.i + 1, op := c.op, h := m.x.st.length, keep := if c.imm ≠ 0 ∧ c.op ≠ 2 then 1 else 0 } m
  else if m.x.pay.2 ≠ 0 then some ⟨-1, m.x.pay.2, t.loc, { m with x := m.x.pay.1 }⟩
  else if c.op = 3 then
    (match m.x.pay.1.st with
    | v :: r =>
      if v.num = 0 then
        (if (endsM t.src t.i).1 < 0 then some ⟨-1, 0, t.loc, ({ m with x := m.x.pay.1 } : MS).st r⟩
         else rec { t with k := 1, i := ((endsM t.src t.i).1 + 1).toNat, op := c.op, h := r.length, keep := if c.imm ≠ 0 ∧ c.op ≠ 2 then 1 else 0 } (({ m with x := m.x.pay.1 } : MS).st r))
      else rec { t with k := 1, i := t.i + 1, op := c.op, h := r.length, keep := if c.imm ≠ 0 ∧ c.op ≠ 2 then 1 else 0 } (({ m with x := m.x.pay.1 } : MS).st r)
    | _ => none)
  else if c.op = 10 then
    (if c.imm < P.nimp then askS P H c.imm t.loc { m with x := m.x.pay.1 }
     else if 4 ≤ t.depth then some ⟨-1, 14, t.loc, { m with x := m.x.pay.1 }⟩
     else match rec { t with k := 2, f := c.imm.toNat, depth := t.depth + 1 } { m with x := m.x.pay.1 } with
      | none => none
      | some o => some { o with br := -1, loc := t.loc })
  else plainS c t.loc max { m with x := m.x.pay.1 }
/-- seq -/
def sseq (P : ProgD) (H : HF HS) (max : Nat) (rec : Tk → MS → Option Ot) (t : Tk) (m : MS) : Option Ot :=
  match t.src[t.i]? with
  | none => none
  | some c =>
    if c.op = 5 then some ⟨-1, 0, t.loc, m⟩
    else if c.op = 4 then some ⟨-1, 0, t.loc, m.bump⟩
    else if okS c t.loc max m = false then none
    else match sins P H max rec t c m with
      | none => none
      | some o =>
        if o.e ≠ 0 ∨ o.br ≠ -1 then some o
        else rec { t with loc := o.loc, i := (if c.op = 1 ∨ c.op = 2 ∨ c.op = 3 then (endsM t.src t.i).2.toNat else t.i) + 1 } o.m
/-- the rounds of a block -/
def sround (rec : Tk → MS → Option Ot) (t : Tk) (m : MS) : Option Ot :=
  match rec { t with k := 0 } m with
  | none => none
  | some o =>
    if o.e ≠ 0 ∨ o.br < 0 then some o
    else if 0 < o.br then some { o with br := o.br - 1 }
    else match cutV t.h t.keep o.m.x.st with
      | none => none
      | some s => if t.op ≠ 2 then some ⟨-1, 0, o.loc, o.m.st s⟩ else rec { t with loc := o.loc } (o.m.st s)
/-- invoke -/
def sinvoke (P : ProgD) (srcs : List (List Ins)) (rec : Tk → MS → Option Ot) (t : Tk) (m : MS) : Option Ot :=
  match P.funs[t.f]?, srcs[t.f - P.nimp.toNat]? with
  | some u, some src =>
    if argsOk u.params m.x.st = false ∨ (t.f : Int) < P.nimp then none else
    (match rec { t with k := 0, src := src, i := 0, loc := zeros u.locals ++ m.x.st.take u.params.length } (m.st (m.x.st.drop u.params.length)) with
    | none => none
    | some o =>
      if o.e ≠ 0 then some ⟨-1, o.e, o.loc, o.m⟩
      else if 0 < o.br then none
      else
        (match cutV (m.x.st.drop u.params.length).length u.results.length (if o.br = -2 then o.m else o.m.bump).x.st with
        | none => none
        | some s => if (s.take u.results.length).map V.ty = u.results.reverse then some ⟨-1, 0, o.loc, (if o.br = -2 then o.m else o.m.bump).st s⟩ else none))
  | _, _ => none
/-- the model's run: n bounds the depth -/
def srun (P : ProgD) (srcs : List (List Ins)) (H : HF HS) (max : Nat) : Nat → Tk → MS → Option Ot
  | 0, _, _ => none
  | n + 1, t, m =>
    if t.k = 0 then sseq P H max (srun P srcs H max n) t m
    else if t.k = 1 then sround (srun P srcs H max n) t m
    else sinvoke P srcs (srun P srcs H max n) t m
section
variable {P : ProgD} {srcs : List (List Ins)} {H : HF HS} {max : Nat} {f g : Tk → MS → Option Ot}
theorem sins_mono (hfg : ∀ t m o, f t m = some o → g t m = some o) {t : Tk} {c : Ins} {m : MS} {o : Ot} (h : sins P H max f t c m = some o) : sins P H max g t c m = some o := by
  unfold sins at h ⊢
  by_cases h1 : c.op = 1 ∨ c.op = 2
  · rw [if_pos h1] at h ⊢; exact hfg _ _ _ h
  rw [if_neg h1] at h ⊢
  by_cases h2 : m.x.pay.2 ≠ 0
  · rw [if_pos h2] at h ⊢; exact h
  rw [if_neg h2] at h ⊢
  by_cases h3 : c.op = 3
  · rw [if_pos h3] at h ⊢
    cases hs : m.x.pay.1.st with
    | nil => rw [hs] at h; simp at h
    | cons v r =>
      rw [hs] at h
      simp only at h ⊢
      by_cases hv : v.num = 0
      · rw [if_pos hv] at h ⊢
        by_cases he : (endsM t.src t.i).1 < 0
        · rw [if_pos he] at h ⊢; exact h
        · rw [if_neg he] at h ⊢; exact hfg _ _ _ h
      · rw [if_neg hv] at h ⊢; exact hfg _ _ _ h
  rw [if_neg h3] at h ⊢
  by_cases h10 : c.op = 10
  · rw [if_pos h10] at h ⊢
    by_cases hi : c.imm < P.nimp
    · rw [if_pos hi] at h ⊢; exact h
    rw [if_neg hi] at h ⊢
    by_cases hd : 4 ≤ t.depth
    · rw [if_pos hd] at h ⊢; exact h
    rw [if_neg hd] at h ⊢
    split at h
    · cases h
    · rename_i o' ho
      rw [hfg _ _ _ ho]
      exact h
  · rw [if_neg h10] at h ⊢; exact h
theorem sseq_mono (hfg : ∀ t m o, f t m = some o → g t m = some o) {t : Tk} {m : MS} {o : Ot} (h : sseq P H max f t m = some o) : sseq P H max g t m = some o := by
  unfold sseq at h ⊢
  cases hc : t.src[t.i]? with
  | none => rw [hc] at h; cases h
  | some c =>
    rw [hc] at h
    simp only at h ⊢
    by_cases h5 : c.op = 5
    · rw [if_pos h5] at h ⊢; exact h
    rw [if_neg h5] at h ⊢
    by_cases h4 : c.op = 4
    · rw [if_pos h4] at h ⊢; exact h
    rw [if_neg h4] at h ⊢
    by_cases hk : okS c t.loc max m = false
    · rw [if_pos hk] at h; cases h
    rw [if_neg hk] at h ⊢
    split at h
    · cases h
    · rename_i o' ho
      rw [sins_mono hfg ho]
      simp only
      by_cases hx : o'.e ≠ 0 ∨ o'.br ≠ -1
      · rw [if_pos hx] at h ⊢; exact h
      · rw [if_neg hx] at h ⊢; exact hfg _ _ _ h
theorem sround_mono (hfg : ∀ t m o, f t m = some o → g t m = some o) {t : Tk} {m : MS} {o : Ot} (h : sround f t m = some o) : sround g t m = some o := by
  unfold sround at h ⊢
  split at h
  · cases h
  · rename_i o' ho
    rw [hfg _ _ _ ho]
    simp only
    by_cases h1 : o'.e ≠ 0 ∨ o'.br < 0
    · rw [if_pos h1] at h ⊢; exact h
    rw [if_neg h1] at h ⊢
    by_cases h2 : 0 < o'.br
    · rw [if_pos h2] at h ⊢; exact h
    rw [if_neg h2] at h ⊢
    split at h
    · cases h
    · rename_i s hs
      by_cases h3 : t.op ≠ 2
      · rw [if_pos h3] at h ⊢; exact h
      · rw [if_neg h3] at h ⊢; exact hfg _ _ _ h
theorem sinvoke_mono (hfg : ∀ t m o, f t m = some o → g t m = some o) {t : Tk} {m : MS} {o : Ot} (h : sinvoke P srcs f t m = some o) : sinvoke P srcs g t m = some o := by
  unfold sinvoke at h ⊢
  split at h
  · rename_i u src hu hs
    by_cases h1 : argsOk u.params m.x.st = false ∨ (t.f : Int) < P.nimp
    · rw [if_pos h1] at h; cases h
    rw [if_neg h1] at h ⊢
    split at h
    · cases h
    · rename_i o' ho
      rw [hfg _ _ _ ho]
      exact h
  · cases h
theorem srun_mono : ∀ (n : Nat) (t : Tk) (m : MS) (o : Ot), srun P srcs H max n t m = some o → srun P srcs H max (n + 1) t m = some o
  | 0, t, m, o, h => by simp [srun] at h
  | n + 1, t, m, o, h => by
    rw [srun] at h ⊢
    by_cases h0 : t.k = 0
    · rw [if_pos h0] at h ⊢; exact sseq_mono (srun_mono n) h
    rw [if_neg h0] at h ⊢
    by_cases h1 : t.k = 1
    · rw [if_pos h1] at h ⊢; exact sround_mono (srun_mono n) h
    · rw [if_neg h1] at h ⊢; exact sinvoke_mono (srun_mono n) h
theorem srun_le {n n' : Nat} (hl : n ≤ n') {t : Tk} {m : MS} {o : Ot} (h : srun P srcs H max n t m = some o) : srun P srcs H max n' t m = some o := by
  induction hl with
  | refl => exact h
  | step _ ih => exact srun_mono _ _ _ _ ih
end
end Go.Proofs.Qxb6500575aGreatDoor
