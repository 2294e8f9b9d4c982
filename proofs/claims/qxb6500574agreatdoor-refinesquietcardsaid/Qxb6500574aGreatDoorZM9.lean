/-
  moon: ROUNDS OF THE MACHINE, STEPS OF THE INTERPRETER: how they are told together. Plain; no memory, no walk.
-/
import Derived.Test.Qxb6500574aGreatDoorZM8
import Derived.Test.Qxb6500574aGreatDoorWTy10
namespace Go.Proofs.Qxb6500574aGreatDoor
set_option linter.unusedVariables false
set_option linter.unusedSimpArgs false
/-! ### the machine -/
/-- what an instruction comes to when it is sound -/
def disP (m : VMD) (i : Nat) (f : FmD) (op x : Nat) : Bool × RR EvD :=
  if op = 21 then (decide (x ≤ f.pc), (.inr ev0, setPc m i x))
  else if op = 22 then
    if truthy (topV m i 0) then (false, (.inr ev0, setPc (pops m i 1) i (f.pc + 1)))
    else (decide (x ≤ f.pc), (.inr ev0, setPc (pops m i 1) i x))
  else if op = 23 ∨ op = 24 then
    if truthy (topV m i 0) = decide (op = 24) then (decide (x ≤ f.pc), (.inr ev0, setPc m i x))
    else (false, (.inr ev0, setPc (pops m i 1) i (f.pc + 1)))
  else if op = 26 then (true, callP m i x)
  else if op = 27 then (false, retP m i)
  else (false, bump i (plainP m i op x))
/-- an error flies -/
def thrD (fu : Nat) (m1 : VMD) (i : Nat) (v : Vl) : Sum (Nat × VMD) (EvD × Nat × VMD) :=
  match unwindN ((m1.th i).frames.length - 1) m1 i v with
  | some m2 => .inl (fu, m2)
  | none => .inr (⟨2, 0, 0, v, nilV⟩, fu, kill m1 i)
def trpD (fu : Nat) (m1 : VMD) (e : Nat) : Sum (Nat × VMD) (EvD × Nat × VMD) := .inr (⟨5, 0, e, nilV, nilV⟩, fu, m1)
/-- k rounds and no event -/
def rndsK : Nat → Nat → VMD → Nat → Option (Nat × VMD)
  | 0, fu, m, _ => some (fu, m)
  | k + 1, fu, m, i => match roundP fu m i with
    | .inl r => rndsK k r.1 r.2 i
    | .inr _ => none
/-- thread i runs, typed -/
def Gd1 (S : Nat → Nat → Ty → Prop) (m : VMD) (i : Nat) : Prop := ∃ K t f, RunT S K m i t f ∧ Room K 0 t
section
variable {S : Nat → Nat → Ty → Prop} {K : Cx} {m m' : VMD} {i fu fu' : Nat} {t : ThD} {f : FmD}
theorem Gd1.round (h : Gd1 S m i) (e : roundP fu m i = .inl (fu', m')) : Gd1 S m' i := by
  obtain ⟨K, t, f, R, rm⟩ := h
  obtain ⟨K', t', f', _, R', rm', _⟩ := (R.round rm fu).1 fu' m' e
  exact ⟨K', t', f', R', rm'⟩
theorem Gd1.rounds : ∀ {k fu : Nat} {m : VMD}, Gd1 S m i → rndsK k fu m i = some (fu', m') → Gd1 S m' i
  | 0, fu, m, h, e => by cases e; exact h
  | k + 1, fu, m, h, e => by
    unfold rndsK at e
    cases hr : roundP fu m i with
    | inl r =>
      rw [hr] at e
      exact Gd1.rounds (h.round (fu' := r.1) (m' := r.2) hr) e
    | inr r => rw [hr] at e; cases e
theorem RunT.dis (h : RunT S K m i t f) {op x : Nat} (hc : (fxOf m (m.clos.getD f.clo cl0).p).code[f.pc]? = some (op, x)) : instrP m i = disP m i f op x := by
  obtain ⟨a, r⟩ := h.run
  have X := r.fx
  obtain ⟨I1, _⟩ := h.instr
  have tf := h.at_.topF
  have hlt : f.pc < (m.proto f.clo).nc := by rw [← X.nc]; exact (List.getElem?_eq_some_iff.1 hc).1
  have hcd : m.code.getD ((m.proto f.clo).code + f.pc) (0, 0) = (op, x) := by
    rw [← X.cd _ hlt, List.getD_eq_getElem?_getD, hc]; rfl
  unfold instrP at I1 ⊢
  rw [tf] at I1 ⊢
  dsimp only at I1 ⊢
  rw [if_neg (by omega), hcd] at I1 ⊢
  dsimp only at I1 ⊢
  split
  · rename_i hs
    rw [if_pos hs] at I1
    exact absurd rfl (I1 11 rfl)
  · rename_i hs
    rw [if_neg hs] at I1
    split
    · rename_i hs
      rw [if_pos hs] at I1
      exact absurd rfl (I1 11 rfl)
    · rfl
/-- a plain instruction's round -/
def rdP (fu i : Nat) (r : RR Unit) : Sum (Nat × VMD) (EvD × Nat × VMD) :=
  match r with
  | (.inr _, m1) => .inl (fu, setPc m1 i ((topF m1 i).pc + 1))
  | (.inl (.inl v), m1) => thrD fu m1 i v
  | (.inl (.inr e), m1) => trpD fu m1 e
theorem RunT.rdp (h : RunT S K m i t f) {op x : Nat} (hc : (fxOf m (m.clos.getD f.clo cl0).p).code[f.pc]? = some (op, x)) (ho : op ≠ 21 ∧ op ≠ 22 ∧ op ≠ 23 ∧ op ≠ 24 ∧ op ≠ 26 ∧ op ≠ 27) (fu : Nat) : roundP fu m i = rdP fu i (plainP m i op x) := by
  obtain ⟨o1, o2, o3, o4, o5, o6⟩ := ho
  unfold roundP
  rw [h.dis hc]
  unfold disP
  have o34 : ¬ (op = 23 ∨ op = 24) := fun z => z.elim o3 o4
  rw [if_neg o1, if_neg o2, if_neg o34, if_neg o5, if_neg o6]
  simp only [Bool.false_eq_true, false_and, if_false]
  unfold bump rdP
  generalize plainP m i op x = r
  obtain ⟨r, m1⟩ := r
  cases r with
  | inl fl => cases fl <;> rfl
  | inr u => rfl
/-- a jump's round -/
theorem RunT.rdj (h : RunT S K m i t f) {op x : Nat} (hc : (fxOf m (m.clos.getD f.clo cl0).p).code[f.pc]? = some (op, x)) {b : Bool} {m1 : VMD} (hd : disP m i f op x = (b, (.inr ev0, m1))) (fu : Nat) : roundP fu m i = if b ∧ fu = 0 then .inr (⟨5, 0, 9, nilV, nilV⟩, fu, m) else .inl (if b then fu - 1 else fu, m1) := by
  unfold roundP
  rw [h.dis hc, hd]
  dsimp only
  split
  · rfl
  · simp [ev0]
end
/-! ### the interpreter -/
theorem gset {α : Type} {l : List α} {i : Nat} {a d : α} (h : i < l.length) : (l.set i a).getD i d = a := by
  rw [List.getD_eq_getElem?_getD, List.getElem?_set_self h]; rfl
/-- the thread at hand is T -/
def MD.st (M : MD) (T : MTh) : MD := { M with ths := M.ths.set M.cur T }
section
variable {M : MD} {T : MTh}
theorem st_th (h : M.cur < M.ths.length) : (M.st T).th = T := by
  show (M.ths.set M.cur T).getD M.cur mt0 = T
  exact gset h
theorem st_up (h : M.cur < M.ths.length) (f : MTh → MTh) : (M.st T).upT f = M.st (f T) := by
  unfold MD.upT
  rw [st_th h]
  simp [MD.st]
theorem st_self (h : M.ths[M.cur]? = some T) : M.st T = M := by
  unfold MD.st
  have : M.ths.set M.cur T = M.ths := by
    have hl := (List.getElem?_eq_some_iff.1 h).1
    refine List.ext_getElem? fun j => ?_
    by_cases e : M.cur = j
    · subst e; rw [List.getElem?_set_self hl, h]
    · rw [List.getElem?_set_ne e]
  rw [this]
theorem st_st (T1 : MTh) : (M.st T).st T1 = M.st T1 := by simp [MD.st]
theorem st_push (h : M.cur < M.ths.length) (l : List Vl) : (M.st T).push l = M.st { T with vals := T.vals ++ l } := st_up h _
theorem st_pops (h : M.cur < M.ths.length) (n : Nat) : (M.st T).pops n = M.st { T with vals := T.vals.take (T.vals.length - n) } := st_up h _
theorem st_todo (h : M.cur < M.ths.length) (l : List TkD) : (M.st T).todo l = M.st { T with tasks := l ++ T.tasks } := st_up h _
theorem st_top (h : M.cur < M.ths.length) (n : Nat) : (M.st T).topM n = T.vals.getD (T.vals.length - 1 - n) nilV := by
  unfold MD.topM
  rw [st_th h]
end
/-! ### both -/
/-- what an event leaves: i: the thread that was running; stk: who waits for it; s: the threads begun before -/
def Dlv (N : List Nd) (root : Nat) (D : CmD) (stk : List Nat) (s fu1 : Nat) (m1 : VMD) (ok : Bool) (v : Vl) (M' : MD) : Prop :=
  match stk with
  | [] => M'.done = some ⟨if ok then 0 else 12, fu1, s, m1.out, showV v⟩
  | c :: r => (∃ P, Rel N root D (startP m1 c (boolV ok) v) fu1 s M' P) ∧ M'.cur = c ∧ M'.stack = r
structure EvP (N : List Nd) (root : Nat) (D : CmD) (i : Nat) (stk : List Nat) (s : Nat) (ev : EvD) (fu1 : Nat) (m1 : VMD) (M' : MD) : Prop where
  k5 : ev.k = 5 → M'.done = some ⟨ev.e, fu1, s, m1.out, [45]⟩
  k4 : ev.k = 4 → (∃ P, Rel N root D (startP m1 ev.th ev.v nilV) fu1 (if (m1.th ev.th).st = 1 then s + 1 else s) M' P) ∧ M'.cur = ev.th ∧ M'.stack = i :: stk
  k1 : ev.k = 1 ∨ ev.k = 3 → Dlv N root D stk s fu1 m1 true ev.v M'
  k2 : ev.k = 2 → Dlv N root D stk s fu1 m1 false ev.v M'
/-- with b rounds at least the machine comes to where the interpreter comes to -/
def PgZ (N : List Nd) (root : Nat) (D : CmD) (i : Nat) (stk : List Nat) (s b : Nat) (m : VMD) (fu : Nat) (M : MD) : Prop :=
  ∃ j k, b ≤ k ∧ ((∃ fu' m' P, rndsK k fu m i = some (fu', m') ∧ Rel N root D m' fu' s (stepsM N root j M) P ∧ (stepsM N root j M).cur = i ∧ (stepsM N root j M).stack = stk) ∨
    (∃ ev fu1 m1, roundsP k fu m i = some (ev, fu1, m1) ∧ EvP N root D i stk s ev fu1 m1 (stepsM N root j M)))
section
variable {N : List Nd} {root : Nat} {D : CmD} {i : Nat} {stk : List Nat} {s b : Nat} {m m' : VMD} {fu fu' : Nat} {M : MD} {P : List (Option Lc)}
theorem PgZ.rel (h : Rel N root D m fu s M P) (hc : M.cur = i) (hs : M.stack = stk) : PgZ N root D i stk s 0 m fu M := ⟨0, 0, Nat.le_refl _, .inl ⟨fu, m, P, rfl, h, hc, hs⟩⟩
theorem PgZ.round (e : roundP fu m i = .inl (fu', m')) (h : PgZ N root D i stk s 0 m' fu' M) : PgZ N root D i stk s 1 m fu M := by
  obtain ⟨j, k, _, h⟩ := h
  refine ⟨j, k + 1, by omega, ?_⟩
  rcases h with ⟨fu2, m2, P, h1, h2⟩ | ⟨ev, fu1, m1, h1, h2⟩
  · exact .inl ⟨fu2, m2, P, by unfold rndsK; rw [e]; exact h1, h2⟩
  · exact .inr ⟨ev, fu1, m1, by unfold roundsP; rw [e]; exact h1, h2⟩
theorem PgZ.weak (h : PgZ N root D i stk s 1 m fu M) : PgZ N root D i stk s 0 m fu M := by
  obtain ⟨j, k, _, h⟩ := h
  exact ⟨j, k, Nat.zero_le _, h⟩
theorem PgZ.event {ev : EvD} {fu1 : Nat} {m1 : VMD} (e : roundP fu m i = .inr (ev, fu1, m1)) (h : EvP N root D i stk s ev fu1 m1 M) : PgZ N root D i stk s 1 m fu M :=
  ⟨0, 1, Nat.le_refl _, .inr ⟨ev, fu1, m1, by unfold roundsP; rw [e], h⟩⟩
/-- a trap -/
theorem PgZ.trap {e : Nat} {m1 : VMD} (he : roundP fu m i = trpD fu' m1 e) (h : M.done = some ⟨e, fu', s, m1.out, [45]⟩) : PgZ N root D i stk s 1 m fu M :=
  PgZ.event he ⟨fun _ => h, (fun z => by cases z), (fun z => by rcases z with z | z <;> cases z), (fun z => by cases z)⟩
theorem PgZ.step (hd : M.done = none) (h : PgZ N root D i stk s b m fu (M.step N root)) : PgZ N root D i stk s b m fu M := by
  obtain ⟨j, k, hk, h⟩ := h
  refine ⟨j + 1, k, hk, ?_⟩
  have e : stepsM N root (j + 1) M = stepsM N root j (M.step N root) := by
    rw [stepsM, hd]
    rfl
  rw [e]
  exact h
end
end Go.Proofs.Qxb6500574aGreatDoor
