/-
  moon: THE PARSER RANK BY RANK (as the model reads): the same trees. Plain; no memory, no walk.
-/
import Derived.Test.Qxb6500574aGreatDoorWNf2
namespace Go.Proofs.Qxb6500574aGreatDoor
set_option linter.unusedVariables false
set_option linter.unusedSimpArgs false
/-- the rank of an operator's token; 0: none -/
def rkT (k : Nat) : Nat := if k < 22 ∨ 36 < k then 0 else (bindL.getD (k - 22) (0, 0, 0)).1
/-- what a token of an operator makes of two operands -/
def opN (t : Tok) (a b : Nat) : Nd := ⟨(bindL.getD (t.k - 22) (0, 0, 0)).2.1, a, b, 0, 0, (bindL.getD (t.k - 22) (0, 0, 0)).2.2, [], t.p⟩
/-- the parser of the model: task 0: the rank x0; task 1: its loop -/
def parM (T : List Tok) : Nat → Nat → Nat → List Nat → PSt → PR
  | 0, _, _, _, _ => .inl (99, 0)
  | n + 1, task, room, x, s =>
    let t := curT T s
    let x0 := x.getD 0 0
    let x1 := x.getD 1 0
    let x2 := x.getD 2 0
    let x3 := x.getD 3 0
    let x4 := x.getD 4 0
    if task = 0 then
      if x0 = 4 then PBd (parM T n 0 room [5] s) fun v s =>
        if (curT T s).k = 30 then PBd (parM T n 0 (room - 1) [4] s.nxt) fun u s2 => okP s2 (opN (curT T s) (v.getD 0 0) (u.getD 0 0))
        else .inr ([v.getD 0 0], s)
      else if 6 < x0 then PBd (parM T n 2 room [] s) fun v s => .inr ([v.getD 0 0], s)
      else PBd (parM T n 0 room [x0 + 1] s) fun v s => parM T n 1 room [x0, v.getD 0 0] s
    else if task = 1 then
      if rkT t.k = x0 then PBd (parM T n 0 room [x0 + 1] s.nxt) fun v s => parM T n 1 room [x0, s.nodes.length] (s.add (opN t x1 (v.getD 0 0)))
      else .inr ([x1], s)
    else if task = 2 then
      if room = 0 then failP T s 16
      else if t.k = 32 ∨ t.k = 17 ∨ t.k = 37 then
        PBd (parM T n 2 (room - 1) [] s.nxt) fun v s => okP s ⟨23, v.getD 0 0, 0, 0, 0, if t.k = 32 then 1 else if t.k = 17 then 2 else 3, [], t.p⟩
      else parM T n 3 room [] s
    else if task = 3 then
      if room = 0 then failP T s 16
      else PBd (parM T n 5 room [] s) fun v s => parM T n 4 room [v.getD 0 0] s
    else if task = 4 then
      if t.k = 46 then nameP T s.nxt 0 fun m s =>
        parM T n 4 room [s.nodes.length + 1] ((s.add ⟨16, 0, 0, 0, 0, 0, m.s, m.p⟩).add ⟨18, x0, s.nodes.length, 0, 0, 0, [], t.p⟩)
      else if t.k = 43 then PBd (parM T n 0 (room - 1) [1] s.nxt) fun v s => expectP T s 44 fun s =>
        parM T n 4 room [s.nodes.length] (s.add ⟨18, x0, v.getD 0 0, 0, 0, 0, [], t.p⟩)
      else if t.k = 39 then PBd (parM T n 6 (room - 1) [40, 4, 0, 0, 0] s.nxt) fun v s =>
        parM T n 4 room [s.nodes.length] (s.add ⟨19, x0, v.getD 0 0, 0, 0, 0, [], t.p⟩)
      else .inr ([x0], s)
    else if task = 5 then
      if t.k = 3 then okP s.nxt ⟨15, 0, 0, 0, 0, t.n, [], t.p⟩
      else if t.k = 4 then okP s.nxt ⟨16, 0, 0, 0, 0, 0, t.s, t.p⟩
      else if t.k = 2 then okP s.nxt ⟨17, 0, 0, 0, 0, 0, t.s, t.p⟩
      else if t.k = 16 then okP s.nxt ⟨12, 0, 0, 0, 0, 0, [], t.p⟩
      else if t.k = 20 then okP s.nxt ⟨13, 0, 0, 0, 0, 0, [], t.p⟩
      else if t.k = 10 then okP s.nxt ⟨14, 0, 0, 0, 0, 0, [], t.p⟩
      else if t.k = 39 then PBd (parM T n 0 (room - 1) [1] s.nxt) fun v s => expectP T s 40 fun s => .inr (v, s)
      else if t.k = 12 then (if 12 ≤ s.funcs then failP T s 20 else parM T n 7 room [t.p] s.nxt)
      else if t.k = 41 then PBd (parM T n 6 (room - 1) [42, 0, 0, 0, 0] s.nxt) fun v s => okP s ⟨21, v.getD 0 0, 0, 0, 0, 0, [], t.p⟩
      else failP T s 15
    else if task = 6 then -- expressions up to the sign x0; x1: 0: no bound, else the most and one; x2 so many, the first x3, the last x4
      if t.k = x0 then .inr ([x3, x2], s.nxt)
      else
        let go := fun s => if x1 ≠ 0 ∧ x2 + 1 = x1 then failP T s 19 else PBd (parM T n 0 room [1] s) fun v s =>
          parM T n 6 room [x0, x1, x2 + 1, if x4 = 0 then v.getD 0 0 else x3, v.getD 0 0] (s.link x4 (v.getD 0 0))
        if 0 < x2 then expectP T s 45 go else go s
    else if task = 7 then -- a literal whose place is x0
      expectP T s 39 fun s => PBd (parM T n 8 room [0, 0, 0] { s with funcs := s.funcs + 1 }) fun v s1 =>
        PBd (parM T n 9 (room - 1) [] { s1 with alive := v.getD 1 0, loops := 0 }) fun u s2 => expectP T s2 9 fun s3 =>
          okP { s3 with alive := s.alive, loops := s.loops } ⟨20, v.getD 0 0, u.getD 0 0, 0, 0, s.funcs + 1, [], x0⟩
    else if task = 8 then -- parameters: x0 so many, the first x1, the last x2
      if t.k = 40 then .inr ([x1, x0], s.nxt)
      else
        let go := fun s => if x0 = 3 then failP T s 19 else nameP T s 0 fun m s =>
          parM T n 8 room [x0 + 1, if x2 = 0 then s.nodes.length else x1, s.nodes.length] ((s.add ⟨17, 0, 0, 0, 0, 0, m.s, m.p⟩).link x2 s.nodes.length)
        if 0 < x0 then expectP T s 45 go else go s
    else if task = 9 then -- a block
      if room = 0 then failP T s 16
      else PBd (parM T n 10 room [0, 0, 0] s) fun v s1 => .inr (v, { s1 with alive := s.alive })
    else if task = 10 then -- its statements: x0: closed; the first x1, the last x2
      if endsB t.k then .inr ([x1], s)
      else if x0 = 1 then failP T s 15
      else PBd (parM T n 11 room [] s) fun v s =>
        let k := (s.nodes.getD (v.getD 0 0) nd0).k
        parM T n 10 room [if k = 10 ∨ k = 11 then 1 else 0, if x2 = 0 then v.getD 0 0 else x1, v.getD 0 0] (s.link x2 (v.getD 0 0))
    else if task = 11 then -- a statement
      if t.k = 15 then parM T n 12 room [] s.nxt
      else if t.k = 13 then parM T n 13 room [] s
      else if t.k = 11 then parM T n 14 room [] s.nxt
      else if t.k = 21 then PBd (parM T n 0 (room - 1) [1] s.nxt) fun v s => PBd (parM T n 15 room [0] s) fun u s => okP s ⟨7, v.getD 0 0, u.getD 0 0, 0, 0, 0, [], t.p⟩
      else if t.k = 5 then (if s.loops = 0 then failP T s 15 else okP s.nxt ⟨11, 0, 0, 0, 0, 0, [], t.p⟩)
      else if t.k = 18 then parM T n 16 room [t.p] s.nxt
      else PBd (parM T n 3 (room - 1) [] s) fun v s =>
        let d := s.nodes.getD (v.getD 0 0) nd0
        if (curT T s).k ≠ 38 then (if d.k = 19 then okP s ⟨5, v.getD 0 0, 0, 0, 0, 0, [], d.p⟩ else failP T s 15)
        else if d.k ≠ 17 ∧ d.k ≠ 18 then failP T s 15
        else PBd (parM T n 0 (room - 1) [1] s.nxt) fun u s2 => okP s2 ⟨4, v.getD 0 0, u.getD 0 0, 0, 0, 0, [], (curT T s).p⟩
    else if task = 12 then -- behind 'local'
      if t.k = 12 then (if 12 ≤ s.funcs then failP T s 20 else nameP T s.nxt 1 fun m s =>
        PBd (parM T n 7 room [m.p] { s with alive := s.alive + 1 }) fun v s => okP s ⟨3, v.getD 0 0, 0, 0, 0, 0, m.s, m.p⟩)
      else nameP T s 1 fun m s =>
        if (curT T s).k = 45 then nameP T s.nxt 2 fun m2 s => expectP T s 38 fun s =>
          let b := s.nodes.length
          PBd (parM T n 0 (room - 1) [1] ((s.add ⟨17, 0, 0, 0, b + 1, 0, m.s, m.p⟩).add ⟨17, 0, 0, 0, 0, 0, m2.s, m2.p⟩)) fun v s =>
            if (s.nodes.getD (v.getD 0 0) nd0).k ≠ 19 then failP T s 15
            else okP { s with alive := s.alive + 2 } ⟨2, b, v.getD 0 0, 0, 0, 0, [], m.p⟩
        else if (curT T s).k = 38 then PBd (parM T n 0 (room - 1) [1] s.nxt) fun v s => okP { s with alive := s.alive + 1 } ⟨1, v.getD 0 0, 0, 0, 0, 0, m.s, m.p⟩
        else okP { s with alive := s.alive + 1 } ⟨1, 0, 0, 0, 0, 0, m.s, m.p⟩
    else if task = 13 then -- 'if' | 'elseif' is at hand
      PBd (parM T n 0 (room - 1) [1] s.nxt) fun v s => expectP T s 19 fun s => PBd (parM T n 9 (room - 1) [] s) fun u s =>
        if (curT T s).k = 8 then PBd (parM T n 13 (room - 1) [] s) fun z s => okP s ⟨6, v.getD 0 0, u.getD 0 0, z.getD 0 0, 0, 0, [], t.p⟩
        else if (curT T s).k = 7 then PBd (parM T n 9 (room - 1) [] s.nxt) fun z s => expectP T s 9 fun s => okP s ⟨6, v.getD 0 0, u.getD 0 0, z.getD 0 0, 0, 0, [], t.p⟩
        else expectP T s 9 fun s => okP s ⟨6, v.getD 0 0, u.getD 0 0, 0, 0, 0, [], t.p⟩
    else if task = 14 then -- behind 'for'
      nameP T s 4 fun m s =>
        if (curT T s).k = 45 then nameP T s.nxt 0 fun m2 s => expectP T s 14 fun s =>
          let b := s.nodes.length
          PBd (parM T n 0 (room - 1) [1] ((s.add ⟨17, 0, 0, 0, b + 1, 0, m.s, m.p⟩).add ⟨17, 0, 0, 0, 0, 0, m2.s, m2.p⟩)) fun v s =>
            PBd (parM T n 15 room [4] s) fun u s => okP s ⟨9, b, v.getD 0 0, u.getD 0 0, 0, 0, [], m.p⟩
        else expectP T s 38 fun s => PBd (parM T n 0 (room - 1) [1] s) fun v s => expectP T s 45 fun s => PBd (parM T n 0 (room - 1) [1] s) fun u s =>
          let s1 := s.link (v.getD 0 0) (u.getD 0 0)
          if (curT T s1).k = 45 then PBd (parM T n 0 (room - 1) [1] s1.nxt) fun z s => PBd (parM T n 15 room [4] (s.link (u.getD 0 0) (z.getD 0 0))) fun q s => okP s ⟨8, v.getD 0 0, q.getD 0 0, 0, 0, 0, m.s, m.p⟩
          else PBd (parM T n 15 room [4] s1) fun q s => okP s ⟨8, v.getD 0 0, q.getD 0 0, 0, 0, 0, m.s, m.p⟩
    else if task = 15 then -- 'do' block 'end'; x0 more locals
      expectP T s 6 fun s => PBd (parM T n 9 (room - 1) [] { s with alive := s.alive + x0, loops := s.loops + 1 }) fun v s => expectP T s 9 fun s =>
        .inr (v, { s with alive := s.alive - x0, loops := s.loops - 1 })
    else -- behind 'return', whose place is x0
      if endsB t.k then okP s ⟨10, 0, 0, 0, 0, 0, [], x0⟩
      else PBd (parM T n 0 (room - 1) [1] s) fun v s =>
        if (curT T s).k = 45 then PBd (parM T n 0 (room - 1) [1] s.nxt) fun u s => okP s ⟨10, v.getD 0 0, u.getD 0 0, 0, 0, 0, [], x0⟩
        else okP s ⟨10, v.getD 0 0, 0, 0, 0, 0, [], x0⟩
/-- a is out of steps, or it is b -/
def LeP (a b : PR) : Prop := a = x99 ∨ a = b
theorem LeP.refl (a : PR) : LeP a a := .inr rfl
theorem LeP.zero (b : PR) : LeP (.inl (99, 0)) b := .inl rfl
theorem LeP.trans {a b c : PR} (h : LeP a b) (g : LeP b c) : LeP a c := by
  rcases h with h | h
  · exact .inl h
  · rw [h]; exact g
theorem LeP.bind {a b : PR} {f g : List Nat → PSt → PR} (h : LeP a b) (k : ∀ v s, LeP (f v s) (g v s)) : LeP (PBd a f) (PBd b g) := by
  rcases h with h | h
  · rw [h]; exact .inl rfl
  · rw [h]
    cases b with
    | inl e => exact .inr rfl
    | inr x => exact k x.1 x.2
theorem LeP.bind2 {a b : PR} {f g : List Nat → PSt → PR} (h : LeP a b) (k : ∀ v s, b = .inr (v, s) → LeP (f v s) (g v s)) : LeP (PBd a f) (PBd b g) := by
  rcases h with h | h
  · rw [h]; exact .inl rfl
  · rw [h]
    cases b with
    | inl e => exact .inr rfl
    | inr x => exact k x.1 x.2 rfl
theorem LeP.ite {p : Prop} [Decidable p] {a b c d : PR} (h : LeP a c) (g : LeP b d) : LeP (if p then a else b) (if p then c else d) := by
  by_cases z : p
  · rw [if_pos z, if_pos z]; exact h
  · rw [if_neg z, if_neg z]; exact g
theorem LeP.expect {T : List Tok} {s : PSt} {k : Nat} {f g : PSt → PR} (h : ∀ s, LeP (f s) (g s)) : LeP (expectP T s k f) (expectP T s k g) := by
  unfold expectP
  exact LeP.ite (h _) (LeP.refl _)
theorem LeP.name {T : List Tok} {s : PSt} {k : Nat} {f g : Tok → PSt → PR} (h : ∀ t s, LeP (f t s) (g t s)) : LeP (nameP T s k f) (nameP T s k g) := by
  unfold nameP
  exact LeP.ite (LeP.refl _) (LeP.ite (LeP.refl _) (h _ _))
theorem PBd_assoc (a : PR) (f g : List Nat → PSt → PR) : PBd (PBd a f) g = PBd a (fun v s => PBd (f v s) g) := by
  cases a <;> rfl
section
variable {T : List Tok}
set_option maxHeartbeats 1000000
theorem parM_up1 : ∀ (n task room : Nat) (x : List Nat) (s : PSt), LeP (parM T n task room x s) (parM T (n + 1) task room x s) := by
  intro n
  induction n with
  | zero => intro task room x s; exact .inl rfl
  | succ n ih =>
    intro task room x s
    show LeP (parM T (n + 1) task room x s) (parM T ((n + 1) + 1) task room x s)
    rw [parM, parM]
    dsimp only
    repeat' first
      | exact ih _ _ _ _
      | exact LeP.refl _
      | refine LeP.bind ?_ (fun v s => ?_)
      | refine LeP.expect (fun s => ?_)
      | refine LeP.name (fun m s => ?_)
      | refine LeP.ite ?_ ?_
theorem parM_up {n m : Nat} (h : n ≤ m) (task room : Nat) (x : List Nat) (s : PSt) : LeP (parM T n task room x s) (parM T m task room x s) := by
  obtain ⟨d, rfl⟩ := Nat.exists_eq_add_of_le h
  clear h
  induction d with
  | zero => exact LeP.refl _
  | succ d ih => exact ih.trans (parM_up1 (n + d) task room x s)
theorem rk_le (k : Nat) : rkT k ≤ 6 := by
  unfold rkT
  split
  · omega
  · rename_i h
    obtain ⟨j, hj⟩ : ∃ j, k = 22 + j := ⟨k - 22, by omega⟩
    subst hj
    have : j ≤ 14 := by omega
    have : j = 0 ∨ j = 1 ∨ j = 2 ∨ j = 3 ∨ j = 4 ∨ j = 5 ∨ j = 6 ∨ j = 7 ∨ j = 8 ∨ j = 9 ∨ j = 10 ∨ j = 11 ∨ j = 12 ∨ j = 13 ∨ j = 14 := by omega
    rcases this with rfl | rfl | rfl | rfl | rfl | rfl | rfl | rfl | rfl | rfl | rfl | rfl | rfl | rfl | rfl <;> decide
theorem rk_four (k : Nat) : rkT k = 4 ↔ k = 30 := by
  constructor
  · intro h
    unfold rkT at h
    split at h
    · cases h
    · obtain ⟨j, hj⟩ : ∃ j, k = 22 + j := ⟨k - 22, by omega⟩
      subst hj
      have : j ≤ 14 := by omega
      have : j = 0 ∨ j = 1 ∨ j = 2 ∨ j = 3 ∨ j = 4 ∨ j = 5 ∨ j = 6 ∨ j = 7 ∨ j = 8 ∨ j = 9 ∨ j = 10 ∨ j = 11 ∨ j = 12 ∨ j = 13 ∨ j = 14 := by omega
      rcases this with rfl | rfl | rfl | rfl | rfl | rfl | rfl | rfl | rfl | rfl | rfl | rfl | rfl | rfl | rfl <;> first | rfl | (exfalso; revert h; decide)
  · rintro rfl; rfl
/-- a rank's step: its loop, or the one '..' -/
def stM (T : List Tok) (K room r v : Nat) (s : PSt) : PR :=
  if r = 4 then (if (curT T s).k = 30 then PBd (parM T K 0 (room - 1) [4] s.nxt) fun u s2 => okP s2 (opN (curT T s) v (u.getD 0 0)) else .inr ([v], s))
  else parM T K 1 room [r, v] s
/-- the steps of the ranks 6, 5, .., 7 - j -/
def chM (T : List Tok) (K room : Nat) : Nat → Nat → PSt → PR
  | 0, v, s => .inr ([v], s)
  | j + 1, v, s => PBd (chM T K room j v s) fun u s => stM T K room (6 - j) (u.getD 0 0) s
theorem stM_up {K K' : Nat} (h : K ≤ K') (room r v : Nat) (s : PSt) : LeP (stM T K room r v s) (stM T K' room r v s) := by
  unfold stM
  refine LeP.ite (LeP.ite (LeP.bind (parM_up h _ _ _ _) (fun _ _ => LeP.refl _)) (LeP.refl _)) (parM_up h _ _ _ _)
theorem chM_up {K K' : Nat} (h : K ≤ K') (room : Nat) : ∀ (j v : Nat) (s : PSt), LeP (chM T K room j v s) (chM T K' room j v s)
  | 0, v, s => LeP.refl _
  | j + 1, v, s => LeP.bind (chM_up h room j v s) (fun u s => stM_up h _ _ _ _)
/-- a rank is a unary expression and the steps of the ranks above -/
theorem lev (K room : Nat) (s : PSt) : ∀ j, j ≤ 6 → LeP (PBd (parM T K 2 room [] s) fun v s => chM T K room j (v.getD 0 0) s) (parM T (K + j + 1) 0 room [7 - j] s)
  | 0, _ => .inr rfl
  | j + 1, h => by
    have ih := lev K room s j (by omega)
    have e : 7 - (j + 1) = 6 - j := by omega
    have e2 : 6 - j + 1 = 7 - j := by omega
    rw [e]
    show LeP _ (parM T ((K + j + 1) + 1) 0 room [6 - j] s)
    rw [parM]
    dsimp only
    rw [if_pos rfl]
    have a : (PBd (parM T K 2 room [] s) fun v s => chM T K room (j + 1) (v.getD 0 0) s) = PBd (PBd (parM T K 2 room [] s) fun v s => chM T K room j (v.getD 0 0) s) (fun u s => stM T K room (6 - j) (u.getD 0 0) s) := by
      rw [PBd_assoc]
      rfl
    rw [a]
    by_cases h4 : 6 - j = 4
    · have : j = 2 := by omega
      subst this
      rw [if_pos (by rfl)]
      refine LeP.bind ih (fun u s => ?_)
      unfold stM
      rw [if_pos rfl]
      exact LeP.ite (LeP.bind (parM_up (by omega) _ _ _ _) (fun _ _ => LeP.refl _)) (LeP.refl _)
    · have n1 : ¬ ([6 - j].getD 0 0 = 4) := h4
      have n2 : ¬ (6 < [6 - j].getD 0 0) := by show ¬ (6 < 6 - j); omega
      rw [if_neg n1, if_neg n2]
      show LeP _ (PBd (parM T (K + j + 1) 0 room [6 - j + 1] s) fun v s => parM T (K + j + 1) 1 room [6 - j, v.getD 0 0] s)
      rw [e2]
      refine LeP.bind ih (fun u s => ?_)
      unfold stM
      rw [if_neg h4]
      exact parM_up (by omega) _ _ _ _
/-- no operator of these ranks: nothing is done -/
theorem ch_stop (K room v : Nat) (s : PSt) : ∀ j, j ≤ 6 → rkT (curT T s).k < 7 - j → chM T (K + 1) room j v s = .inr ([v], s)
  | 0, _, _ => rfl
  | j + 1, h, hr => by
    have e : 7 - (j + 1) = 6 - j := by omega
    rw [e] at hr
    show PBd (chM T (K + 1) room j v s) _ = _
    rw [ch_stop K room v s j (by omega) (by omega)]
    show stM T (K + 1) room (6 - j) v s = _
    unfold stM
    by_cases h4 : 6 - j = 4
    · rw [if_pos h4, if_neg]
      intro z
      have := (rk_four _).2 z
      omega
    · rw [if_neg h4, parM]
      dsimp only
      rw [if_neg (by decide), if_pos rfl, if_neg]
      · rfl
      · show ¬ (rkT (curT T s).k = 6 - j)
        omega
/-- what stands behind an expression -/
theorem parM_rk : ∀ (n : Nat), (∀ (room r : Nat) (s : PSt) (v : List Nat) (s' : PSt), 1 ≤ r → r ≤ 7 → parM T n 0 room [r] s = .inr (v, s') → rkT (curT T s').k < r) ∧
    (∀ (room r u : Nat) (s : PSt) (v : List Nat) (s' : PSt), 1 ≤ r → r ≤ 6 → r ≠ 4 → rkT (curT T s).k < r + 1 → parM T n 1 room [r, u] s = .inr (v, s') → rkT (curT T s').k < r) := by
  intro n
  induction n with
  | zero => exact ⟨fun room r s v s' _ _ h => (by cases h), fun room r u s v s' _ _ _ _ h => (by cases h)⟩
  | succ n ih =>
    obtain ⟨i0, i1⟩ := ih
    refine ⟨fun room r s v s' h1 h7 h => ?_, fun room r u s v s' h1 h6 h4 hs h => ?_⟩
    · rw [parM] at h
      dsimp only at h
      rw [if_pos rfl] at h
      by_cases h4 : r = 4
      · subst h4
        rw [if_pos (by rfl)] at h
        cases e : parM T n 0 room [5] s with
        | inl x => rw [e] at h; cases h
        | inr x =>
          rw [e] at h
          have k5 := i0 room 5 s x.1 x.2 (by omega) (by omega) e
          have h : (if (curT T x.2).k = 30 then PBd (parM T n 0 (room - 1) [4] x.2.nxt) fun u s2 => okP s2 (opN (curT T x.2) (x.1.getD 0 0) (u.getD 0 0)) else .inr ([x.1.getD 0 0], x.2)) = (.inr (v, s') : PR) := h
          by_cases h30 : (curT T x.2).k = 30
          · rw [if_pos h30] at h
            cases e2 : parM T n 0 (room - 1) [4] x.2.nxt with
            | inl y => rw [e2] at h; cases h
            | inr y =>
              rw [e2] at h
              have k4 := i0 _ 4 _ y.1 y.2 (by omega) (by omega) e2
              have h : okP y.2 _ = (.inr (v, s') : PR) := h
              unfold okP at h
              cases h
              exact k4
          · rw [if_neg h30] at h
            cases h
            have : rkT (curT T x.2).k ≠ 4 := fun z => h30 ((rk_four _).1 z)
            omega
      · have n1 : ¬ ([r].getD 0 0 = 4) := h4
        rw [if_neg n1] at h
        by_cases h7' : 6 < r
        · rw [if_pos (show 6 < [r].getD 0 0 from h7')] at h
          have := rk_le (curT T s').k
          omega
        · rw [if_neg (show ¬ (6 < [r].getD 0 0) from h7')] at h
          have h : (PBd (parM T n 0 room [r + 1] s) fun v s => parM T n 1 room [r, v.getD 0 0] s) = .inr (v, s') := h
          cases e : parM T n 0 room [r + 1] s with
          | inl x => rw [e] at h; cases h
          | inr x =>
            rw [e] at h
            exact i1 room r _ x.2 v s' h1 (by omega) h4 (i0 room (r + 1) s x.1 x.2 (by omega) (by omega) e) h
    · rw [parM] at h
      dsimp only at h
      rw [if_neg (by decide), if_pos rfl] at h
      by_cases z : rkT (curT T s).k = r
      · rw [if_pos (show rkT (curT T s).k = [r, u].getD 0 0 from z)] at h
        have h : (PBd (parM T n 0 room [r + 1] s.nxt) fun v s2 => parM T n 1 room [r, s2.nodes.length] (s2.add (opN (curT T s) u (v.getD 0 0)))) = .inr (v, s') := h
        cases e : parM T n 0 room [r + 1] s.nxt with
        | inl x => rw [e] at h; cases h
        | inr x =>
          rw [e] at h
          exact i1 room r _ (x.2.add (opN (curT T s) u (x.1.getD 0 0))) v s' h1 h6 h4 (show rkT (curT T x.2).k < r + 1 from i0 room (r + 1) _ x.1 x.2 (by omega) (by omega) e) h
      · rw [if_neg (show ¬ (rkT (curT T s).k = [r, u].getD 0 0) from z)] at h
        cases h
        omega
/-- an operator of rank q at hand: its right side, then the ranks again -/
theorem ch_go (K room v : Nat) (s : PSt) {q : Nat} (hq : rkT (curT T s).k = q) (h1 : 1 ≤ q) (R : PR) (hR : R = if q = 4 then parM T K 0 (room - 1) [4] s.nxt else parM T K 0 room [q + 1] s.nxt) :
    ∀ i, 7 - q + i ≤ 6 → LeP (PBd R fun u s2 => chM T K room (7 - q + i) s2.nodes.length (s2.add (opN (curT T s) v (u.getD 0 0)))) (chM T (K + 1) room (7 - q + i) v s)
  | 0, h => by
    have h6 := rk_le (curT T s).k
    obtain ⟨j, hj⟩ : ∃ j, j = 6 - q := ⟨_, rfl⟩
    have ej : 7 - q + 0 = j + 1 := by omega
    have e6 : 6 - j = q := by omega
    rw [ej]
    have e : chM T (K + 1) room (j + 1) v s = stM T (K + 1) room q v s := by
      show PBd (chM T (K + 1) room j v s) _ = _
      rw [ch_stop K room v s j (by omega) (by omega)]
      show stM T (K + 1) room (6 - j) v s = _
      rw [e6]
    rw [e]
    cases K with
    | zero =>
      rw [hR]
      split <;> exact .inl rfl
    | succ K =>
      unfold stM
      by_cases h4 : q = 4
      · rw [if_pos h4, if_pos ((rk_four _).1 (hq.trans h4))]
        rw [if_pos h4] at hR
        rw [hR]
        refine LeP.bind2 (parM_up (by omega) _ _ _ _) (fun u s2 hu => ?_)
        have := (parM_rk (T := T) (K + 1 + 1)).1 _ 4 _ u s2 (by omega) (by omega) hu
        rw [ch_stop K room _ (s2.add _) (j + 1) (by omega) (by show rkT (curT T s2).k < _; omega)]
        exact .inr rfl
      · rw [if_neg h4]
        rw [if_neg h4] at hR
        have e : parM T (K + 1 + 1) 1 room [q, v] s = PBd (parM T (K + 1) 0 room [q + 1] s.nxt) fun u s2 => parM T (K + 1) 1 room [q, s2.nodes.length] (s2.add (opN (curT T s) v (u.getD 0 0))) := by
          rw [parM]
          dsimp only
          rw [if_neg (by decide), if_pos rfl, if_pos (show rkT (curT T s).k = [q, v].getD 0 0 from hq)]
          rfl
        rw [e, hR]
        refine LeP.bind2 (LeP.refl _) (fun u s2 hu => ?_)
        have := (parM_rk (T := T) (K + 1)).1 _ (q + 1) _ u s2 (by omega) (by omega) hu
        show LeP (PBd (chM T (K + 1) room j s2.nodes.length (s2.add _)) _) _
        rw [ch_stop K room _ (s2.add _) j (by omega) (by show rkT (curT T s2).k < _; omega)]
        show LeP (stM T (K + 1) room (6 - j) s2.nodes.length (s2.add _)) _
        rw [e6]
        unfold stM
        rw [if_neg h4]
        exact LeP.refl _
  | i + 1, h => by
    have ih := ch_go K room v s hq h1 R hR i (by omega)
    show LeP (PBd R fun u s2 => PBd (chM T K room (7 - q + i) s2.nodes.length (s2.add (opN (curT T s) v (u.getD 0 0)))) fun u s => stM T K room (6 - (7 - q + i)) (u.getD 0 0) s) (PBd (chM T (K + 1) room (7 - q + i) v s) fun u s => stM T (K + 1) room (6 - (7 - q + i)) (u.getD 0 0) s)
    rw [← PBd_assoc]
    exact LeP.bind ih (fun u s => stM_up (by omega) _ _ _ _)
/-- what parN reads, parM reads -/
theorem parM_ge : ∀ (n : Nat), (∀ (task room : Nat) (x : List Nat) (s : PSt), task ≠ 0 → task ≠ 1 → LeP (parN T n task room x s) (parM T (9 * n) task room x s)) ∧
    (∀ (room r : Nat) (s : PSt), 1 ≤ r → r ≤ 7 → LeP (parN T n 0 room [r] s) (parM T (9 * n) 0 room [r] s)) ∧
    (∀ (room r v : Nat) (s : PSt), 1 ≤ r → r ≤ 7 → LeP (parN T n 1 room [r, v] s) (chM T (9 * n) room (7 - r) v s)) := by
  intro n
  induction n with
  | zero => exact ⟨fun _ _ _ _ _ _ => .inl rfl, fun _ _ _ _ _ => .inl rfl, fun _ _ _ _ _ _ => .inl rfl⟩
  | succ n ih =>
    obtain ⟨i2, i0, i1⟩ := ih
    have h2 : ∀ (task room : Nat) (x : List Nat) (s : PSt), task ≠ 0 → task ≠ 1 → LeP (parN T n task room x s) (parM T (9 * n + 8) task room x s) := fun task room x s a b => (i2 task room x s a b).trans (parM_up (by omega) _ _ _ _)
    have h0 : ∀ (room : Nat) (s : PSt), LeP (parN T n 0 room [1] s) (parM T (9 * n + 8) 0 room [1] s) := fun room s => (i0 room 1 s (by omega) (by omega)).trans (parM_up (by omega) _ _ _ _)
    refine ⟨fun task room x s t0 t1 => ?_, fun room r s h1 h7 => ?_, fun room r v s h1 h7 => ?_⟩
    · show LeP (parN T (n + 1) task room x s) (parM T ((9 * n + 8) + 1) task room x s)
      rw [parN, parM]
      dsimp only
      rw [if_neg t0, if_neg t0, if_neg t1, if_neg t1]
      clear i2 i0 i1 t0 t1
      generalize parN T n = A at h0 h2 ⊢
      generalize parM T (9 * n + 8) = B at h0 h2 ⊢
      repeat' first
        | exact h0 _ _
        | exact h2 _ _ _ _ (by decide) (by decide)
        | exact LeP.refl _
        | refine LeP.bind ?_ (fun v s => ?_)
        | refine LeP.expect (fun s => ?_)
        | refine LeP.name (fun m s => ?_)
        | refine LeP.ite ?_ ?_
    · obtain ⟨j, hj, rfl⟩ : ∃ j, j ≤ 6 ∧ r = 7 - j := ⟨7 - r, by omega, by omega⟩
      have e : parN T (n + 1) 0 room [7 - j] s = PBd (parN T n 2 room [] s) fun v s => parN T n 1 room [7 - j, v.getD 0 0] s := by
        rw [parN]
        dsimp only
        rw [if_pos rfl]
        rfl
      rw [e]
      refine LeP.trans ?_ ((lev (T := T) (9 * n) room s j hj).trans (parM_up (by omega) _ _ _ _))
      refine LeP.bind (i2 2 room [] s (by decide) (by decide)) (fun v s => ?_)
      have := i1 room (7 - j) (v.getD 0 0) s (by omega) (by omega)
      rwa [show 7 - (7 - j) = j by omega] at this
    · have e : parN T (n + 1) 1 room [r, v] s = if rkT (curT T s).k < r then .inr ([v], s) else PBd (if rkT (curT T s).k = 4 then parN T n 0 (room - 1) [4] s.nxt else parN T n 0 room [rkT (curT T s).k + 1] s.nxt) fun u s2 => parN T n 1 room [r, s2.nodes.length] (s2.add (opN (curT T s) v (u.getD 0 0))) := by
        rw [parN]
        dsimp only
        rw [if_neg (by decide), if_pos rfl]
        unfold rkT
        by_cases z : (curT T s).k < 22 ∨ 36 < (curT T s).k
        · rw [if_pos z, if_pos z, if_pos (by omega)]
          rfl
        · rw [if_neg z, if_neg z]
          rfl
      rw [e]
      by_cases z : rkT (curT T s).k < r
      · rw [if_pos z]
        rw [show 9 * (n + 1) = (9 * n + 8) + 1 by omega, ch_stop _ room v s (7 - r) (by omega) (by omega)]
        exact LeP.refl _
      · rw [if_neg z]
        have h6 := rk_le (curT T s).k
        obtain ⟨q, hq⟩ : ∃ q, rkT (curT T s).k = q := ⟨_, rfl⟩
        have g := ch_go (T := T) (9 * n) room v s hq (by omega) _ rfl (q - r) (by omega)
        rw [show 7 - q + (q - r) = 7 - r by omega] at g
        refine LeP.trans ?_ (g.trans (chM_up (by omega) _ _ _ _))
        rw [hq]
        refine LeP.bind ?_ (fun u s2 => i1 room r _ _ h1 h7)
        refine LeP.ite (i0 _ 4 _ (by omega) (by omega)) (i0 _ (q + 1) _ (by omega) (by omega))
/-- no room: an error at once -/
theorem parM_room0 : ∀ (n r : Nat) (s : PSt), 1 ≤ r → r ≤ 7 → LeP (parM T n 0 0 [r] s) (failP T s 16) := by
  intro n
  induction n with
  | zero => intro r s _ _; exact .inl rfl
  | succ n ih =>
    intro r s h1 h7
    rw [parM]
    dsimp only
    rw [if_pos rfl]
    have fb : ∀ f : List Nat → PSt → PR, PBd (failP T s 16) f = failP T s 16 := fun f => rfl
    by_cases h4 : r = 4
    · subst h4
      rw [if_pos (by rfl), ← fb]
      refine LeP.trans (LeP.bind (ih 5 s (by omega) (by omega)) (fun _ _ => LeP.refl _)) (.inr rfl)
    · rw [if_neg (show ¬ ([r].getD 0 0 = 4) from h4)]
      by_cases h6 : 6 < r
      · rw [if_pos (show 6 < [r].getD 0 0 from h6)]
        cases n with
        | zero => exact .inl rfl
        | succ n =>
          rw [parM]
          dsimp only
          rw [if_neg (by decide), if_neg (by decide), if_pos rfl, if_pos rfl]
          exact .inr rfl
      · rw [if_neg (show ¬ (6 < [r].getD 0 0) from h6)]
        refine LeP.trans (LeP.bind (ih (r + 1) s (by omega) (by omega)) (fun _ _ => LeP.refl _)) (.inr rfl)
end
end Go.Proofs.Qxb6500574aGreatDoor
