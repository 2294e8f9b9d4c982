/-
  moon: THE PARSER AS THE MODEL READS: its equations, task by task. Plain; no memory, no walk.
-/
import Derived.Test.Qxb6500574aGreatDoorZK2
namespace Go.Proofs.Qxb6500574aGreatDoor
set_option linter.unusedVariables false
set_option linter.unusedSimpArgs false
section
variable {T : List Tok} {s : PSt} {n room r : Nat}
theorem pm0_4 : parM T (n + 1) 0 room [4] s = PBd (parM T n 0 room [5] s) fun v s => if (curT T s).k = 30 then PBd (parM T n 0 (room - 1) [4] s.nxt) fun u s2 => okP s2 (opN (curT T s) (v.getD 0 0) (u.getD 0 0)) else .inr ([v.getD 0 0], s) := by
  conv => lhs; unfold parM
  simp (config := {decide := true}) only [if_true, if_false, List.getD_cons_zero]
theorem pm0_7 : parM T (n + 1) 0 room [7] s = PBd (parM T n 2 room [] s) fun v s => .inr ([v.getD 0 0], s) := by
  conv => lhs; unfold parM
  simp (config := {decide := true}) only [if_true, if_false, List.getD_cons_zero]
theorem pm0_r (h4 : r ≠ 4) (h6 : r ≤ 6) : parM T (n + 1) 0 room [r] s = PBd (parM T n 0 room [r + 1] s) fun v s => parM T n 1 room [r, v.getD 0 0] s := by
  conv => lhs; unfold parM
  dsimp only
  rw [if_pos rfl, if_neg (show ¬ [r].getD 0 0 = 4 from h4), if_neg (show ¬ 6 < [r].getD 0 0 from by show ¬ 6 < r; omega)]
  rfl
theorem pm1 {x : Nat} : parM T (n + 1) 1 room [r, x] s = if rkT (curT T s).k = r then PBd (parM T n 0 room [r + 1] s.nxt) fun v s2 => parM T n 1 room [r, s2.nodes.length] (s2.add (opN (curT T s) x (v.getD 0 0))) else .inr ([x], s) := by
  conv => lhs; unfold parM
  simp (config := {decide := true}) only [if_true, if_false]
  rfl
theorem pm2 : parM T (n + 1) 2 room [] s = if room = 0 then failP T s 16 else if (curT T s).k = 32 ∨ (curT T s).k = 17 ∨ (curT T s).k = 37 then PBd (parM T n 2 (room - 1) [] s.nxt) fun v s2 => okP s2 ⟨23, v.getD 0 0, 0, 0, 0, if (curT T s).k = 32 then 1 else if (curT T s).k = 17 then 2 else 3, [], (curT T s).p⟩ else parM T n 3 room [] s := by
  conv => lhs; unfold parM
  simp (config := {decide := true}) only [if_true, if_false]
theorem pm3 : parM T (n + 1) 3 room [] s = if room = 0 then failP T s 16 else PBd (parM T n 5 room [] s) fun v s => parM T n 4 room [v.getD 0 0] s := by
  conv => lhs; unfold parM
  simp (config := {decide := true}) only [if_true, if_false]
theorem pm4 {x : Nat} : parM T (n + 1) 4 room [x] s = if (curT T s).k = 46 then nameP T s.nxt 0 fun m s2 => parM T n 4 room [s2.nodes.length + 1] ((s2.add ⟨16, 0, 0, 0, 0, 0, m.s, m.p⟩).add ⟨18, x, s2.nodes.length, 0, 0, 0, [], (curT T s).p⟩)
      else if (curT T s).k = 43 then PBd (parM T n 0 (room - 1) [1] s.nxt) fun v s2 => expectP T s2 44 fun s2 => parM T n 4 room [s2.nodes.length] (s2.add ⟨18, x, v.getD 0 0, 0, 0, 0, [], (curT T s).p⟩)
      else if (curT T s).k = 39 then PBd (parM T n 6 (room - 1) [40, 4, 0, 0, 0] s.nxt) fun v s2 => parM T n 4 room [s2.nodes.length] (s2.add ⟨19, x, v.getD 0 0, 0, 0, 0, [], (curT T s).p⟩)
      else .inr ([x], s) := by
  conv => lhs; unfold parM
  simp (config := {decide := true}) only [if_true, if_false]
  rfl
theorem pm5 : parM T (n + 1) 5 room [] s = if (curT T s).k = 3 then okP s.nxt ⟨15, 0, 0, 0, 0, (curT T s).n, [], (curT T s).p⟩
      else if (curT T s).k = 4 then okP s.nxt ⟨16, 0, 0, 0, 0, 0, (curT T s).s, (curT T s).p⟩
      else if (curT T s).k = 2 then okP s.nxt ⟨17, 0, 0, 0, 0, 0, (curT T s).s, (curT T s).p⟩
      else if (curT T s).k = 16 then okP s.nxt ⟨12, 0, 0, 0, 0, 0, [], (curT T s).p⟩
      else if (curT T s).k = 20 then okP s.nxt ⟨13, 0, 0, 0, 0, 0, [], (curT T s).p⟩
      else if (curT T s).k = 10 then okP s.nxt ⟨14, 0, 0, 0, 0, 0, [], (curT T s).p⟩
      else if (curT T s).k = 39 then PBd (parM T n 0 (room - 1) [1] s.nxt) fun v s => expectP T s 40 fun s => .inr (v, s)
      else if (curT T s).k = 12 then (if 12 ≤ s.funcs then failP T s 20 else parM T n 7 room [(curT T s).p] s.nxt)
      else if (curT T s).k = 41 then PBd (parM T n 6 (room - 1) [42, 0, 0, 0, 0] s.nxt) fun v s2 => okP s2 ⟨21, v.getD 0 0, 0, 0, 0, 0, [], (curT T s).p⟩
      else failP T s 15 := by
  conv => lhs; unfold parM
  simp (config := {decide := true}) only [if_true, if_false]
theorem pm6 {x0 x1 x2 x3 x4 : Nat} : parM T (n + 1) 6 room [x0, x1, x2, x3, x4] s = if (curT T s).k = x0 then .inr ([x3, x2], s.nxt) else
      (if 0 < x2 then expectP T s 45 (fun s => if x1 ≠ 0 ∧ x2 + 1 = x1 then failP T s 19 else PBd (parM T n 0 room [1] s) fun v s => parM T n 6 room [x0, x1, x2 + 1, if x4 = 0 then v.getD 0 0 else x3, v.getD 0 0] (s.link x4 (v.getD 0 0)))
       else (if x1 ≠ 0 ∧ x2 + 1 = x1 then failP T s 19 else PBd (parM T n 0 room [1] s) fun v s => parM T n 6 room [x0, x1, x2 + 1, if x4 = 0 then v.getD 0 0 else x3, v.getD 0 0] (s.link x4 (v.getD 0 0)))) := by
  conv => lhs; unfold parM
  simp (config := {decide := true}) only [if_true, if_false]
  rfl
theorem pm7 {x : Nat} : parM T (n + 1) 7 room [x] s = expectP T s 39 fun s => PBd (parM T n 8 room [0, 0, 0] { s with funcs := s.funcs + 1 }) fun v s1 =>
        PBd (parM T n 9 (room - 1) [] { s1 with alive := v.getD 1 0, loops := 0 }) fun u s2 => expectP T s2 9 fun s3 =>
          okP { s3 with alive := s.alive, loops := s.loops } ⟨20, v.getD 0 0, u.getD 0 0, 0, 0, s.funcs + 1, [], x⟩ := by
  conv => lhs; unfold parM
  simp (config := {decide := true}) only [if_true, if_false]
  rfl
theorem pm8 {x0 x1 x2 : Nat} : parM T (n + 1) 8 room [x0, x1, x2] s = if (curT T s).k = 40 then .inr ([x1, x0], s.nxt) else
      (if 0 < x0 then expectP T s 45 (fun s => if x0 = 3 then failP T s 19 else nameP T s 0 fun m s => parM T n 8 room [x0 + 1, if x2 = 0 then s.nodes.length else x1, s.nodes.length] ((s.add ⟨17, 0, 0, 0, 0, 0, m.s, m.p⟩).link x2 s.nodes.length))
       else (if x0 = 3 then failP T s 19 else nameP T s 0 fun m s => parM T n 8 room [x0 + 1, if x2 = 0 then s.nodes.length else x1, s.nodes.length] ((s.add ⟨17, 0, 0, 0, 0, 0, m.s, m.p⟩).link x2 s.nodes.length))) := by
  conv => lhs; unfold parM
  simp (config := {decide := true}) only [if_true, if_false]
  rfl
theorem pm9 : parM T (n + 1) 9 room [] s = if room = 0 then failP T s 16 else PBd (parM T n 10 room [0, 0, 0] s) fun v s1 => .inr (v, { s1 with alive := s.alive }) := by
  conv => lhs; unfold parM
  simp (config := {decide := true}) only [if_true, if_false]
theorem pm10 {x0 x1 x2 : Nat} : parM T (n + 1) 10 room [x0, x1, x2] s = if endsB (curT T s).k = true then .inr ([x1], s) else if x0 = 1 then failP T s 15 else PBd (parM T n 11 room [] s) fun v s =>
        parM T n 10 room [if (s.nodes.getD (v.getD 0 0) nd0).k = 10 ∨ (s.nodes.getD (v.getD 0 0) nd0).k = 11 then 1 else 0, if x2 = 0 then v.getD 0 0 else x1, v.getD 0 0] (s.link x2 (v.getD 0 0)) := by
  conv => lhs; unfold parM
  simp (config := {decide := true}) only [if_true, if_false]
  rfl
theorem pm11 : parM T (n + 1) 11 room [] s = if (curT T s).k = 15 then parM T n 12 room [] s.nxt
      else if (curT T s).k = 13 then parM T n 13 room [] s
      else if (curT T s).k = 11 then parM T n 14 room [] s.nxt
      else if (curT T s).k = 21 then PBd (parM T n 0 (room - 1) [1] s.nxt) fun v s2 => PBd (parM T n 15 room [0] s2) fun u s3 => okP s3 ⟨7, v.getD 0 0, u.getD 0 0, 0, 0, 0, [], (curT T s).p⟩
      else if (curT T s).k = 5 then (if s.loops = 0 then failP T s 15 else okP s.nxt ⟨11, 0, 0, 0, 0, 0, [], (curT T s).p⟩)
      else if (curT T s).k = 18 then parM T n 16 room [(curT T s).p] s.nxt
      else PBd (parM T n 3 (room - 1) [] s) fun v s =>
        if (curT T s).k ≠ 38 then (if (s.nodes.getD (v.getD 0 0) nd0).k = 19 then okP s ⟨5, v.getD 0 0, 0, 0, 0, 0, [], (s.nodes.getD (v.getD 0 0) nd0).p⟩ else failP T s 15)
        else if (s.nodes.getD (v.getD 0 0) nd0).k ≠ 17 ∧ (s.nodes.getD (v.getD 0 0) nd0).k ≠ 18 then failP T s 15
        else PBd (parM T n 0 (room - 1) [1] s.nxt) fun u s2 => okP s2 ⟨4, v.getD 0 0, u.getD 0 0, 0, 0, 0, [], (curT T s).p⟩ := by
  conv => lhs; unfold parM
  simp (config := {decide := true}) only [if_true, if_false]
theorem pm12 : parM T (n + 1) 12 room [] s = if (curT T s).k = 12 then (if 12 ≤ s.funcs then failP T s 20 else nameP T s.nxt 1 fun m s =>
        PBd (parM T n 7 room [m.p] { s with alive := s.alive + 1 }) fun v s => okP s ⟨3, v.getD 0 0, 0, 0, 0, 0, m.s, m.p⟩)
      else nameP T s 1 fun m s =>
        if (curT T s).k = 45 then nameP T s.nxt 2 fun m2 s => expectP T s 38 fun s =>
          PBd (parM T n 0 (room - 1) [1] ((s.add ⟨17, 0, 0, 0, s.nodes.length + 1, 0, m.s, m.p⟩).add ⟨17, 0, 0, 0, 0, 0, m2.s, m2.p⟩)) fun v s2 =>
            if (s2.nodes.getD (v.getD 0 0) nd0).k ≠ 19 then failP T s2 15
            else okP { s2 with alive := s2.alive + 2 } ⟨2, s.nodes.length, v.getD 0 0, 0, 0, 0, [], m.p⟩
        else if (curT T s).k = 38 then PBd (parM T n 0 (room - 1) [1] s.nxt) fun v s => okP { s with alive := s.alive + 1 } ⟨1, v.getD 0 0, 0, 0, 0, 0, m.s, m.p⟩
        else okP { s with alive := s.alive + 1 } ⟨1, 0, 0, 0, 0, 0, m.s, m.p⟩ := by
  conv => lhs; unfold parM
  simp (config := {decide := true}) only [if_true, if_false]
theorem pm13 : parM T (n + 1) 13 room [] s = PBd (parM T n 0 (room - 1) [1] s.nxt) fun v s1 => expectP T s1 19 fun s1 => PBd (parM T n 9 (room - 1) [] s1) fun u s2 =>
        if (curT T s2).k = 8 then PBd (parM T n 13 (room - 1) [] s2) fun z s3 => okP s3 ⟨6, v.getD 0 0, u.getD 0 0, z.getD 0 0, 0, 0, [], (curT T s).p⟩
        else if (curT T s2).k = 7 then PBd (parM T n 9 (room - 1) [] s2.nxt) fun z s3 => expectP T s3 9 fun s3 => okP s3 ⟨6, v.getD 0 0, u.getD 0 0, z.getD 0 0, 0, 0, [], (curT T s).p⟩
        else expectP T s2 9 fun s3 => okP s3 ⟨6, v.getD 0 0, u.getD 0 0, 0, 0, 0, [], (curT T s).p⟩ := by
  conv => lhs; unfold parM
  simp (config := {decide := true}) only [if_true, if_false]
theorem pm14 : parM T (n + 1) 14 room [] s = nameP T s 4 fun m s =>
        if (curT T s).k = 45 then nameP T s.nxt 0 fun m2 s => expectP T s 14 fun s =>
          PBd (parM T n 0 (room - 1) [1] ((s.add ⟨17, 0, 0, 0, s.nodes.length + 1, 0, m.s, m.p⟩).add ⟨17, 0, 0, 0, 0, 0, m2.s, m2.p⟩)) fun v s2 =>
            PBd (parM T n 15 room [4] s2) fun u s3 => okP s3 ⟨9, s.nodes.length, v.getD 0 0, u.getD 0 0, 0, 0, [], m.p⟩
        else expectP T s 38 fun s => PBd (parM T n 0 (room - 1) [1] s) fun v s => expectP T s 45 fun s => PBd (parM T n 0 (room - 1) [1] s) fun u s =>
          if (curT T (s.link (v.getD 0 0) (u.getD 0 0))).k = 45 then PBd (parM T n 0 (room - 1) [1] (s.link (v.getD 0 0) (u.getD 0 0)).nxt) fun z s => PBd (parM T n 15 room [4] (s.link (u.getD 0 0) (z.getD 0 0))) fun q s => okP s ⟨8, v.getD 0 0, q.getD 0 0, 0, 0, 0, m.s, m.p⟩
          else PBd (parM T n 15 room [4] (s.link (v.getD 0 0) (u.getD 0 0))) fun q s => okP s ⟨8, v.getD 0 0, q.getD 0 0, 0, 0, 0, m.s, m.p⟩ := by
  conv => lhs; unfold parM
  simp (config := {decide := true}) only [if_true, if_false]
theorem pm15 {x : Nat} : parM T (n + 1) 15 room [x] s = expectP T s 6 fun s => PBd (parM T n 9 (room - 1) [] { s with alive := s.alive + x, loops := s.loops + 1 }) fun v s => expectP T s 9 fun s =>
        .inr (v, { s with alive := s.alive - x, loops := s.loops - 1 }) := by
  conv => lhs; unfold parM
  simp (config := {decide := true}) only [if_true, if_false]
  rfl
theorem pm16 {x : Nat} : parM T (n + 1) 16 room [x] s = if endsB (curT T s).k = true then okP s ⟨10, 0, 0, 0, 0, 0, [], x⟩
      else PBd (parM T n 0 (room - 1) [1] s) fun v s =>
        if (curT T s).k = 45 then PBd (parM T n 0 (room - 1) [1] s.nxt) fun u s => okP s ⟨10, v.getD 0 0, u.getD 0 0, 0, 0, 0, [], x⟩
        else okP s ⟨10, v.getD 0 0, 0, 0, 0, 0, [], x⟩ := by
  conv => lhs; unfold parM
  simp (config := {decide := true}) only [if_true, if_false]
  rfl
end
end Go.Proofs.Qxb6500574aGreatDoor
