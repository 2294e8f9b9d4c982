/-
  THE WALK of vm: loop whole.
-/
import Derived.Test.Qxb6500574aGreatDoorVLoop4
import Derived.Test.Qxb6500574aGreatDoorVLoop5
import Derived.Test.Qxb6500574aGreatDoorVLoop8
import Derived.Test.Qxb6500574aGreatDoorVLoop9
import Derived.Test.Qxb6500574aGreatDoorVLoop10
namespace Go.Proofs.Qxb6500574aGreatDoor
open Go Go.RowKit
set_option linter.unusedVariables false
set_option linter.unusedSimpArgs false
/-- instrP behind the fetch -/
def instrB (m : VMD) (i : Nat) (fm : FmD) (p : PrD) (n : Int) (op x : Nat) : Bool × RR EvD :=
  if !soundP m i op x then (false, trapR 11 m)
  else if n < needX op x ∨ n + growX op x > 128 then (false, trapR 11 m)
  else if op = 21 then (decide (x ≤ fm.pc), (.inr ev0, setPc m i x))
  else if op = 22 then
    if truthy (topV m i 0) then (false, (.inr ev0, setPc (pops m i 1) i (fm.pc + 1)))
    else (decide (x ≤ fm.pc), (.inr ev0, setPc (pops m i 1) i x))
  else if op = 23 ∨ op = 24 then
    if truthy (topV m i 0) = decide (op = 24) then (decide (x ≤ fm.pc), (.inr ev0, setPc m i x))
    else (false, (.inr ev0, setPc (pops m i 1) i (fm.pc + 1)))
  else if op = 26 then (true, callP m i x)
  else if op = 27 then (false, retP m i)
  else (false, bump i (plainP m i op x))
section
variable {w : World} {A : VL} {m : VMD} {f e i b6 b7 : Nat} {t : ThD} {K : Cx} {fm : FmD}
/-- at a round's head: where all lies -/
theorem lb_of (R : VRep w A m f e) (h : At K m i t fm) (room : Room K 0 t) (low : Low m) (e6 : Has w b6 (evCells ev0) 190 ∧ A.o b6 = 0) (e7 : Has w b7 (evCells ev0) 190 ∧ A.o b7 = 0) (ne : b6 ≠ b7) (fu : f < 9223372036854775808) :
    ∃ g j gp pi p, LB w A m f e K i t fm g j gp pi p b6 b7 := by
  obtain ⟨q, p, hq, hp, hpe, hpm, hnup, hup⟩ := h.vi.proto h.clo
  obtain ⟨l, hx⟩ := R.lays h.hi
  obtain ⟨g, a1, _⟩ := (R.one h.hi hx).f.at fCells_len h.hf
  obtain ⟨gp, b1, _⟩ := R.core.protos.at pCells_len hp
  have hlt := (List.getElem?_eq_some_iff.1 h.hf).1
  exact ⟨g, t.frames.length - 1, gp, q.p, p, ⟨R, h, room, ⟨l, hx, a1⟩, h.hf, hp, hpe, b1, low⟩, by omega, ⟨q, hq, rfl⟩, e6, e7, ne, fu⟩
theorem instr_end {g j gp pi : Nat} {p : PrD} (h : LB w A m f e K i t fm g j gp pi p b6 b7) (hp : p.nc ≤ fm.pc) : instrP m i = (false, trapR 11 m) := by
  unfold instrP
  dsimp only
  rw [(plP_is h.pb).1, h.pb.pe, if_pos hp]
theorem instr_in {g j gp pi gc CN CD op x : Nat} {p : PrD} (h : LB w A m f e K i t fm g j gp pi p b6 b7) (hI : LI w A m fm p gc CN CD op x) (hp : fm.pc < p.nc) : instrP m i = instrB m i fm p ((t.stack.length : Int) - fm.base - p.ns) op x := by
  unfold instrP instrB
  dsimp only
  have hc : m.code.getD (p.code + fm.pc) (0, 0) = (op, x) := by simp [hI.hc]
  rw [(plP_is h.pb).1, (plP_is h.pb).2, h.pb.pe, if_neg (by omega), hc]
theorem Low.next {K' : Cx} {m' : VMD} {t' : ThD} (low : Low m) (V : VI K' m') (R : Rest m m' i) (hi : m'.ths[i]? = some t') (hl : t'.stack.length ≤ 10000) : Low m' := by
  intro y u hu
  by_cases hy : y = i
  · subst hy
    rw [hi] at hu
    cases hu
    exact hl
  · by_cases hlt : y < m.ths.length
    · obtain ⟨u', a1, _, _, a4⟩ := R.old y _ hy (List.getElem?_eq_getElem hlt)
      rw [a1] at hu
      cases hu
      rw [a4]
      exact low y _ (List.getElem?_eq_getElem hlt)
    · have h1 := R.new y u (by omega) hu
      have T := V.th y u hu
      rw [T.em (T.al.2 (.inl h1))]
      exact Nat.zero_le _
end
end Go.Proofs.Qxb6500574aGreatDoor
