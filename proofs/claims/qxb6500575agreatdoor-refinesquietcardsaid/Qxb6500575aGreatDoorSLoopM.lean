/-
  THE LOOP's measure, read off the world. No walk.
-/
import Derived.Test.Qxb6500575aGreatDoorSRound
namespace Go.Proofs.Qxb6500575aGreatDoor
open Go Go.RowKit
set_option linter.unusedVariables false
set_option linter.unusedSimpArgs false

def cellInt (w : World) (p : Addr) : Int := match w.cell? p with
  | some (.int _ n) => n
  | _ => 0
def cellRow (w : World) (p : Addr) : Option (Nat × Nat) := match w.cell? p with
  | some (.slice (some a) n _) => some (a.block, n)
  | _ => none
/-- fuel, frames, program counter -/
def rmeas (fuel : Int) (bx : Nat) (w : World) : Nat :=
  (fuel - cellInt w ⟨bx, 4, none⟩).toNat * 1001 + match cellRow w ⟨bx, 3, none⟩ with
    | some (g, n) => n * 200 + (199 - (cellInt w ⟨g, (n - 1) * 5 + 1, none⟩).toNat)
    | none => 0
theorem rmeas_eq {w : World} {bx : Nat} {p k : Value} {L : InL} {x : InD} (h : InRep w bx p k L x) {r : Frm} {rs : List Frm} (hr : x.fr = r :: rs) (fuel : Int) : rmeas fuel bx w = (fuel - x.used).toNat * 1001 + ((rs.length + 1) * 200 + (199 - r.pc.toNat)) := by
  obtain ⟨g, hg, hc, _⟩ := h.top hr
  have c3 := h.here.cell 3
  have c4 := h.here.cell 4
  simp [hr, hg] at c3 c4
  have a1 := hc 1 (by omega)
  simp [frmCells] at a1
  unfold rmeas cellInt cellRow
  rw [c3, c4]
  simp only [Nat.add_sub_cancel]
  rw [a1]
end Go.Proofs.Qxb6500575aGreatDoor
