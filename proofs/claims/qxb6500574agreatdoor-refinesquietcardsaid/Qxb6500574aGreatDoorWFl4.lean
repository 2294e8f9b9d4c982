/-
  THE WALK of the parser layer: where a node stands: Pos of every kind.
-/
import Derived.Test.Qxb6500574aGreatDoorWFl3
namespace Go.Proofs.Qxb6500574aGreatDoor
open Go Go.RowKit
set_option linter.unusedVariables false
set_option linter.unusedSimpArgs false
open Go.Lib
section
set_option maxRecDepth 100000
set_option maxHeartbeats 1000000
variable {w : World} {b c d p : Nat}
theorem posLit (hb : b < w.heap.size) (h0 : w.cell? ⟨b, 0, none⟩ = some (.int .i64 (p : Nat))) : Calls Tryz.prog 367 #[.pointer (some ⟨b, 0, none⟩)] w fun e w' => e = .returned (.int .i64 (p : Nat)) ∧ w' = w := by
  go_enter Tryz.func367, Tryz.ntmps367
  go_wp2_with fail
  go_ret
  exact ⟨rfl, rfl⟩
theorem posNum (hb : b < w.heap.size) (h0 : w.cell? ⟨b, 0, none⟩ = some (.int .i64 (p : Nat))) : Calls Tryz.prog 369 #[.pointer (some ⟨b, 0, none⟩)] w fun e w' => e = .returned (.int .i64 (p : Nat)) ∧ w' = w := by
  go_enter Tryz.func369, Tryz.ntmps369
  go_wp2_with fail
  go_ret
  exact ⟨rfl, rfl⟩
theorem posStr (hb : b < w.heap.size) (h0 : w.cell? ⟨b, 0, none⟩ = some (.int .i64 (p : Nat))) : Calls Tryz.prog 365 #[.pointer (some ⟨b, 0, none⟩)] w fun e w' => e = .returned (.int .i64 (p : Nat)) ∧ w' = w := by
  go_enter Tryz.func365, Tryz.ntmps365
  go_wp2_with fail
  go_ret
  exact ⟨rfl, rfl⟩
theorem posName (hb : b < w.heap.size) (h0 : w.cell? ⟨b, 0, none⟩ = some (.int .i64 (p : Nat))) : Calls Tryz.prog 345 #[.pointer (some ⟨b, 0, none⟩)] w fun e w' => e = .returned (.int .i64 (p : Nat)) ∧ w' = w := by
  go_enter Tryz.func345, Tryz.ntmps345
  go_wp2_with fail
  go_ret
  exact ⟨rfl, rfl⟩
theorem posIndex (hb : b < w.heap.size) (h0 : w.cell? ⟨b, 0, none⟩ = some (.int .i64 (p : Nat))) : Calls Tryz.prog 347 #[.pointer (some ⟨b, 0, none⟩)] w fun e w' => e = .returned (.int .i64 (p : Nat)) ∧ w' = w := by
  go_enter Tryz.func347, Tryz.ntmps347
  go_wp2_with fail
  go_ret
  exact ⟨rfl, rfl⟩
theorem posCall (hb : b < w.heap.size) (h0 : w.cell? ⟨b, 0, none⟩ = some (.int .i64 (p : Nat))) : Calls Tryz.prog 341 #[.pointer (some ⟨b, 0, none⟩)] w fun e w' => e = .returned (.int .i64 (p : Nat)) ∧ w' = w := by
  go_enter Tryz.func341, Tryz.ntmps341
  go_wp2_with fail
  go_ret
  exact ⟨rfl, rfl⟩
theorem posFunc (hb : b < w.heap.size) (h0 : w.cell? ⟨b, 0, none⟩ = some (.int .i64 (p : Nat))) : Calls Tryz.prog 351 #[.pointer (some ⟨b, 0, none⟩)] w fun e w' => e = .returned (.int .i64 (p : Nat)) ∧ w' = w := by
  go_enter Tryz.func351, Tryz.ntmps351
  go_wp2_with fail
  go_ret
  exact ⟨rfl, rfl⟩
theorem posTable (hb : b < w.heap.size) (h0 : w.cell? ⟨b, 0, none⟩ = some (.int .i64 (p : Nat))) : Calls Tryz.prog 371 #[.pointer (some ⟨b, 0, none⟩)] w fun e w' => e = .returned (.int .i64 (p : Nat)) ∧ w' = w := by
  go_enter Tryz.func371, Tryz.ntmps371
  go_wp2_with fail
  go_ret
  exact ⟨rfl, rfl⟩
theorem posBinary (hb : b < w.heap.size) (h0 : w.cell? ⟨b, 0, none⟩ = some (.int .i64 (p : Nat))) : Calls Tryz.prog 363 #[.pointer (some ⟨b, 0, none⟩)] w fun e w' => e = .returned (.int .i64 (p : Nat)) ∧ w' = w := by
  go_enter Tryz.func363, Tryz.ntmps363
  go_wp2_with fail
  go_ret
  exact ⟨rfl, rfl⟩
theorem posUnary (hb : b < w.heap.size) (h0 : w.cell? ⟨b, 0, none⟩ = some (.int .i64 (p : Nat))) : Calls Tryz.prog 373 #[.pointer (some ⟨b, 0, none⟩)] w fun e w' => e = .returned (.int .i64 (p : Nat)) ∧ w' = w := by
  go_enter Tryz.func373, Tryz.ntmps373
  go_wp2_with fail
  go_ret
  exact ⟨rfl, rfl⟩
theorem posAssign (hb : b < w.heap.size) (h0 : w.cell? ⟨b, 0, none⟩ = some (.int .i64 (p : Nat))) : Calls Tryz.prog 349 #[.pointer (some ⟨b, 0, none⟩)] w fun e w' => e = .returned (.int .i64 (p : Nat)) ∧ w' = w := by
  go_enter Tryz.func349, Tryz.ntmps349
  go_wp2_with fail
  go_ret
  exact ⟨rfl, rfl⟩
theorem posIf (hb : b < w.heap.size) (h0 : w.cell? ⟨b, 0, none⟩ = some (.int .i64 (p : Nat))) : Calls Tryz.prog 357 #[.pointer (some ⟨b, 0, none⟩)] w fun e w' => e = .returned (.int .i64 (p : Nat)) ∧ w' = w := by
  go_enter Tryz.func357, Tryz.ntmps357
  go_wp2_with fail
  go_ret
  exact ⟨rfl, rfl⟩
theorem posWhile (hb : b < w.heap.size) (h0 : w.cell? ⟨b, 0, none⟩ = some (.int .i64 (p : Nat))) : Calls Tryz.prog 339 #[.pointer (some ⟨b, 0, none⟩)] w fun e w' => e = .returned (.int .i64 (p : Nat)) ∧ w' = w := by
  go_enter Tryz.func339, Tryz.ntmps339
  go_wp2_with fail
  go_ret
  exact ⟨rfl, rfl⟩
theorem posReturn (hb : b < w.heap.size) (h0 : w.cell? ⟨b, 0, none⟩ = some (.int .i64 (p : Nat))) : Calls Tryz.prog 335 #[.pointer (some ⟨b, 0, none⟩)] w fun e w' => e = .returned (.int .i64 (p : Nat)) ∧ w' = w := by
  go_enter Tryz.func335, Tryz.ntmps335
  go_wp2_with fail
  go_ret
  exact ⟨rfl, rfl⟩
theorem posBreak (hb : b < w.heap.size) (h0 : w.cell? ⟨b, 0, none⟩ = some (.int .i64 (p : Nat))) : Calls Tryz.prog 337 #[.pointer (some ⟨b, 0, none⟩)] w fun e w' => e = .returned (.int .i64 (p : Nat)) ∧ w' = w := by
  go_enter Tryz.func337, Tryz.ntmps337
  go_wp2_with fail
  go_ret
  exact ⟨rfl, rfl⟩
theorem posLocalFn (hb : b < w.heap.size) (hc : c < w.heap.size) (h0 : w.cell? ⟨b, 0, none⟩ = some (.pointer (some ⟨c, 0, none⟩))) (h1 : w.cell? ⟨c, 0, none⟩ = some (.int .i64 (p : Nat))) : Calls Tryz.prog 353 #[.pointer (some ⟨b, 0, none⟩)] w fun e w' => e = .returned (.int .i64 (p : Nat)) ∧ w' = w := by
  go_enter Tryz.func353, Tryz.ntmps353
  go_wp2_with fail
  go_ret
  exact ⟨rfl, rfl⟩
theorem posCallStmt (hb : b < w.heap.size) (hc : c < w.heap.size) (h0 : w.cell? ⟨b, 0, none⟩ = some (.pointer (some ⟨c, 0, none⟩))) (h1 : w.cell? ⟨c, 0, none⟩ = some (.int .i64 (p : Nat))) : Calls Tryz.prog 343 #[.pointer (some ⟨b, 0, none⟩)] w fun e w' => e = .returned (.int .i64 (p : Nat)) ∧ w' = w := by
  go_enter Tryz.func343, Tryz.ntmps343
  go_wp2_with fail
  go_ret
  exact ⟨rfl, rfl⟩
theorem posFor (hb : b < w.heap.size) (hc : c < w.heap.size) (h0 : w.cell? ⟨b, 0, none⟩ = some (.pointer (some ⟨c, 0, none⟩))) (h1 : w.cell? ⟨c, 0, none⟩ = some (.int .i64 (p : Nat))) : Calls Tryz.prog 361 #[.pointer (some ⟨b, 0, none⟩)] w fun e w' => e = .returned (.int .i64 (p : Nat)) ∧ w' = w := by
  go_enter Tryz.func361, Tryz.ntmps361
  go_wp2_with fail
  go_ret
  exact ⟨rfl, rfl⟩
theorem posLocal {l q : Nat} (hb : b < w.heap.size) (hc : c < w.heap.size) (hd : d < w.heap.size) (hl : 1 ≤ l) (hq : l ≤ q) (h0 : w.cell? ⟨b, 0, none⟩ = some (.slice (some ⟨c, 0, none⟩) l q)) (h1 : w.cell? ⟨c, 0, none⟩ = some (.iface 296 (.pointer (some ⟨d, 0, none⟩)))) (h2 : w.cell? ⟨d, 0, none⟩ = some (.int .i64 (p : Nat))) : Calls Tryz.prog 355 #[.pointer (some ⟨b, 0, none⟩)] w fun e w' => e = .returned (.int .i64 (p : Nat)) ∧ w' = w := by
  have hl0 : 0 < l := hl
  go_enter Tryz.func355, Tryz.ntmps355
  go_wp2_with fail
  refine (posName hd h2).mono ?_
  rintro e w' ⟨rfl, rfl⟩
  go_wp2_with fail
  go_ret
  exact ⟨rfl, rfl⟩
theorem posForIn {l q : Nat} (hb : b < w.heap.size) (hc : c < w.heap.size) (hd : d < w.heap.size) (hl : 1 ≤ l) (hq : l ≤ q) (h0 : w.cell? ⟨b, 0, none⟩ = some (.slice (some ⟨c, 0, none⟩) l q)) (h1 : w.cell? ⟨c, 0, none⟩ = some (.iface 296 (.pointer (some ⟨d, 0, none⟩)))) (h2 : w.cell? ⟨d, 0, none⟩ = some (.int .i64 (p : Nat))) : Calls Tryz.prog 359 #[.pointer (some ⟨b, 0, none⟩)] w fun e w' => e = .returned (.int .i64 (p : Nat)) ∧ w' = w := by
  have hl0 : 0 < l := hl
  go_enter Tryz.func359, Tryz.ntmps359
  go_wp2_with fail
  refine (posName hd h2).mono ?_
  rintro e w' ⟨rfl, rfl⟩
  go_wp2_with fail
  go_ret
  exact ⟨rfl, rfl⟩
end
end Go.Proofs.Qxb6500574aGreatDoor
