/-
  RESULTS THAT LIE IN CELLS: how a function's ending reads them. No walk.
-/
import Derived.Test.Qxb6500574aGreatDoorVTh
namespace Go.Proofs.Qxb6500574aGreatDoor
open Go Go.RowKit
set_option linter.unusedVariables false
set_option linter.unusedSimpArgs false

/-- a struct type of the program, and how many cells it has -/
structure IsStr (T : TypeId) (n : Nat) : Prop where
  s : (match Tryz.prog.underlying T with | some (.struct _) => true | _ => false) = true
  n : (Tryz.prog.info? T).map (·.size) = some n
theorem IsStr.load {T n : Nat} (h : IsStr T n) {w : World} {b : Nat} {cs : Array Value} (hb : Has w b cs T) (hn : cs.size = n) : (loadVar T ⟨b, 0, none⟩).run Tryz.prog w = .ok (.agg cs) w := by
  have hs := h.s
  split at hs
  · rename_i fs he
    exact run_loadVar_row w b T T cs _ _ hb he rfl (by rw [hn]; exact h.n)
  · cases hs
theorem isVal : IsStr 68 3 := ⟨by kernel_rfl, by kernel_rfl⟩
theorem isEvent : IsStr 190 9 := ⟨by kernel_rfl, by kernel_rfl⟩
theorem isAns : IsStr 54 5 := ⟨by kernel_rfl, by kernel_rfl⟩
section
variable {fn : Func} {p q r : Tmp} {T T2 n n2 : Nat} {tmps : Array Value} {w : World} {b b2 : Nat} {cs cs2 : Array Value}
theorem res_cell (hT : IsStr T n) (h : fn.results = #[.cell p T]) (hp : tmps.getD p undef = .pointer (some ⟨b, 0, none⟩)) (hb : Has w b cs T) (hn : cs.size = n) : (results fn tmps).run Tryz.prog w = .ok (.agg cs) w := by
  simp only [results, h]
  have hp' : tmps[p]?.getD undef = .pointer (some ⟨b, 0, none⟩) := by simpa using hp
  simp [Sem.run_bind, Result.andThen, hp', asAddr, hT.load hb hn]
theorem res_cell2 (hT : IsStr T n) (hT2 : IsStr T2 n2) (h : fn.results = #[.cell p T, .cell q T2]) (hp : tmps.getD p undef = .pointer (some ⟨b, 0, none⟩)) (hb : Has w b cs T) (hn : cs.size = n) (hq : tmps.getD q undef = .pointer (some ⟨b2, 0, none⟩)) (hb2 : Has w b2 cs2 T2) (hn2 : cs2.size = n2) : (results fn tmps).run Tryz.prog w = .ok (.tuple #[.agg cs, .agg cs2]) w := by
  simp only [results, h]
  have hp' : tmps[p]?.getD undef = .pointer (some ⟨b, 0, none⟩) := by simpa using hp
  have hq' : tmps[q]?.getD undef = .pointer (some ⟨b2, 0, none⟩) := by simpa using hq
  simp [Sem.run_bind, Result.andThen, hp', hq', asAddr, hT.load hb hn, hT2.load hb2 hn2]
theorem res_cell_tmp (hT : IsStr T n) (h : fn.results = #[.cell p T, .tmp q]) (hp : tmps.getD p undef = .pointer (some ⟨b, 0, none⟩)) (hb : Has w b cs T) (hn : cs.size = n) : (results fn tmps).run Tryz.prog w = .ok (.tuple #[.agg cs, tmps.getD q undef]) w := by
  simp only [results, h]
  have hp' : tmps[p]?.getD undef = .pointer (some ⟨b, 0, none⟩) := by simpa using hp
  simp [Sem.run_bind, Result.andThen, hp', asAddr, hT.load hb hn]
end
theorem Has.newC (w : World) (cs : Array Value) (T : TypeId) {b : Nat} (hb : b = w.heap.size) : Has (w.alloc (.cells cs T)) b cs T := by
  subst hb
  exact Has.new w cs T
theorem VRep.zero {w w1 : World} {A : VL} {m : VMD} {f e : Nat} (h : VRep w A m f e) (t : Stp (fun l => l = 0) w A.o w1 A.o) : VRep w1 A m f e := by
  obtain ⟨k, hk, ht⟩ := h.tabs
  exact ⟨h.core.st t (fun l hl x => by rcases hl with hl | hl | hl <;> omega), h.ths.st t (by have := h.lenX; have := h.len5; simp; omega) (fun l hl x => by rcases hl with hl | hl <;> omega), h.lenX, h.len5, h.num.st t (by omega) (by omega), ⟨k, hk, ht.st t (fun l hl x => by rcases hl with hl | hl | hl <;> omega)⟩, t.hi h.own⟩
theorem Fr.cell {w w' : World} (h : Fr (fun _ => False) w w') {b : Nat} {i : Nat} {v : Value} (hc : w.cell? ⟨b, i, none⟩ = some v) : w'.cell? ⟨b, i, none⟩ = some v := by
  have hb : b < w.heap.size := by
    rcases Nat.lt_or_ge b w.heap.size with h | h
    · exact h
    · simp [World.cell?, Array.getElem?_eq_none h] at hc
  have := h.block b hb (fun x => x)
  simp only [World.cell?] at hc ⊢
  rw [this]
  exact hc
theorem Has.cells3 {w : World} {b : Nat} {v : Vl} {T : TypeId} (h : Has w b #[.int .i64 v.t, .int .u64 v.n, sv v.s] T) : w.cell? ⟨b, 0, none⟩ = some (.int .i64 v.t) ∧ w.cell? ⟨b, 1, none⟩ = some (.int .u64 v.n) ∧ w.cell? ⟨b, 2, none⟩ = some (sv v.s) := ⟨by rw [h.cell]; rfl, by rw [h.cell]; rfl, by rw [h.cell]; rfl⟩
theorem Has.frz3 {w : World} {b : Nat} {cs : Array Value} {T : TypeId} (h : Has w b cs T) : w.frozen? ⟨b, 0, none⟩ = false ∧ w.frozen? ⟨b, 1, none⟩ = false ∧ w.frozen? ⟨b, 2, none⟩ = false := ⟨h.frozen _, h.frozen _, h.frozen _⟩
theorem Has.put3 {w : World} {b : Nat} {a0 a1 a2 : Value} {T : TypeId} (h : Has w b #[a0, a1, a2] T) (b0 b1 b2 : Value) : Has (((w.setCell ⟨b, 0, none⟩ b0).setCell ⟨b, 1, none⟩ b1).setCell ⟨b, 2, none⟩ b2) b #[b0, b1, b2] T := ((h.put 0 b0).put 1 b1).put 2 b2
theorem Fr.frz {w w' : World} (h : Fr (fun _ => False) w w') {b : Nat} (hb : b < w.heap.size) (i : Nat) : w'.frozen? ⟨b, i, none⟩ = w.frozen? ⟨b, i, none⟩ := by
  simp only [World.frozen?]
  rw [h.block b hb (fun x => x)]
end Go.Proofs.Qxb6500574aGreatDoor
