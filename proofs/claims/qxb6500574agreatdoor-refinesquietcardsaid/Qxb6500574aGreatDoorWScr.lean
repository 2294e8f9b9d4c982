/-
  A script ([]api.Op) that came in: its cells (VScript, turned to complaw).
-/
import Derived.Test.Qxb6500574aGreatDoorRows
import Derived.Test.Qxb6500574aGreatDoorWRu4
import Derived.ChangeSame
import Derived.ChangeVars
import Derived.JoinedOf
import Derived.RowKit
import Derived.RowKitTokens
import Derived.LaidLaws
import Derived.LaidHandle
import Derived.Stop.Joined
import Derived.ProofKit
import Derived.ChangeSlices
import Derived.Deep.Slices
import Derived.Deep.Strs
namespace Go.Proofs.Qxb6500574aGreatDoor
open Go Go.RowKit
set_option linter.unusedVariables false
set_option linter.unusedSimpArgs false
open Go.ChangeShapes Go.WideShapes Go.ChangeAt Go.RowKit Go.Deep

structure OpD where
  kind : Int
  a : Int
  b : Int
  c : Int
  s : Bs
  t : Bs
def Fit64 (n : Int) : Prop := -9223372036854775808 ≤ n ∧ n ≤ 9223372036854775807
/-- the script, where it lies -/
structure ScriptAt (w : World) (a : Option Addr) (n : Nat) (os : Nat → OpD) : Prop where
  fit : ∀ i, i < n → Fit64 (os i).a ∧ Fit64 (os i).b
  at_ : ∀ i, i < n → ∃ b o, a = some ⟨b, o, none⟩ ∧ b < w.heap.size ∧ w.cell? ⟨b, o + i * 6, none⟩ = some (.int .i64 (os i).kind) ∧ w.cell? ⟨b, o + i * 6 + 1, none⟩ = some (.int .i64 (os i).a) ∧ w.cell? ⟨b, o + i * 6 + 2, none⟩ = some (.int .i64 (os i).b) ∧ w.cell? ⟨b, o + i * 6 + 3, none⟩ = some (.int .i64 (os i).c) ∧ w.cell? ⟨b, o + i * 6 + 4, none⟩ = some (sv (os i).s) ∧ w.cell? ⟨b, o + i * 6 + 5, none⟩ = some (sv (os i).t)
theorem ScriptAt.fr {w w' : World} {a : Option Addr} {n : Nat} {os : Nat → OpD} (h : ScriptAt w a n os) (hf : Fr (fun _ => False) w w') : ScriptAt w' a n os := by
  refine ⟨h.fit, fun i hi => ?_⟩
  obtain ⟨b, o, ha, hb, h0, h1, h2, h3, h4, h5⟩ := h.at_ i hi
  have hs := hf.size
  refine ⟨b, o, ha, by omega, ?_, ?_, ?_, ?_, ?_, ?_⟩
  · rw [hf.cellB hb (fun h => h)]; exact h0
  · rw [hf.cellB hb (fun h => h)]; exact h1
  · rw [hf.cellB hb (fun h => h)]; exact h2
  · rw [hf.cellB hb (fun h => h)]; exact h3
  · rw [hf.cellB hb (fun h => h)]; exact h4
  · rw [hf.cellB hb (fun h => h)]; exact h5
theorem Fr.below2 {w w' : World} (h : Fr (fun _ => False) w w') : Below w.heap.size w w' := ⟨h.os, h.tape, h.output, h.size, fun k hk => h.block k hk (fun h => h)⟩
theorem ownKnobNone2 : ownKnob Tryz.prog.godebug = none := by kernel_rfl
theorem laidOut2 : laidOutB Tryz.prog = true := by kernel_rfl
theorem cellsOp : Tryz.prog.cellsOf 32 = 6 := by kernel_rfl
theorem wf64 {n : Int} (h : (Lit.int .i64 n).wf = true) : Fit64 n := by
  have hm : IntKind.i64.min = -9223372036854775808 := by decide
  simp [Lit.wf] at h
  rw [hm] at h
  exact ⟨h.1, by omega⟩

set_option maxRecDepth 100000 in
theorem opFields {H : Type} {enc : TypeId × Value → H} {W : World} {base n : Nat} {spare : Nat → Bool} {held : Bool} {cs : List Value} {x : DataW H × List MemPlace} (h : DataW.trod enc Tryz.prog W base spare held n 32 cs = some x) :
    ∃ o : OpD, cs = [.int .i64 o.kind, .int .i64 o.a, .int .i64 o.b, .int .i64 o.c, sv o.s, sv o.t] ∧ Fit64 o.a ∧ Fit64 o.b := by
  obtain ⟨xs, n', _, _, hl, hlen, hf⟩ := DataW.trod_struct Tryz.underlying32 h
  rw [cellsOp] at hl
  match cs, hl with
  | [c0, c1, c2, c3, c4, c5], _ =>
    have key : ∀ i : Nat, i < xs.length → ∃ y, xs[i]? = some y := fun i hi => ⟨_, List.getElem?_eq_getElem hi⟩
    have hx6 : xs.length = 6 := by simpa using hlen
    have c3' : Tryz.prog.cellsOf 3 = 1 := by kernel_rfl
    have c9' : Tryz.prog.cellsOf 9 = 1 := by kernel_rfl
    obtain ⟨y0, z0⟩ := key 0 (by omega)
    obtain ⟨y1, z1⟩ := key 1 (by omega)
    obtain ⟨y2, z2⟩ := key 2 (by omega)
    obtain ⟨y3, z3⟩ := key 3 (by omega)
    obtain ⟨y4, z4⟩ := key 4 (by omega)
    obtain ⟨y5, z5⟩ := key 5 (by omega)
    have f0 : DataW.trod enc Tryz.prog W base spare held n' 3 (([c0, c1, c2, c3, c4, c5].drop 0).take (Tryz.prog.cellsOf 3)) = some y0 := (hf 0 _ rfl).trans z0
    have f1 : DataW.trod enc Tryz.prog W base spare held n' 3 (([c0, c1, c2, c3, c4, c5].drop 1).take (Tryz.prog.cellsOf 3)) = some y1 := (hf 1 _ rfl).trans z1
    have f2 : DataW.trod enc Tryz.prog W base spare held n' 3 (([c0, c1, c2, c3, c4, c5].drop 2).take (Tryz.prog.cellsOf 3)) = some y2 := (hf 2 _ rfl).trans z2
    have f3 : DataW.trod enc Tryz.prog W base spare held n' 3 (([c0, c1, c2, c3, c4, c5].drop 3).take (Tryz.prog.cellsOf 3)) = some y3 := (hf 3 _ rfl).trans z3
    have f4 : DataW.trod enc Tryz.prog W base spare held n' 9 (([c0, c1, c2, c3, c4, c5].drop 4).take (Tryz.prog.cellsOf 9)) = some y4 := (hf 4 _ rfl).trans z4
    have f5 : DataW.trod enc Tryz.prog W base spare held n' 9 (([c0, c1, c2, c3, c4, c5].drop 5).take (Tryz.prog.cellsOf 9)) = some y5 := (hf 5 _ rfl).trans z5
    rw [c3'] at f0 f1 f2 f3
    rw [c9'] at f4 f5
    obtain ⟨i0, e0, _, _⟩ := DataW.trod_int Tryz.underlying3 f0
    obtain ⟨i1, e1, _, r1⟩ := DataW.trod_int Tryz.underlying3 f1
    obtain ⟨i2, e2, _, r2⟩ := DataW.trod_int Tryz.underlying3 f2
    obtain ⟨i3, e3, _, _⟩ := DataW.trod_int Tryz.underlying3 f3
    obtain ⟨t4, e4, _, _⟩ := DataW.trod_string Tryz.underlying9 f4
    obtain ⟨t5, e5, _, _⟩ := DataW.trod_string Tryz.underlying9 f5
    simp at e0 e1 e2 e3 e4 e5
    subst e0; subst e1; subst e2; subst e3; subst e4; subst e5
    exact ⟨⟨i0, i1, i2, i3, t4.data.toList, t5.data.toList⟩, by simp, wf64 r1, wf64 r2⟩

theorem script_open {H : Type} {enc : TypeId × Value → H} {W : World} {a0 : Option Addr} {len cap : Nat} {d : DataW H} {pl : List MemPlace} (h : DataW.Trod enc Tryz.prog W 0 (fun _ => true) true 22 (.slice a0 len cap) d pl) : ∃ os, ScriptAt W a0 len os := by
  obtain ⟨fuel, hf⟩ := h
  rcases open_slice Tryz.underlying22 hf with ⟨hcs, hx⟩ | ⟨a, len', cap', m, n, D, Pl, hcs, _, hl, hm, hmm, hx, hel⟩
  · simp [Value.cells] at hcs
    obtain ⟨rfl, rfl, rfl⟩ := hcs
    exact ⟨fun _ => ⟨0, 0, 0, 0, [], []⟩, ⟨fun i hi => by omega, fun i hi => by omega⟩⟩
  · simp [Value.cells] at hcs
    obtain ⟨rfl, rfl, rfl⟩ := hcs
    simp only [if_true] at hmm
    subst hmm
    rw [cellsOp] at hel
    obtain ⟨b, off, spot⟩ := a
    have hspot : 0 < len → spot = none := by
      intro h0
      obtain ⟨cs', hc, ht⟩ := hel 0 (by omega)
      obtain ⟨o, rfl, _⟩ := opFields ht
      obtain ⟨_, _, hcell⟩ := World.cells?_some hc
      have k0 := hcell 0 (by simp)
      simpa [Addr.add] using World.cell?_spot k0
    have step : ∀ i, i < len → ∃ o : OpD, (Fit64 o.a ∧ Fit64 o.b) ∧ spot = none ∧ b < W.heap.size ∧ W.cell? ⟨b, off + i * 6, none⟩ = some (.int .i64 o.kind) ∧ W.cell? ⟨b, off + i * 6 + 1, none⟩ = some (.int .i64 o.a) ∧ W.cell? ⟨b, off + i * 6 + 2, none⟩ = some (.int .i64 o.b) ∧ W.cell? ⟨b, off + i * 6 + 3, none⟩ = some (.int .i64 o.c) ∧ W.cell? ⟨b, off + i * 6 + 4, none⟩ = some (sv o.s) ∧ W.cell? ⟨b, off + i * 6 + 5, none⟩ = some (sv o.t) := by
      intro i hi
      obtain rfl := hspot (by omega)
      obtain ⟨cs', hc, ht⟩ := hel i (by omega)
      obtain ⟨o, rfl, ho⟩ := opFields ht
      obtain ⟨_, _, hcell⟩ := World.cells?_some hc
      have k0 := hcell 0 (by simp)
      have k1 := hcell 1 (by simp)
      have k2 := hcell 2 (by simp)
      have k3 := hcell 3 (by simp)
      have k4 := hcell 4 (by simp)
      have k5 := hcell 5 (by simp)
      have hadd : ∀ k, ((⟨b, off, none⟩ : Addr).add (i * 6)).add k = ⟨b, off + i * 6 + k, none⟩ := by
        intro k
        rw [add_add]
        unfold Addr.add
        split
        · rename_i h0; simp at h0 ⊢; try omega
        · simp; try omega
      rw [hadd] at k0 k1 k2 k3 k4 k5
      have hb : b < W.heap.size := by
        rcases Nat.lt_or_ge b W.heap.size with h | h
        · exact h
        · simp [World.cell?, Array.getElem?_eq_none h] at k0
      exact ⟨o, ho, rfl, hb, by simpa using k0, by simpa using k1, by simpa using k2, by simpa using k3, by simpa using k4, by simpa using k5⟩
    obtain ⟨os, hos⟩ := @choose_lt OpD ⟨⟨0, 0, 0, 0, [], []⟩⟩ len _ step
    refine ⟨os, ⟨fun i hi => (hos i hi).1, fun i hi => ?_⟩⟩
    obtain ⟨_, ha, rest⟩ := hos i hi
    exact ⟨b, off, by rw [ha], rest⟩
end Go.Proofs.Qxb6500574aGreatDoor
