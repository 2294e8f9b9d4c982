/-
  THE MODEL's MEMORY (machm): how it lies; Size, width, place, Load, exact.
-/
import Derived.Test.Qxb6500575aGreatDoorXLoad
import Derived.Test.Qxb6500575aGreatDoorXBin
import Derived.Test.Qxb6500575aGreatDoorSwap
namespace Go.Proofs.Qxb6500575aGreatDoor
open Go Go.RowKit
set_option linter.unusedVariables false
set_option linter.unusedSimpArgs false

structure ML where
  ma : Option Addr
  mc : Nat
structure MKRep (w : World) (bm : Nat) (L : ML) (mem : List UInt8) (max : Nat) : Prop where
  here : Has w bm #[.slice L.ma mem.length L.mc, .int .i64 max] 146
  row : w.ownsRow 0 5 1 (.slice L.ma mem.length L.mc) mem.length (byteCells mem)
  le : mem.length ≤ max * 8
  max : max ≤ 4
def MKS (bm : Nat) (L : ML) (k : Nat) : Prop := k = bm ∨ (Value.slice L.ma 0 0).ownBlock = some k
structure MKStep (w w' : World) (bm : Nat) (L L' : ML) : Prop where
  fr : Fr (MKS bm L) w w'
  sub : ∀ k, k < w.heap.size → MKS bm L' k → MKS bm L k
theorem MKStep.refl (w : World) (bm : Nat) (L : ML) : MKStep w w bm L L := ⟨Fr.refl _ _, fun _ _ h => h⟩
theorem MKStep.trans {w w1 w2 : World} {bm : Nat} {L L1 L2 : ML} (h : MKStep w w1 bm L L1) (h' : MKStep w1 w2 bm L1 L2) : MKStep w w2 bm L L2 :=
  ⟨h.fr.trans h'.fr h.sub, fun k hk hS => h.sub k hk (h'.sub k (Nat.lt_of_lt_of_le hk h.fr.size) hS)⟩
theorem MKStep.fresh {w w1 : World} {bm : Nat} {L : ML} (h : Fr (fun _ => False) w w1) : MKStep w w1 bm L L := ⟨h.weaken (fun _ _ h => h.elim), fun _ _ h => h⟩
section
variable {w w2 : World} {bm : Nat} {L : ML} {mem : List UInt8} {max : Nat}
theorem MKRep.fr (h : MKRep w bm L mem max) {S : Nat → Prop} (hf : Fr S w w2) (hS : ∀ j, MKS bm L j → ¬ S j) : MKRep w2 bm L mem max :=
  { h with
    here := h.here.fr hf (hS _ (.inl rfl))
    row := owns_fr h.row hf (fun g hg => hS g (.inr (by rw [ownBlock_any]; exact hg))) }
theorem MKRep.fresh (h : MKRep w bm L mem max) (hf : Fr (fun _ => False) w w2) : MKRep w2 bm L mem max := h.fr hf (fun _ _ h => h)
theorem MKRep.lt (h : MKRep w bm L mem max) {k : Nat} (hk : MKS bm L k) : k < w.heap.size := by
  rcases hk with rfl | hk
  · exact h.here.lt
  · exact owns_lt h.row k (by rw [ownBlock_any]; exact hk)
theorem MKRep.at_ (h : MKRep w bm L mem max) {i : Nat} (hi : i < mem.length) : ∃ b g, mem[i]? = some b ∧ L.ma = some ⟨g, 0, none⟩ ∧ w.cell? ⟨g, i, none⟩ = some (.int .u8 b.toNat) ∧ (∀ j, w.frozen? ⟨g, j, none⟩ = false) ∧ g < w.heap.size ∧ mem.length ≤ L.mc ∧ bm ≠ g := by
  obtain ⟨g, ha, hc⟩ := owns_some h.row (by omega)
  have ho := h.row
  rw [ha] at ho
  refine ⟨mem[i], g, List.getElem?_eq_getElem hi, ha, ?_, fun j => ho.frozenAt j, owns_lt ho g rfl, ?_, fun e => owns_ne ho h.here (by decide) (by rw [e]; rfl)⟩
  · rw [hc i (by omega), byteCells, List.getElem?_map, List.getElem?_eq_getElem hi]; rfl
  · rcases owns_form h.row with ⟨h1, h2, _⟩ | ⟨_, _, h1⟩
    · omega
    · exact h1
/-- one byte is written -/
theorem MKRep.put (h : MKRep w bm L mem max) {g : Nat} (ha : L.ma = some ⟨g, 0, none⟩) (i : Nat) (b : UInt8) : MKRep (w.setCell ⟨g, i, none⟩ (.int .u8 b.toNat)) bm L (mem.set i b) max ∧ MKStep w (w.setCell ⟨g, i, none⟩ (.int .u8 b.toNat)) bm L L := by
  have hF : Fr (fun k => k = g) w (w.setCell ⟨g, i, none⟩ (.int .u8 b.toNat)) := Fr.setCell (S := fun k => k = g) (Fr.refl _ _) (p := ⟨g, i, none⟩) (.inl rfl) _
  have ho := h.row
  rw [ha] at ho
  have hne : bm ≠ g := fun e => owns_ne ho h.here (by decide) (by rw [e]; rfl)
  refine ⟨⟨?_, ?_, by simpa using h.le, h.max⟩, hF.weaken (fun k _ e => .inr (by rw [ha, e]; rfl)), fun _ _ h => h⟩
  · have := h.here.fr hF (fun e => hne e)
    simpa using this
  · have := (ho.stored i (.int .u8 b.toNat)).1
    rw [ha]
    simpa [byteCells, List.map_set] using this
set_option maxRecDepth 100000
set_option maxHeartbeats 400000
theorem msize_any (h : MKRep w bm L mem max) : Calls Tryz.prog 148 #[.pointer (some ⟨bm, 0, none⟩)] w fun e w' => e = .returned (.int .i64 (mem.length / 8 : Nat)) ∧ w' = w := by
  have c0 := h.here.cell 0
  simp at c0
  have hl : mem.length ≤ 32 := by have := h.le; have := h.max; omega
  have hq : wrap64 ((mem.length : Int).tdiv 8) = ((mem.length / 8 : Nat) : Int) := by
    rw [Int.tdiv_eq_ediv_of_nonneg (by omega)]
    unfold wrap64
    omega
  clear h
  generalize mem.length = n at *
  go_enter Tryz.func148, Tryz.ntmps148
  go_wp2
  go_ret
  refine ⟨?_, rfl⟩
  first | rfl | simp
theorem mwidth_any (op : Int) (h1 : 19 ≤ op) (h2 : op ≤ 28) (w : World) : Calls Tryz.prog 155 #[.int .i64 op] w fun e w' => e = .returned (.int .i64 (width op : Nat)) ∧ w' = w := by
  have h : op = 19 ∨ op = 20 ∨ op = 21 ∨ op = 22 ∨ op = 23 ∨ op = 24 ∨ op = 25 ∨ op = 26 ∨ op = 27 ∨ op = 28 := by omega
  rcases h with rfl | rfl | rfl | rfl | rfl | rfl | rfl | rfl | rfl | rfl
  all_goals
    go_enter Tryz.func155, Tryz.ntmps155
    go_wp2
    go_ret
    exact ⟨rfl, rfl⟩
def placeV (o : Option Nat) : Int := match o with | none => -1 | some ea => ea
theorem mplace_any (h : MKRep w bm L mem max) (a off : Int) (wd : Nat) (h8 : wd ≤ 8) : Calls Tryz.prog 156 #[.pointer (some ⟨bm, 0, none⟩), .int .i64 a, .int .i64 off, .int .i64 wd] w fun e w' => e = .returned (.int .i64 (placeV (placeP mem.length a off wd))) ∧ w' = w := by
  have c0 := h.here.cell 0
  simp at c0
  have hl : mem.length ≤ 32 := by have := h.le; have := h.max; omega
  obtain ⟨m, hm⟩ : ∃ m : Nat, bits .and .i64 a 4294967295 = m := ⟨(bits .and .i64 a 4294967295).toNat, by have := and32 a; omega⟩
  have HM : Hid (a % 4294967296 = m) := by show _ = _; rw [← hm, andiU]
  have hml : m ≤ 4294967295 := by have := and32 a; omega
  obtain ⟨r, HR⟩ : ∃ r, Hid (r = placeV (placeP mem.length a off wd)) := ⟨_, rfl⟩
  rw [← HR.out]
  clear h
  generalize mem.length = n at *
  by_cases o1 : off < 0
  · have hr : r = -1 := by rw [HR.out]; unfold placeP; rw [if_pos (.inl o1)]; rfl
    subst hr
    go_enter Tryz.func156, Tryz.ntmps156
    go_wp2
    go_ret
    exact ⟨rfl, rfl⟩
  · by_cases o2 : 4294967295 < off
    · have hr : r = -1 := by rw [HR.out]; unfold placeP; rw [if_pos (.inr (.inl o2))]; rfl
      subst hr
      go_enter Tryz.func156, Tryz.ntmps156
      go_wp2
      go_ret
      exact ⟨rfl, rfl⟩
    · obtain ⟨f, rfl⟩ : ∃ f : Nat, off = f := ⟨off.toNat, by omega⟩
      by_cases hin : (m : Int) + f + wd ≤ n
      · have hr : r = (m : Int) + f := by
          rw [HR.out]; unfold placeP; rw [HM.out, if_neg (by omega)]
          show (((m : Int) + f).toNat : Int) = _
          omega
        subst hr
        go_enter Tryz.func156, Tryz.ntmps156
        go_wp2
        go_ret
        exact ⟨rfl, rfl⟩
      · have hr : r = -1 := by rw [HR.out]; unfold placeP; rw [HM.out, if_pos (by omega)]; rfl
        subst hr
        go_enter Tryz.func156, Tryz.ntmps156
        go_wp2
        go_ret
        exact ⟨rfl, rfl⟩
end
end Go.Proofs.Qxb6500575aGreatDoor
