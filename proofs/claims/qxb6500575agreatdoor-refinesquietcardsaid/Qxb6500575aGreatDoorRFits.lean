/-
  THE WALKS of run: fits, out.
-/
import Derived.Test.Qxb6500575aGreatDoorRVals
import Derived.Test.Qxb6500575aGreatDoorRPop
import Derived.Test.Qxb6500575aGreatDoorAt
namespace Go.Proofs.Qxb6500575aGreatDoor
open Go Go.RowKit
set_option linter.unusedVariables false
set_option linter.unusedSimpArgs false

/-- is it a value of the declared type? -/
def fitsB (b : BV) (t : UInt8) : Bool := b.t == t && (t == 108 || b.v == wrap32 b.v)
theorem fits_word {b : BV} {t : UInt8} (ht : t = 105 ∨ t = 108) (h : fitsB b t = true) (hv : -9223372036854775808 ≤ b.v ∧ b.v < 9223372036854775808) : (word b.t b.v).ty = t ∧ (word b.t b.v).Fits ∧ (word b.t b.v).num = b.v := by
  simp [fitsB] at h
  obtain ⟨rfl, h2⟩ := h
  rcases ht with h1 | h1
  · rw [h1] at h2 ⊢
    simp at h2
    unfold word
    rw [if_pos rfl]
    refine ⟨rfl, ?_, h2.symm⟩
    unfold V.Fits
    simp only
    unfold wrap32
    omega
  · rw [h1]
    unfold word
    rw [if_neg (by decide)]
    exact ⟨rfl, hv, rfl⟩
set_option maxRecDepth 100000
set_option maxHeartbeats 400000
theorem fits_any (b : BV) (t : UInt8) (w : World) : Calls Tryz.prog 62 #[.agg #[.int .u8 b.t.toNat, .int .i64 b.v], .int .u8 t.toNat] w fun e w' => e = .returned (.bool (fitsB b t)) ∧ Fr (fun _ => False) w w' := by
  obtain ⟨bt, bv⟩ := b
  simp only
  by_cases h1 : bt = t
  · subst h1
    by_cases h2 : bt = 108
    · subst h2
      go_enter Tryz.func62, Tryz.ntmps62
      go_wp2
      go_ret
      exact ⟨by simp [fitsB], (Fr.refl _ _).alloc _⟩
    · have n2 : ((bt.toNat : Int) == 108) = false := by
        have h3 : bt.toNat ≠ (108 : UInt8).toNat := fun e => h2 (UInt8.toNat_inj.1 e)
        exact beq_eq_false_iff_ne.2 (by simp at h3; omega)
      have n2' : (bt == 108) = false := beq_eq_false_iff_ne.2 h2
      go_enter Tryz.func62, Tryz.ntmps62
      go_wp2
      all_goals
        go_ret
        refine ⟨?_, (Fr.refl _ _).alloc _⟩
        simp [fitsB, n2', wrap64, wrap32]
      congr 1
      omega
  · have n1 : ((bt.toNat : Int) == (t.toNat : Int)) = false := by
      have h3 : bt.toNat ≠ t.toNat := fun e => h1 (UInt8.toNat_inj.1 e)
      exact beq_eq_false_iff_ne.2 (by omega)
    have n1' : (bt == t) = false := beq_eq_false_iff_ne.2 h1
    go_enter Tryz.func62, Tryz.ntmps62
    go_wp2
    all_goals
      go_ret
      refine ⟨?_, (Fr.refl _ _).alloc _⟩
      simp [fitsB, n1']
theorem out_res (tmps : Array Value) (w : World) (b : Nat) (x y : Value) (hp : tmps.getD 2 undef = .pointer (some ⟨b, 0, none⟩)) (hb : Has w b #[x, y] 70) :
    (results Tryz.f66 tmps).run Tryz.prog w = .ok (.agg #[x, y]) w := by
  obtain ⟨fs, hu⟩ : ∃ fs, Tryz.prog.underlying 70 = some (.struct fs) := by
    have hk : (match Tryz.prog.underlying 70 with | some (.struct _) => true | _ => false) = true := by kernel_rfl
    split at hk
    · rename_i fs he
      exact ⟨fs, he⟩
    · cases hk
  exact results_cell_row (p := 2) (ty := 70) rfl tmps w b 70 #[x, y] _ _ hp hb hu rfl (by kernel_rfl)
theorem isnt32 (v : Value) (xT : TypeId) (w : World) : (Instr.typeAssert (.iface 209 v) xT 208 true).run Tryz.prog w = .ok (.tuple #[.int .i32 0, .bool false]) w := by kernel_rfl
/-- a value as it leaves -/
def V.bv (v : V) : BV := ⟨v.ty, v.num⟩
theorem out_any (v : V) (hv : v.Fits) (w : World) : Calls Tryz.prog 66 #[v.val] w fun e w' => e = .returned (.agg #[.int .u8 v.ty.toNat, .int .i64 v.num]) ∧ Fr (fun _ => False) w w' := by
  cases v using V.on with
  | w n =>
    have a1 := is32
    unfold V.Fits at hv
    simp only [V.val, V.ty, V.num]
    go_enter Tryz.func66, Tryz.ntmps66
    go_wp2
    (try simp only [Exit.inBlock, Exit.then])
    refine bodyPost_ret (out_res _ _ w.heap.size _ _ rfl (Has.new _ _ _)) rfl ?_
    exact ⟨rfl, (Fr.refl _ _).alloc _⟩
  | d n =>
    have a1 := isnt32
    have a2 := is64
    unfold V.Fits at hv
    simp only [V.val, V.ty, V.num]
    go_enter Tryz.func66, Tryz.ntmps66
    go_wp2
    (try simp only [Exit.inBlock, Exit.then])
    refine bodyPost_ret (out_res _ _ w.heap.size _ _ rfl (Has.new _ _ _)) rfl ?_
    exact ⟨rfl, (Fr.refl _ _).alloc _⟩
end Go.Proofs.Qxb6500575aGreatDoor
