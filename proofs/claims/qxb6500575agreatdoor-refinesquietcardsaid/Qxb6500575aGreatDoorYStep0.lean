/-
  runm.step: what its walks lean on. No walk.
-/
import Derived.Test.Qxb6500575aGreatDoorYSig
namespace Go.Proofs.Qxb6500575aGreatDoor
open Go Go.RowKit
set_option linter.unusedVariables false
set_option linter.unusedSimpArgs false

abbrev Ins.val (c : Ins) : Value := .agg #[.int .i64 c.op, .int .i64 c.imm, sv c.tab]
def MS.pd (m : MS) : MS := { m with x := m.x.pay.1 }
theorem pay_host (x : ND) : x.pay.1.host = x.host := by unfold ND.pay; split <;> rfl
theorem pay_st (x : ND) : x.pay.1.st = x.st := by unfold ND.pay; split <;> rfl
section
variable {R : MP} {H : HF HS} {m : MS} {w w' : World} {L L' : NL} {K : ML} {lv : Value} {loc : List V}
theorem HostOk.pay (h : HostOk R H m) : HostOk R H m.pd := by
  unfold HostOk MS.pd
  rw [pay_host]
  exact h
theorem HostOk.same (h : HostOk R H m) {m' : MS} (e : m'.x.host = m.x.host) : HostOk R H m' := by
  unfold HostOk
  rw [e]
  exact h
theorem payed (hW : MW R w L K m) (hu : 0 ≤ m.x.used) (hf : m.x.fuel ≤ 9223372036854775807) (hp : m.x.pay.2 = 0) : Calls Tryz.prog 145 #[.pointer (some ⟨R.bn, 0, none⟩)] w fun e w' => e = .returned (.int .i64 0) ∧ MW R w' L K m.pd ∧ NStep w w' R.bn L L := by
  refine (ypay_any hW.inst hu hf).mono ?_
  rintro e w1 ⟨rfl, h1, h2⟩
  exact ⟨by rw [hp], hW.stepN h1 h2, h2⟩
theorem unpaid (hW : MW R w L K m) (hu : 0 ≤ m.x.used) (hf : m.x.fuel ≤ 9223372036854775807) (hp : m.x.pay.2 ≠ 0) : Calls Tryz.prog 145 #[.pointer (some ⟨R.bn, 0, none⟩)] w fun e w' => e = .returned (.int .i64 17) ∧ MW R w' L K m.pd ∧ NStep w w' R.bn L L := by
  refine (ypay_any hW.inst hu hf).mono ?_
  rintro e w1 ⟨rfl, h1, h2⟩
  refine ⟨?_, hW.stepN h1 h2, h2⟩
  have : m.x.pay.2 = 17 := by
    unfold ND.pay at hp ⊢
    split
    · rename_i h; rw [if_pos h] at hp; simp at hp
    · rfl
  rw [this]
/-- a count is written -/
theorem NRep.setN {bn : Nat} {q : NF} {x : ND} (h : NRep w bn q L x) (k : Int) : NRep (w.setCell ⟨bn, 6, none⟩ (.int .i64 k)) bn q L { x with n := k } ∧ NStep w (w.setCell ⟨bn, 6, none⟩ (.int .i64 k)) bn L L := h.field 6 (.int .i64 k) rfl rfl
/-- a block that is not the instance's -/
theorem Has.stepN {bn b : Nat} {cs : Array Value} {t : TypeId} (hb : Has w b cs t) (h2 : NStep w w' bn L L') (hn : ¬ NS bn L b) : Has w' b cs t := hb.fr h2.fr hn
/-- everything that a step holds, at a world -/
structure StW (R : MP) (lv : Value) (loc : List V) (w0 w : World) (L0 L : NL) (K0 K : ML) (m : MS) (bx : Nat) (c : Ins) : Prop where
  mw : MW R w L K m
  loc : LocAt R w L lv loc
  box : Has w bx #[.int .i64 c.op, .int .i64 c.imm, sv c.tab] 67
  step : MStep R lv w0 w L0 L K0 K
  own : ¬ NS R.bn L bx ∧ ¬ MKS R.bm K bx ∧ lv.ownBlock ≠ some bx
section
variable {w0 w1 : World} {L0 : NL} {K0 K1 : ML} {bx : Nat} {c : Ins}
theorem StW.first (hW : MW R w L K m) (hL : LocAt R w L lv loc) (c : Ins) : StW R lv loc w (w.alloc (.cells #[.int .i64 c.op, .int .i64 c.imm, sv c.tab] 67)) L L K K m w.heap.size c := by
  have F := (Fr.refl (fun _ => False) w).alloc (.cells #[.int .i64 c.op, .int .i64 c.imm, sv c.tab] 67)
  refine ⟨hW.fresh F, hL.fresh F, Has.new _ _ _, MStep.fresh F, fun h => ?_, fun h => ?_, fun h => ?_⟩
  · have := hW.inst.lt h; omega
  · obtain ⟨cs, t, h1, _⟩ := hW.mem.typed _ h
    have := h1.lt; omega
  · have := owns_lt hL.own _ h; omega
theorem StW.stepN (h : StW R lv loc w0 w L0 L K0 K m bx c) {x' : ND} (h1 : NRep w1 R.bn R.q L' x') (h2 : NStep w w1 R.bn L L') : StW R lv loc w0 w1 L0 L' K0 K { m with x := x' } bx c :=
  { mw := h.mw.stepN h1 h2
    loc := h.loc.stepN h2
    box := h.box.fr h2.fr h.own.1
    step := h.step.trans (MStep.ofN h2)
    own := ⟨fun hS => h.own.1 (h2.sub bx h.box.lt hS), h.own.2⟩ }
theorem StW.stepK (h : StW R lv loc w0 w L0 L K0 K m bx c) {mem' : List UInt8} (h1 : MKRep w1 R.bm K1 mem' R.max) (h2 : MKStep w w1 R.bm K K1) : StW R lv loc w0 w1 L0 L K0 K1 { m with mem := mem' } bx c :=
  { mw := h.mw.stepK h1 h2
    loc := h.loc.stepK h.mw h2
    box := h.box.fr h2.fr h.own.2.1
    step := h.step.trans (MStep.ofK h2)
    own := ⟨h.own.1, fun hS => h.own.2.1 (h2.sub bx h.box.lt hS), h.own.2.2⟩ }
theorem StW.fresh (h : StW R lv loc w0 w L0 L K0 K m bx c) (hf : Fr (fun _ => False) w w1) : StW R lv loc w0 w1 L0 L K0 K m bx c :=
  { mw := h.mw.fresh hf
    loc := h.loc.fresh hf
    box := h.box.fr hf (fun h => h)
    step := h.step.trans (MStep.fresh hf)
    own := h.own }
/-- a block that is nobody's is written -/
theorem StW.aside (h : StW R lv loc w0 w L0 L K0 K m bx c) {b : Nat} (hb : w0.heap.size ≤ b) (hn : ¬ NS R.bn L b ∧ ¬ MKS R.bm K b ∧ lv.ownBlock ≠ some b ∧ bx ≠ b) (ht : ∃ cs, Has w b cs 70) (hf : Fr (fun k => k = b) w w1) : StW R lv loc w0 w1 L0 L K0 K m bx c :=
  { mw := { inst := h.mw.inst.fr hf (fun j hj e => hn.1 (e ▸ hj))
            prog := h.mw.prog.fr hf (fun k _ hk e => by
              subst e
              obtain ⟨cs, hcs⟩ := ht
              exact h.mw.prog.typed.has hcs (by decide) hk)
            src := h.mw.src.fr hf (fun k hk e => by
              subst e
              obtain ⟨cs, hcs⟩ := ht
              exact h.mw.src.typed.has hcs (by decide) hk)
            mem := h.mw.mem.fr hf (fun j hj e => hn.2.1 (e ▸ hj)) }
    loc := ⟨owns_fr h.loc.own hf (fun g hg e => hn.2.2.1 (e ▸ hg)), h.loc.ap⟩
    box := h.box.fr hf hn.2.2.2
    step := ⟨h.step.fr.trans hf (fun k hk e => by omega), h.step.subN, h.step.subK⟩
    own := h.own }
theorem StW.post (h : StW R lv loc w0 w L0 L K0 K m bx c) (hO : HostOk R H m) {br e : Int} (hbr : -9223372036854775808 ≤ br ∧ br < 9223372036854775808) : RunPost R H lv ⟨br, e, loc, m⟩ w0 L0 K0 (.returned (.tuple #[.int .i64 br, .int .i64 e])) w := ⟨L, K, rfl, hbr, hO, h.mw, h.loc, h.step⟩
end
end
end Go.Proofs.Qxb6500575aGreatDoor
