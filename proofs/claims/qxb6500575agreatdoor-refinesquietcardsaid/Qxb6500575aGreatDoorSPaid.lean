/-
  ONE ROUND of run.loop: whatever the opcode. Written by tools/gen_round.py.
-/
import Derived.Test.Qxb6500575aGreatDoorSHead3
import Derived.Test.Qxb6500575aGreatDoorSLoopA
import Derived.Test.Qxb6500575aGreatDoorSLoopB
import Derived.Test.Qxb6500575aGreatDoorSLoopC
import Derived.Test.Qxb6500575aGreatDoorSLoopD
import Derived.Test.Qxb6500575aGreatDoorSLoopE
import Derived.Test.Qxb6500575aGreatDoorSLoopF
import Derived.Test.Qxb6500575aGreatDoorSLoopG
import Derived.Test.Qxb6500575aGreatDoorSLoopH
import Derived.Test.Qxb6500575aGreatDoorSLoopI
import Derived.Test.Qxb6500575aGreatDoorSLoopJ
import Derived.Test.Qxb6500575aGreatDoorSLoopK
import Derived.Test.Qxb6500575aGreatDoorSLoopL
namespace Go.Proofs.Qxb6500575aGreatDoor
open Go Go.RowKit
set_option linter.unusedVariables false
set_option linter.unusedSimpArgs false

section
variable {σ τ : Type} {G : Gh σ τ} {H : HF τ} {R : RP σ} {T : Nat → Typing} {w : World} {L : InL} {K : KL} {x : InD} {n : Int} {d : KD} {s : σ} {r : Frm} {rs : List Frm} {fn : Nat} {v : FunD} {c : List Flat} {pc : Nat} {ρ : List UInt8} {ops loc low : List V} {i : Flat} {bf gf : Nat} {fuel : Int} {h : Value} {D : World → Prop} {Q : Exit → Act → World → Prop}
/-- an instruction that is paid for: a return aside -/
theorem sw_paid (m : Mid G H R T w L K x n d s r rs fn v c pc ρ ops loc low i bf gf) (mc : MachX) (ac : AskX G.sem H R h) (hwf : (V.d i.imm).Fits) (h4 : i.op ≠ 4) (h5 : i.op ≠ 5) (h9 : i.op ≠ 9) (o : Outs R fuel h (Nx G R T x) D (Tp G R x) Q) {a : Act} (ha : Fr65 R fuel h a) (h6 : a.tmps[6]? = some (.pointer (some ⟨gf, rs.length * 5, none⟩))) (h7 : a.tmps[7]? = some (.pointer (some ⟨bf, 0, none⟩))) :
    (codeR (codeR (codeR (codeR (roundOf Tryz.f65.body))))).wp Tryz.prog Q a w := by
  obtain ⟨u, rfl⟩ := ha.form67 h6 h7
  by_cases o0 : i.op = 0
  · exact sw_unreachable m o0 o u
  by_cases o3 : i.op = 3
  · exact sw_if m o3 o u
  by_cases o6 : i.op = 6
  · exact sw_br m o6 o u
  by_cases o7 : i.op = 7
  · exact sw_brif m o7 o u
  by_cases o8 : i.op = 8
  · exact sw_brtable m o8 o u
  by_cases o11 : i.op = 11
  · exact sw_drop m o11 o u
  by_cases o12 : i.op = 12
  · exact sw_select m o12 o u
  by_cases o13 : i.op = 13
  · exact sw_get m o13 o u
  by_cases o14 : i.op = 14
  · exact sw_set m o14 o u
  by_cases o15 : i.op = 15
  · exact sw_memsize m o15 o u
  by_cases o16 : i.op = 16
  · exact sw_memgrow m o16 mc o u
  by_cases o17 : i.op = 17
  · exact sw_const32 m o17 o u
  by_cases o18 : i.op = 18
  · exact sw_const64 m o18 hwf o u
  by_cases o19 : i.op = 19
  · exact sw_load19 m o19 mc o u
  by_cases o20 : i.op = 20
  · exact sw_load20 m o20 mc o u
  by_cases o21 : i.op = 21
  · exact sw_load21 m o21 mc o u
  by_cases o22 : i.op = 22
  · exact sw_load22 m o22 mc o u
  by_cases o23 : i.op = 23
  · exact sw_load23 m o23 mc o u
  by_cases o24 : i.op = 24
  · exact sw_load24 m o24 mc o u
  by_cases o25 : i.op = 25
  · exact sw_store25 m o25 mc o u
  by_cases o26 : i.op = 26
  · exact sw_store26 m o26 mc o u
  by_cases o27 : i.op = 27
  · exact sw_store27 m o27 mc o u
  by_cases o28 : i.op = 28
  · exact sw_store28 m o28 mc o u
  by_cases o29 : i.op = 29
  · exact sw_alu_eqz32 m o29 mc o u
  by_cases o30 : i.op = 30
  · exact sw_alu_eqz64 m o30 mc o u
  by_cases o31 : i.op = 31
  · exact sw_alu_wrap m o31 mc o u
  by_cases o32 : i.op = 32
  · exact sw_alu_extS m o32 mc o u
  by_cases o33 : i.op = 33
  · exact sw_alu_extU m o33 mc o u
  by_cases o10 : i.op = 10
  · exact sw_call m o10 ac o u
  have hp := (m.ins.plain (by
    have : ¬ (i.op < 0 ∨ i.op = 1 ∨ i.op = 2 ∨ 15 ≤ i.op) → False := fun hn => by omega
    exact Classical.byContradiction this)).1
  by_cases q1 : 40 ≤ i.op ∧ i.op < 56
  · exact sw_alu_bin32 m rfl q1 mc o u
  by_cases q2 : 60 ≤ i.op ∧ i.op < 73
  · exact sw_alu_bin64 m rfl q2 mc o u
  by_cases q3 : 73 ≤ i.op ∧ i.op < 76
  · exact sw_alu_cmp64 m rfl q3 mc o u
  exfalso
  unfold sigsP at hp
  rw [if_neg (by omega), if_neg (by omega), if_neg (by omega), if_neg (by omega), if_neg (by omega), if_neg (by omega), if_neg (by omega), if_neg (by omega), if_neg (by omega)] at hp
  cases hp
end
end Go.Proofs.Qxb6500575aGreatDoor
