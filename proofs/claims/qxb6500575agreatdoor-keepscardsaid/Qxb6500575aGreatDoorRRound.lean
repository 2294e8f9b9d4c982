/-
  ONE ROUND of run.loop, from its head.
-/
import Derived.Test.Qxb6500575aGreatDoorRPaid
namespace Go.Proofs.Qxb6500575aGreatDoor
open Go Go.RowKit
set_option linter.unusedVariables false
set_option linter.unusedSimpArgs false

section
variable {σ : Type} {R : RP σ} {T : Nat → Typing} {w : World} {L : InL} {K : KL} {x : InD} {n : Int} {d : KD} {s : σ} {r : Frm} {rs : List Frm} {fuel : Int} {h : Value} {Q : Exit → Act → World → Prop}
/-- the height at a round's head -/
def Hi (x : InD) (hi : Int) : Prop := x.high ≤ hi ∧ (x.st.length : Int) ≤ hi ∧ (hi = x.high ∨ hi = x.st.length)
/-- what a round comes to, if the loop goes on -/
def On (R : RP σ) (T : Nat → Typing) (fuel : Int) (K : KL) (d : KD) (s : σ) (x : InD) (r : Frm) (rs : List Frm) (w' : World) : Prop :=
  ∃ hi, Hi x hi ∧ ((x.used < fuel ∧ (Nx R T { x with high := hi, used := x.used + 1 } w' ∨ Lv R T K d s { x with high := hi, used := x.used + 1 } rs w')) ∨ Lv R T K d s { x with high := hi } rs w' ∨ El R T K d s { x with high := hi } r rs w')
theorem roundB_eq : (roundOf Tryz.f65.body) = .seq (codeL (roundOf Tryz.f65.body)) (.seq (codeL (codeR (roundOf Tryz.f65.body))) (.seq (codeL (codeR (codeR (roundOf Tryz.f65.body)))) (.seq (codeL (codeR (codeR (codeR (roundOf Tryz.f65.body))))) (codeR (codeR (codeR (codeR (roundOf Tryz.f65.body)))))))) := by kernel_rfl
theorem round_any (hr : RunW R w L K x n d s) (pt : ProgT R.P T) (gd : Good R.P T x.st x.fr) (hfr : x.fr = r :: rs) (hh : 0 ≤ x.high ∧ x.high ≤ 1000) (hu : 0 ≤ x.used ∧ (x.used < fuel → x.used < 9223372036854775807)) (mc : MachC) (ac : AskC R h) (hwf : ∀ (f : Nat) c, R.P.codes[f]? = some c → ∀ i ∈ c, (V.d i.imm).Fits)
    (pq : ∀ c a t v w, Q (.panic c) (a.put (some t) v) w → Q (.panic c) a w) (qn : ∀ a' w', Fr65 R fuel h a' → On R T fuel K d s x r rs w' → Q .normal a' w') (qe : ∀ a' w', Fr65 R fuel h a' → On R T fuel K d s x r rs w' → Q (.exit 1) a' w')
    (qr : ∀ a' w' u, R.P.funs[r.f.toNat]? = some u → Fr65 R fuel h a' → (∃ hi us, Hi x hi ∧ (us = x.used ∨ (x.used < fuel ∧ us = x.used + 1)) ∧ Dn R K d s { x with high := hi, used := us } rs u.results w') → Q .ret a' w')
    (qp : ∀ a' w' t, a'.defers = [] → 11 ≤ t → t ≤ 17 → (∃ hi us, Hi x hi ∧ ((us = x.used ∧ t = 17 ∧ fuel ≤ x.used ∧ ∃ L n, RunW R w' L K { x with high := hi } n d s) ∨ (x.used < fuel ∧ us = x.used + 1 ∧ Tp R { x with high := hi, used := us } w'))) → Q (.panic (trapV t)) a' w')
    {a : Act} (ha : Fr65 R fuel h a) : (roundOf Tryz.f65.body).wp Tryz.prog Q a w := by
  have hlen := Chain.lens pt _ _ _ gd.chain
  have hflen := gd.len
  have gd0 := gd
  rw [hfr] at hlen hflen gd0
  simp at hlen hflen
  obtain ⟨fn, v, c, pc, ρ, ops, loc, low, lay, chain⟩ := gd0.top
  obtain ⟨i, cat, ins, keep⟩ := lay.at pt
  obtain ⟨gf, hgf, _⟩ := hr.inst.top hfr
  have hc144 := (lay.fin pt).2
  have hwi : (V.d i.imm).Fits := hwf fn c lay.hc i (List.mem_of_getElem? cat)
  have hfun : R.P.funs[r.f.toNat]? = some v := by rw [lay.f]; simpa using lay.hu
  rw [roundB_eq]
  refine wp_seq (round0 (L := L) hr hfr (by omega) hgf pq (fun a1 ha1 h61 => ?_) ha)
  refine wp_seq (round1 hr.drew hh (by omega) pq (fun a2 w2 ha2 h62 hex => ?_) ha1 h61)
  obtain ⟨hi, e1, e2, e3, hr2⟩ := hex
  have hHi : Hi x hi := ⟨e1, e2, e3⟩
  refine wp_seq (round2 (x := { x with high := hi }) hr2 hfr hgf lay.f lay.hpc pt lay.hc cat hc144 pq (fun a3 w3 bf ha3 h63 h73 hex hb3 => ?_) ha2 h62)
  obtain ⟨n3, hr3⟩ := hex
  refine wp_seq (round3 (x := { x with high := hi }) (gf := gf) hr3 hb3 hu (fun a4 w4 hd4 hr4 hfu h4 h5 => qp a4 w4 17 hd4 (by omega) (by omega) ⟨hi, x.used, hHi, .inl ⟨rfl, rfl, by simpa using hfu, L, n3, hr4⟩⟩) (fun a4 w4 x4 ha4 h64 h74 hr4 hb4 hx => ?_) ha3 h63 h73)
  have mid : ∀ us, x4 = { x with high := hi, used := us } → Mid R T w4 L K x4 n3 d s r rs fn v c pc ρ ops loc low i bf gf := by
    rintro us rfl
    exact ⟨hr4, pt, gd, hfr, lay, chain, cat, ins, keep, hb4, hgf⟩
  rcases hx with ⟨h45, hx⟩ | ⟨h4, h5, hfu, hx⟩
  · obtain ⟨u, rfl⟩ := ha4.form67 h64 h74
    have m := mid x.used hx
    subst hx
    rcases h45 with h4 | h5
    · exact sw_else (D := fun _ => False) m h4 ⟨fun a' w' ha' hw' => qn a' w' ha' ⟨hi, hHi, .inr (.inr hw')⟩, fun a' w' ha' hw' => qe a' w' ha' ⟨hi, hHi, .inr (.inr hw')⟩, fun _ _ _ hf => hf.elim, pq, fun _ _ _ _ _ _ hf => hf.elim⟩ u
    · exact sw_end m h5 ⟨fun a' w' ha' hw' => qn a' w' ha' ⟨hi, hHi, .inr (.inl hw')⟩, fun a' w' ha' hw' => qe a' w' ha' ⟨hi, hHi, .inr (.inl hw')⟩, fun a' w' ha' hw' => qr a' w' v hfun ha' ⟨hi, x.used, hHi, .inl rfl, hw'⟩, pq, fun _ _ _ _ _ _ hf => hf.elim⟩ u
  · have hfu : x.used < fuel := hfu
    have m := mid (x.used + 1) hx
    subst hx
    by_cases h9 : i.op = 9
    · obtain ⟨u, rfl⟩ := ha4.form67 h64 h74
      exact sw_return m h9 ⟨fun a' w' ha' hw' => qn a' w' ha' ⟨hi, hHi, .inl ⟨hfu, .inr hw'⟩⟩, fun a' w' ha' hw' => qe a' w' ha' ⟨hi, hHi, .inl ⟨hfu, .inr hw'⟩⟩, fun a' w' ha' hw' => qr a' w' v hfun ha' ⟨hi, x.used + 1, hHi, .inr ⟨hfu, rfl⟩, hw'⟩, pq, fun _ _ _ _ _ _ hf => hf.elim⟩ u
    · exact sw_paid (D := fun _ => False) m mc ac hwi h4 h5 h9 ⟨fun a' w' ha' hw' => qn a' w' ha' ⟨hi, hHi, .inl ⟨hfu, .inl hw'⟩⟩, fun a' w' ha' hw' => qe a' w' ha' ⟨hi, hHi, .inl ⟨hfu, .inl hw'⟩⟩, fun _ _ _ hf => hf.elim, pq, fun a' w' t hd h11 h17 hT => qp a' w' t hd h11 h17 ⟨hi, x.used + 1, hHi, .inr ⟨hfu, rfl, hT⟩⟩⟩ ha4 h64 h74
end
end Go.Proofs.Qxb6500575aGreatDoor
