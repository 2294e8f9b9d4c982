/-
  THE LOOP: whatever the fuel, it ends; how.
-/
import Derived.Test.Qxb6500575aGreatDoorRLoopN
namespace Go.Proofs.Qxb6500575aGreatDoor
open Go Go.RowKit
set_option linter.unusedVariables false
set_option linter.unusedSimpArgs false

variable {σ : Type}
theorem Good.pcs {p : ProgD} {T : Nat → Typing} {st : List V} {r : Frm} {rs : List Frm} (pt : ProgT p T) (g : Good p T st (r :: rs)) : ∃ q : Nat, r.pc = q ∧ q ≤ 143 := by
  obtain ⟨fn, u, c, pc, ρ, ops, loc, low, lay, _⟩ := g.top
  have h1 := (lay.fin pt).1.dom pc _ lay.typ
  have h2 := (lay.fin pt).2
  exact ⟨pc, lay.hpc, by omega⟩
/-- between two rounds -/
structure Go1 (R : RP σ) (T : Nat → Typing) (fuel : Int) (n0 : Nat) (f0 : Int) (K0 : KL) (d0 : KD) (s0 : σ) (w : World) (L : InL) (K : KL) (x : InD) (n : Int) (d : KD) (s : σ) : Prop where
  run : RunW R w L K x n d s
  good : Good R.P T x.st x.fr
  ne : x.fr ≠ []
  used : 0 ≤ x.used ∧ (x.used = 0 ∨ x.used ≤ fuel)
  high : 0 ≤ x.high ∧ x.high ≤ 124
  low : (n0 : Int) ≤ x.high ∨ n0 ≤ x.st.length
  bot : bot x.fr = some f0
  foot : fuel ≤ 0 → K = K0 ∧ d = d0 ∧ s = s0
  still : fuel ≤ 0 → x.st.length = n0 ∧ x.fr.length = 1
/-- behind the loop -/
structure Ended (R : RP σ) (fuel : Int) (n0 : Nat) (K0 : KL) (d0 : KD) (s0 : σ) (w' : World) (L : InL) (K : KL) (x : InD) (n : Int) (d : KD) (s : σ) : Prop where
  run : RunW R w' L K x n d s
  used : 0 ≤ x.used ∧ (x.used = 0 ∨ x.used ≤ fuel)
  high : (n0 : Int) ≤ x.high ∧ x.high ≤ 124
  foot : fuel ≤ 0 → K = K0 ∧ d = d0 ∧ s = s0
section
variable {R : RP σ} {T : Nat → Typing} {w : World} {L : InL} {K : KL} {x : InD} {n : Int} {d : KD} {s : σ} {fuel : Int} {h : Value}
theorem rloop_any (hr : RunW R w L K x n d s) (pt : ProgT R.P T) (gd : Good R.P T x.st x.fr) {r0 : Frm} {u0 : FunD} (hfr : x.fr = [r0]) (hu0 : R.P.funs[r0.f.toNat]? = some u0) (hn0 : x.st.length = u0.params.length + u0.locals.length) (h0 : x.used = 0) (hh : x.high = 0) (hfuel : fuel ≤ 9223372036854775807) (mc : MachC) (ac : AskC R h) (hwf : ∀ (f : Nat) c, R.P.codes[f]? = some c → ∀ i ∈ c, (V.d i.imm).Fits) :
    Calls Tryz.prog 65 #[.pointer (some ⟨R.bx, 0, none⟩), .int .i64 fuel, h] w fun e w' => ∃ L' K' x' n' d' s', Ended R fuel x.st.length K d s w' L' K' x' n' d' s' ∧
      ((e = .returned (.tuple #[]) ∧ x'.fr = [] ∧ x'.st.map V.ty = u0.results.reverse ∧ (∀ v ∈ x'.st, v.Fits) ∧ (fuel ≤ 0 → x'.st = []) ∧ ((x'.st.length + (u0.params.length + u0.locals.length) : Nat) : Int) ≤ x'.high) ∨ ∃ t : Int, 11 ≤ t ∧ t ≤ 17 ∧ e = .panicked (trapV t) ∧ (fuel ≤ 0 → t = 17)) := by
  refine loop_rounds (fun w1 => ∃ L1 K1 x1 n1 d1 s1, Go1 R T fuel x.st.length r0.f K d s w1 L1 K1 x1 n1 d1 s1) ⟨L, K, x, n, d, s, ⟨hr, gd, by rw [hfr]; simp, by omega, by omega, .inr (Nat.le_refl _), by rw [hfr]; rfl, fun _ => ⟨rfl, rfl, rfl⟩, fun _ => ⟨rfl, by rw [hfr]; rfl⟩⟩⟩ ?_
  rintro w1 ⟨L1, K1, x1, n1, d1, s1, g⟩ a ha Q pq qn qr qp
  obtain ⟨r, rs, hfr1⟩ := List.exists_cons_of_ne_nil g.ne
  have hst := Chain.lens pt _ _ _ g.good.chain
  have hflen := g.good.len
  have hus := g.used
  have hhi := g.high
  have hlo := g.low
  have hm := rmeas_eq g.run.inst hfr1 fuel
  have gr := g.good
  rw [hfr1] at gr
  obtain ⟨q1, hq1, hq2⟩ := gr.pcs pt
  rw [hfr1] at hst hflen
  simp only [List.length_cons] at hst hflen
  have on : ∀ w', On R T fuel K1 d1 s1 x1 r rs w' → (∃ L2 K2 x2 n2 d2 s2, Go1 R T fuel x.st.length r0.f K d s w' L2 K2 x2 n2 d2 s2) ∧ rmeas fuel R.bx w' < rmeas fuel R.bx w1 := by
    rintro w' ⟨hi, ⟨e1, e2, e3⟩, ⟨hf, hN | hL⟩ | hL | hE⟩
    · obtain ⟨L2, K2, x2, n2, d2, s2, k1, k2, k3, k4, k5, k6⟩ := hN
      simp only at k4 k5 k6
      obtain ⟨r2, rs2, hfr2⟩ := List.exists_cons_of_ne_nil k3
      have hl2 := k2.len
      have hm2 := rmeas_eq k1.inst hfr2 fuel
      rw [hfr2] at hl2
      simp only [List.length_cons] at hl2
      refine ⟨⟨L2, K2, x2, n2, d2, s2, ⟨k1, k2, k3, by omega, by omega, .inl (by omega), by rw [k6]; exact g.bot, fun hz => by omega, fun hz => by omega⟩⟩, by omega⟩
    · obtain ⟨L2, n2, st2, k1, k2, k3⟩ := hL
      obtain ⟨r2, rs2, hfr2⟩ := List.exists_cons_of_ne_nil k3
      have hm2 := rmeas_eq (r := r2) (rs := rs2) k1.inst hfr2 fuel
      simp only at hm2
      have hl2 := congrArg List.length hfr2
      simp only [List.length_cons] at hl2
      have hb := g.bot
      rw [hfr1, hfr2, bot_cons, ← hfr2] at hb
      refine ⟨⟨L2, _, _, n2, _, _, ⟨k1, k2, k3, by simp only; omega, by simp only; omega, .inl (by simp only; omega), hb, fun hz => by omega, fun hz => by omega⟩⟩, by omega⟩
    · obtain ⟨L2, n2, st2, k1, k2, k3⟩ := hL
      obtain ⟨r2, rs2, hfr2⟩ := List.exists_cons_of_ne_nil k3
      have hm2 := rmeas_eq (r := r2) (rs := rs2) k1.inst hfr2 fuel
      simp only at hm2
      have hl2 := congrArg List.length hfr2
      simp only [List.length_cons] at hl2
      have hb := g.bot
      rw [hfr1, hfr2, bot_cons, ← hfr2] at hb
      refine ⟨⟨L2, _, _, n2, _, _, ⟨k1, k2, k3, by simp only; omega, by simp only; omega, .inl (by simp only; omega), hb, g.foot, fun hz => by have := (g.still hz).2; rw [hfr1] at this; simp at this; exact absurd this k3⟩⟩, by omega⟩
    · obtain ⟨L2, n2, p2, k1, k2, k3⟩ := hE
      have hm2 := rmeas_eq (r := { r with pc := (p2 : Int) }) (rs := rs) k1.inst rfl fuel
      obtain ⟨q2, hq3, hq4⟩ := k2.pcs pt
      simp only at hm2 hq3
      have hb := g.bot
      rw [hfr1, ← bot_pc r rs p2] at hb
      refine ⟨⟨L2, _, _, n2, _, _, ⟨k1, k2, by simp, by simp only; omega, by simp only; omega, .inl (by simp only; omega), hb, g.foot, fun hz => by have := g.still hz; rw [hfr1] at this; simpa using this⟩⟩, by omega⟩
  refine round_any g.run pt g.good hfr1 (by omega) ⟨hus.1, fun _ => by omega⟩ mc ac hwf pq (fun a' w' ha' hw' => (qn a' w' ha' (on w' hw').1 (on w' hw').2).1) (fun a' w' ha' hw' => (qn a' w' ha' (on w' hw').1 (on w' hw').2).2) ?_ ?_ ha
  · rintro a' w' u hu ha' ⟨hi, us, ⟨e1, e2, e3⟩, hus2, hdn⟩
    obtain ⟨rfl, L2, n2, vs, k1, k2, k3, k4⟩ := hdn
    have hb := g.bot
    rw [hfr1] at hb
    simp [bot] at hb
    rw [hb, hu0] at hu
    simp at hu
    subst hu
    have k5 := k4 r hfr1
    simp only at k5
    obtain ⟨fn, u, c, pc, ρ, ops, loc, low, lay, chain⟩ := gr.top
    have hu2 := lay.hu
    have hf := lay.f
    rw [hb] at hf
    rw [show fn = r0.f.toNat by omega, hu0] at hu2
    simp at hu2
    subst hu2
    have hle := (lay.lens pt).2.2.2.2
    have hfl := lay.floor
    refine qr a' w' ha' ⟨L2, _, _, n2, _, _, ⟨k1, by simp only; omega, by simp only; omega, fun hz => ?_⟩, .inl ⟨rfl, rfl, k2, k3, fun hz => ?_, ?_⟩⟩
    · exact g.foot hz
    · have := g.still hz
      simp only
      exact List.eq_nil_of_length_eq_zero (by omega)
    · simp only
      omega
  · rintro a' w' t hd h11 h17 ⟨hi, us, ⟨e1, e2, e3⟩, ⟨rfl, rfl, hfu, L2, n2, k1⟩ | ⟨hfu, rfl, L2, K2, x2, n2, d2, s2, k1, k2, k3⟩⟩
    · exact qp a' w' 17 hd ⟨L2, _, _, n2, _, _, ⟨k1, by simp only; omega, by simp only; omega, g.foot⟩, .inr ⟨17, by omega, by omega, rfl, fun _ => rfl⟩⟩
    · simp only at k2 k3
      exact qp a' w' t hd ⟨L2, K2, x2, n2, d2, s2, ⟨k1, by omega, by omega, fun hz => by omega⟩, .inr ⟨t, h11, h17, rfl, fun hz => by omega⟩⟩
end
end Go.Proofs.Qxb6500575aGreatDoor
