/-
  THE LOOP, exact: it ends as the plain run ends.
-/
import Derived.Test.Qxb6500575aGreatDoorSLoopN
namespace Go.Proofs.Qxb6500575aGreatDoor
open Go Go.RowKit
set_option linter.unusedVariables false
set_option linter.unusedSimpArgs false

variable {σ τ : Type}
theorem Good.pcs {p : ProgD} {T : Nat → Typing} {st : List V} {r : Frm} {rs : List Frm} (pt : ProgT p T) (g : Good p T st (r :: rs)) : ∃ q : Nat, r.pc = q ∧ q ≤ 143 := by
  obtain ⟨fn, u, c, pc, ρ, ops, loc, low, lay, _⟩ := g.top
  have h1 := (lay.fin pt).1.dom pc _ lay.typ
  have h2 := (lay.fin pt).2
  exact ⟨pc, lay.hpc, by omega⟩
/-- between two rounds; k0: where the run began -/
structure GoX (sem : σ → τ) (H : HF τ) (R : RP σ) (T : Nat → Typing) (fuel : Int) (f0 : Int) (k0 : FC τ) (w : World) (L : InL) (K : KL) (x : InD) (n : Int) (d : KD) (s : σ) : Prop where
  run : RunW R w L K x n d s
  good : Good R.P T x.st x.fr
  ne : x.fr ≠ []
  used : 0 ≤ x.used ∧ (x.used = 0 ∨ x.used ≤ fuel)
  high : 0 ≤ x.high ∧ x.high ≤ 124
  bot : bot x.fr = some f0
  n64 : I64 n
  steps : ∃ j, fsteps R.P H fuel j k0 = some (cfgOf sem x n d s)
section
variable {sem : σ → τ} {H : HF τ} {R : RP σ} {T : Nat → Typing} {w : World} {L : InL} {K : KL} {x : InD} {n : Int} {d : KD} {s : σ} {fuel : Int} {h : Value}
theorem sloop_any (hr : RunW R w L K x n d s) (pt : ProgT R.P T) (gd : Good R.P T x.st x.fr) {r0 : Frm} {u0 : FunD} (hfr : x.fr = [r0]) (hu0 : R.P.funs[r0.f.toNat]? = some u0) (h0 : x.used = 0) (hh : x.high = 0) (hn64 : I64 n) (hfuel : fuel ≤ 9223372036854775807) (mc : MachX) (ac : AskX sem H R h) (hwf : ∀ (f : Nat) c, R.P.codes[f]? = some c → ∀ i ∈ c, (V.d i.imm).Fits) :
    Calls Tryz.prog 65 #[.pointer (some ⟨R.bx, 0, none⟩), .int .i64 fuel, h] w fun e w' => ∃ L' K' x' n' d' s' t vs, RunW R w' L' K' x' n' d' s' ∧ FEnds R.P H fuel (cfgOf sem x n d s) ⟨t, vs, cfgEnd sem x'.used n' d' s'⟩ ∧
      ((e = .returned (.tuple #[]) ∧ t = 1 ∧ x'.fr = [] ∧ x'.st = vs ∧ vs.map V.ty = u0.results.reverse ∧ ∀ v ∈ vs, v.Fits) ∨ (11 ≤ t ∧ t ≤ 17 ∧ vs = [] ∧ e = .panicked (trapV t))) := by
  refine loop_rounds (fun w1 => ∃ L1 K1 x1 n1 d1 s1, GoX sem H R T fuel r0.f (cfgOf sem x n d s) w1 L1 K1 x1 n1 d1 s1) ⟨L, K, x, n, d, s, ⟨hr, gd, by rw [hfr]; simp, by omega, by omega, by rw [hfr]; rfl, hn64, 0, rfl⟩⟩ ?_
  rintro w1 ⟨L1, K1, x1, n1, d1, s1, g⟩ a ha Q pq qn qr qp
  obtain ⟨r, rs, hfr1⟩ := List.exists_cons_of_ne_nil g.ne
  have hst := Chain.lens pt _ _ _ g.good.chain
  have hflen := g.good.len
  have hus := g.used
  have hhi := g.high
  have hm := rmeas_eq g.run.inst hfr1 fuel
  have gr := g.good
  rw [hfr1] at gr
  obtain ⟨q1, hq1, hq2⟩ := gr.pcs pt
  rw [hfr1] at hst hflen
  simp only [List.length_cons] at hst hflen
  obtain ⟨j, hj⟩ := g.steps
  have hiB : ∀ y : Int, Hi x1 y → 0 ≤ y ∧ y ≤ 124 := fun y ⟨a1, a2, a3⟩ => by omega
  have on : ∀ w', OnX sem H R T fuel x1 n1 d1 s1 r rs w' → (∃ L2 K2 x2 n2 d2 s2, GoX sem H R T fuel r0.f (cfgOf sem x n d s) w' L2 K2 x2 n2 d2 s2) ∧ rmeas fuel R.bx w' < rmeas fuel R.bx w1 := by
    rintro w' ⟨L2, K2, x2, n2, d2, s2, k1, k2, k3, k4, k5, k6, k7, k8⟩
    obtain ⟨r2, rs2, hfr2⟩ := List.exists_cons_of_ne_nil k3
    have hl2 := k2.len
    have hm2 := rmeas_eq k1.inst hfr2 fuel
    have gr2 := k2
    rw [hfr2] at hl2 gr2
    obtain ⟨q3, hq3, hq4⟩ := gr2.pcs pt
    simp only [List.length_cons] at hl2
    have hB := hiB _ k6
    have hstep : fsteps R.P H fuel (j + 1) (cfgOf sem x n d s) = some (cfgOf sem x2 n2 d2 s2) := by
      have := fsteps_snoc j _ _ hj (by rw [k7])
      rw [k7] at this
      exact this
    refine ⟨⟨L2, K2, x2, n2, d2, s2, ⟨k1, k2, k3, ?_, hB, by rw [k5]; exact g.bot, k4, j + 1, hstep⟩⟩, ?_⟩
    · rcases k8 with ⟨e1, e2⟩ | ⟨e1, _⟩ <;> omega
    · rcases k8 with ⟨e1, e2⟩ | ⟨e1, e2 | ⟨p', e2, e3⟩⟩
      · omega
      · have hl := congrArg List.length (hfr2.symm.trans e2)
        simp only [List.length_cons] at hl
        omega
      · rw [hfr2] at e2
        simp only [List.cons.injEq] at e2
        obtain ⟨e4, e5⟩ := e2
        have e6 : r2.pc = (p' : Int) := by rw [e4]
        subst e5
        omega
  refine sround_any g.run pt g.good hfr1 (by omega) ⟨hus.1, fun _ => by omega⟩ mc ac hwf pq (fun a' w' ha' hw' => (qn a' w' ha' (on w' hw').1 (on w' hw').2).1) (fun a' w' ha' hw' => (qn a' w' ha' (on w' hw').1 (on w' hw').2).2) ?_ ?_ ha
  · rintro a' w' u hu ha' ⟨hi, us, vs, L2, n2, _, hrs, k1, k2, k3, k4⟩
    have hb := g.bot
    rw [hfr1, hrs] at hb
    simp [bot] at hb
    rw [hb, hu0] at hu
    simp at hu
    subst hu
    refine qr a' w' ha' ⟨L2, K1, _, n2, d1, s1, 1, vs, k1, FEnds.steps j _ _ hj (FEnds.last k4 (by show (1 : Int) ≠ 0; decide)), .inl ⟨rfl, rfl, rfl, rfl, k2, k3⟩⟩
  · rintro a' w' t hd h11 h17 ⟨L2, K2, x2, n2, d2, s2, k1, k2, k3⟩
    refine qp a' w' t hd ⟨L2, K2, x2, n2, d2, s2, t, [], k1, FEnds.steps j _ _ hj (FEnds.last k3 (by show t ≠ 0; omega)), .inr ⟨h11, h17, rfl, rfl⟩⟩
end
end Go.Proofs.Qxb6500575aGreatDoor
