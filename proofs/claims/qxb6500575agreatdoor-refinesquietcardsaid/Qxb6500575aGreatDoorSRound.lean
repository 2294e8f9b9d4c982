/-
  ONE ROUND of run.loop, from its head, exact.
-/
import Derived.Test.Qxb6500575aGreatDoorSPaid
import Derived.Test.Qxb6500575aGreatDoorPRun
namespace Go.Proofs.Qxb6500575aGreatDoor
open Go Go.RowKit
set_option linter.unusedVariables false
set_option linter.unusedSimpArgs false

section
variable {σ τ : Type} {sem : σ → τ} {H : HF τ} {R : RP σ} {T : Nat → Typing} {w : World} {L : InL} {K : KL} {x : InD} {n : Int} {d : KD} {s : σ} {r : Frm} {rs : List Frm} {fuel : Int} {h : Value} {Q : Exit → Act → World → Prop}
def cfgOf (sem : σ → τ) (x : InD) (n : Int) (d : KD) (s : σ) : FC τ := ⟨dec x.st x.fr, x.used, n, d.flat, d.max, sem s⟩
/-- behind a round that does not go on -/
def cfgEnd (sem : σ → τ) (us n : Int) (d : KD) (s : σ) : FC τ := ⟨[], us, n, d.flat, d.max, sem s⟩
/-- the height at a round's head -/
def Hi (x : InD) (hi : Int) : Prop := x.high ≤ hi ∧ (x.st.length : Int) ≤ hi ∧ (hi = x.high ∨ hi = x.st.length)
/-- what a round comes to, if the loop goes on -/
def OnX (sem : σ → τ) (H : HF τ) (R : RP σ) (T : Nat → Typing) (fuel : Int) (x : InD) (n : Int) (d : KD) (s : σ) (r : Frm) (rs : List Frm) (w' : World) : Prop :=
  ∃ L' K' x' n' d' s', RunW R w' L' K' x' n' d' s' ∧ Good R.P T x'.st x'.fr ∧ x'.fr ≠ [] ∧ I64 n' ∧ bot x'.fr = bot x.fr ∧ Hi x x'.high ∧ fround R.P H fuel (cfgOf sem x n d s) = ⟨0, [], cfgOf sem x' n' d' s'⟩ ∧
    ((x.used < fuel ∧ x'.used = x.used + 1) ∨ (x'.used = x.used ∧ (x'.fr = rs ∨ ∃ p' : Nat, x'.fr = { r with pc := (p' : Int) } :: rs ∧ r.pc < p')))
theorem fafter_on {G : Gh σ τ} {k : FC τ} {us : Int} {x' : InD} {n' : Int} {d' : KD} {s' : σ} (e : NxE G x' n' d' s') (hn : G.n = wrap64 (k.n + 1)) (hM : G.M = k.max) (hu : x'.used = us) : fafter k us G.o = ⟨0, [], cfgOf G.sem x' n' d' s'⟩ := by
  unfold fafter cfgOf
  rw [e.t, e.fr, e.mem, e.max, e.s, e.n, hn, hM, hu]
  rfl
theorem fafter_trap {G : Gh σ τ} {k : FC τ} {us t : Int} {n' : Int} {d' : KD} {s' : σ} (e : TpE G t n' d' s') (hn : G.n = wrap64 (k.n + 1)) (hM : G.M = k.max) (ht : 11 ≤ t) : fafter k us G.o = ⟨t, [], cfgEnd G.sem us n' d' s'⟩ := by
  unfold fafter cfgEnd
  rw [e.t, e.mem, e.max, e.s, e.n, hn, hM, if_neg (by omega), if_neg (by omega)]
theorem fafter_done {G : Gh σ τ} {k : FC τ} {us : Int} {vs : List V} {n' : Int} {d' : KD} {s' : σ} (e : DnE G vs n' d' s') (hn : G.n = wrap64 (k.n + 1)) (hM : G.M = k.max) : fafter k us G.o = ⟨1, vs, cfgEnd G.sem us n' d' s'⟩ := by
  unfold fafter cfgEnd
  rw [e.t, e.vs, e.mem, e.max, e.s, e.n, hn, hM]
  rfl
theorem roundB_eq : (roundOf Tryz.f65.body) = .seq (codeL (roundOf Tryz.f65.body)) (.seq (codeL (codeR (roundOf Tryz.f65.body))) (.seq (codeL (codeR (codeR (roundOf Tryz.f65.body)))) (.seq (codeL (codeR (codeR (codeR (roundOf Tryz.f65.body))))) (codeR (codeR (codeR (codeR (roundOf Tryz.f65.body)))))))) := by kernel_rfl
theorem sround_any (hr : RunW R w L K x n d s) (pt : ProgT R.P T) (gd : Good R.P T x.st x.fr) (hfr : x.fr = r :: rs) (hh : 0 ≤ x.high ∧ x.high ≤ 1000) (hu : 0 ≤ x.used ∧ (x.used < fuel → x.used < 9223372036854775807)) (mc : MachX) (ac : AskX sem H R h) (hwf : ∀ (f : Nat) c, R.P.codes[f]? = some c → ∀ i ∈ c, (V.d i.imm).Fits)
    (pq : ∀ c a t v w, Q (.panic c) (a.put (some t) v) w → Q (.panic c) a w) (qn : ∀ a' w', Fr65 R fuel h a' → OnX sem H R T fuel x n d s r rs w' → Q .normal a' w') (qe : ∀ a' w', Fr65 R fuel h a' → OnX sem H R T fuel x n d s r rs w' → Q (.exit 1) a' w')
    (qr : ∀ a' w' u, R.P.funs[r.f.toNat]? = some u → Fr65 R fuel h a' → (∃ hi us vs L' n', Hi x hi ∧ rs = [] ∧ RunW R w' L' K { x with st := vs, fr := [], high := hi, used := us } n' d s ∧ vs.map V.ty = u.results.reverse ∧ (∀ v ∈ vs, v.Fits) ∧ fround R.P H fuel (cfgOf sem x n d s) = ⟨1, vs, cfgEnd sem us n' d s⟩) → Q .ret a' w')
    (qp : ∀ a' w' t, a'.defers = [] → 11 ≤ t → t ≤ 17 → (∃ L' K' x' n' d' s', RunW R w' L' K' x' n' d' s' ∧ Hi x x'.high ∧ fround R.P H fuel (cfgOf sem x n d s) = ⟨t, [], cfgEnd sem x'.used n' d' s'⟩) → Q (.panic (trapV t)) a' w')
    {a : Act} (ha : Fr65 R fuel h a) : (roundOf Tryz.f65.body).wp Tryz.prog Q a w := by
  have hlen := Chain.lens pt _ _ _ gd.chain
  have hflen := gd.len
  have gd0 := gd
  rw [hfr] at hlen hflen gd0
  simp at hlen hflen
  obtain ⟨fn, v, c, pc, ρ, ops, loc, low, lay, chain⟩ := gd0.top
  obtain ⟨i, cat, ins, keep⟩ := lay.at pt
  obtain ⟨gf, hgf, _⟩ := hr.inst.top hfr
  have hc144 := (lay.fin pt).2
  have hwi : (V.d i.imm).Fits := hwf fn c lay.hc i (List.mem_of_getElem? cat)
  have hfun : R.P.funs[r.f.toNat]? = some v := by rw [lay.f]; simpa using lay.hu
  have hdec : dec x.st x.fr = ⟨fn, pc, ops, loc⟩ :: dec low rs := by
    rw [hfr, lay.hst]
    exact dec_cons lay.f lay.hpc lay.base lay.floor
  obtain ⟨G, HG⟩ : ∃ G : Gh σ τ, G = ⟨sem, wrap64 (n + 1), d.max, fexec R.P H c i ⟨fn, pc, ops, loc⟩ (dec low rs) d.flat d.max (sem s)⟩ := ⟨_, rfl⟩
  have hfp : fround R.P H fuel (cfgOf sem x n d s) = fpaid R.P H fuel (cfgOf sem x n d s) c i ⟨fn, pc, ops, loc⟩ (dec low rs) := fround_at hdec lay.hc cat
  have hGo : fexec R.P H c i ⟨fn, pc, ops, loc⟩ (dec low rs) (cfgOf sem x n d s).mem (cfgOf sem x n d s).max (cfgOf sem x n d s).s = G.o := by rw [HG]; rfl
  have hGn : G.n = wrap64 ((cfgOf sem x n d s).n + 1) := by rw [HG]; rfl
  have hGM : G.M = (cfgOf sem x n d s).max := by rw [HG]; rfl
  have hGs : G.sem = sem := by rw [HG]
  rw [roundB_eq]
  refine wp_seq (round0 (L := L) hr hfr (by omega) hgf pq (fun a1 ha1 h61 => ?_) ha)
  refine wp_seq (round1 hr.drew hh (by omega) pq (fun a2 w2 ha2 h62 hex => ?_) ha1 h61)
  obtain ⟨hi, e1, e2, e3, hr2⟩ := hex
  have hHi : Hi x hi := ⟨e1, e2, e3⟩
  refine wp_seq (round2 (x := { x with high := hi }) hr2 hfr hgf lay.f lay.hpc pt lay.hc cat hc144 pq (fun a3 w3 bf ha3 h63 h73 hr3 hb3 => ?_) ha2 h62)
  refine wp_seq (round3 (x := { x with high := hi }) (gf := gf) hr3 hb3 hu (fun a4 w4 hd4 hr4 hfu h4 h5 => qp a4 w4 17 hd4 (by omega) (by omega) ⟨L, K, _, _, d, s, hr4, hHi, ?_⟩) (fun a4 w4 x4 ha4 h64 h74 hr4 hb4 hx => ?_) ha3 h63 h73)
  · rw [hfp]
    unfold fpaid
    rw [if_neg (by omega), if_neg (by show ¬ x.used < fuel; simp only at hfu; omega)]
    rfl
  have mid : ∀ us, x4 = { x with high := hi, used := us } → Mid G H R T w4 L K x4 (wrap64 (n + 1)) d s r rs fn v c pc ρ ops loc low i bf gf := by
    rintro us rfl
    exact ⟨hr4, pt, gd, hfr, lay, chain, cat, ins, keep, hb4, hgf, i64_wrap _, by rw [HG], by rw [HG], by rw [HG]⟩
  have w64' : ∀ z : Int, I64 (wrap64 z) := i64_wrap
  rcases hx with ⟨h45, hx⟩ | ⟨h4, h5, hfu, hx⟩
  · obtain ⟨u, rfl⟩ := ha4.form67 h64 h74
    have m := mid x.used hx
    subst hx
    have hfa : fround R.P H fuel (cfgOf sem x n d s) = fafter (cfgOf sem x n d s) x.used G.o := by
      rw [hfp]
      unfold fpaid
      rw [if_pos h45, hGo]
      rfl
    rcases h45 with h4 | h5
    · have on : ∀ w', El G R T K d s { x with high := hi } r rs w' → OnX sem H R T fuel x n d s r rs w' := by
        rintro w' ⟨L', n', p', k1, k2, k3, k4⟩
        refine ⟨L', K, _, n', d, s, k1, k2, by simp, by rw [k4.n]; exact w64' _, by rw [hfr]; exact bot_pc r rs p', hHi, ?_, .inr ⟨rfl, .inr ⟨p', rfl, k3⟩⟩⟩
        rw [hfa, fafter_on k4 hGn hGM rfl, hGs]
      exact sw_else (D := fun _ => False) m h4 ⟨fun a' w' ha' hw' => qn a' w' ha' (on w' hw'), fun a' w' ha' hw' => qe a' w' ha' (on w' hw'), fun _ _ _ hf => hf.elim, pq, fun _ _ _ _ _ _ hf => hf.elim⟩ u
    · have on : ∀ w', Lv G R T K d s { x with high := hi } rs w' → OnX sem H R T fuel x n d s r rs w' := by
        rintro w' ⟨L', n', st', k1, k2, k3, k4⟩
        refine ⟨L', K, _, n', d, s, k1, k2, k3, by rw [k4.n]; exact w64' _, ?_, hHi, ?_, .inr ⟨rfl, .inl rfl⟩⟩
        · rw [hfr]
          obtain ⟨r2, rs2, hfr2⟩ := List.exists_cons_of_ne_nil k3
          simp only
          rw [hfr2, bot_cons]
        · rw [hfa, fafter_on k4 hGn hGM rfl, hGs]
      have dn : ∀ w', Dn G R K d s { x with high := hi } rs v.results w' → ∃ hi us vs L' n', Hi x hi ∧ rs = [] ∧ RunW R w' L' K { x with st := vs, fr := [], high := hi, used := us } n' d s ∧ vs.map V.ty = v.results.reverse ∧ (∀ v ∈ vs, v.Fits) ∧ fround R.P H fuel (cfgOf sem x n d s) = ⟨1, vs, cfgEnd sem us n' d s⟩ := by
        rintro w' ⟨he, L', n', vs, k1, k2, k3, _, k5⟩
        exact ⟨hi, x.used, vs, L', n', hHi, he, k1, k2, k3, by rw [hfa, fafter_done k5 hGn hGM, hGs]⟩
      exact sw_end m h5 ⟨fun a' w' ha' hw' => qn a' w' ha' (on w' hw'), fun a' w' ha' hw' => qe a' w' ha' (on w' hw'), fun a' w' ha' hw' => qr a' w' v hfun ha' (dn w' hw'), pq, fun _ _ _ _ _ _ hf => hf.elim⟩ u
  · have hfu : x.used < fuel := hfu
    have m := mid (x.used + 1) hx
    subst hx
    have hfa : fround R.P H fuel (cfgOf sem x n d s) = fafter (cfgOf sem x n d s) (x.used + 1) G.o := by
      rw [hfp]
      unfold fpaid
      rw [if_neg (by omega), if_pos (by exact hfu), hGo]
      rfl
    by_cases h9 : i.op = 9
    · obtain ⟨u, rfl⟩ := ha4.form67 h64 h74
      have on : ∀ w', Lv G R T K d s { x with high := hi, used := x.used + 1 } rs w' → OnX sem H R T fuel x n d s r rs w' := by
        rintro w' ⟨L', n', st', k1, k2, k3, k4⟩
        refine ⟨L', K, _, n', d, s, k1, k2, k3, by rw [k4.n]; exact w64' _, ?_, hHi, ?_, .inl ⟨hfu, rfl⟩⟩
        · rw [hfr]
          obtain ⟨r2, rs2, hfr2⟩ := List.exists_cons_of_ne_nil k3
          simp only
          rw [hfr2, bot_cons]
        · rw [hfa, fafter_on k4 hGn hGM rfl, hGs]
      have dn : ∀ w', Dn G R K d s { x with high := hi, used := x.used + 1 } rs v.results w' → ∃ hi us vs L' n', Hi x hi ∧ rs = [] ∧ RunW R w' L' K { x with st := vs, fr := [], high := hi, used := us } n' d s ∧ vs.map V.ty = v.results.reverse ∧ (∀ v ∈ vs, v.Fits) ∧ fround R.P H fuel (cfgOf sem x n d s) = ⟨1, vs, cfgEnd sem us n' d s⟩ := by
        rintro w' ⟨he, L', n', vs, k1, k2, k3, _, k5⟩
        exact ⟨hi, x.used + 1, vs, L', n', hHi, he, k1, k2, k3, by rw [hfa, fafter_done k5 hGn hGM, hGs]⟩
      exact sw_return m h9 ⟨fun a' w' ha' hw' => qn a' w' ha' (on w' hw'), fun a' w' ha' hw' => qe a' w' ha' (on w' hw'), fun a' w' ha' hw' => qr a' w' v hfun ha' (dn w' hw'), pq, fun _ _ _ _ _ _ hf => hf.elim⟩ u
    · have on : ∀ w', Nx G R T { x with high := hi, used := x.used + 1 } w' → OnX sem H R T fuel x n d s r rs w' := by
        rintro w' ⟨L', K', x', n', d', s', k1, k2, k3, k4, k5, k6, k7⟩
        simp only at k4 k5 k6
        refine ⟨L', K', x', n', d', s', k1, k2, k3, by rw [k7.n]; exact w64' _, k6, by rw [k5]; exact hHi, ?_, .inl ⟨hfu, k4⟩⟩
        rw [hfa, fafter_on k7 hGn hGM k4, hGs]
      have tp : ∀ t w', 11 ≤ t → Tp G R { x with high := hi, used := x.used + 1 } t w' → ∃ L' K' x' n' d' s', RunW R w' L' K' x' n' d' s' ∧ Hi x x'.high ∧ fround R.P H fuel (cfgOf sem x n d s) = ⟨t, [], cfgEnd sem x'.used n' d' s'⟩ := by
        rintro t w' ht ⟨L', K', x', n', d', s', k1, k2, k3, k4⟩
        simp only at k2 k3
        refine ⟨L', K', x', n', d', s', k1, by rw [k3]; exact hHi, ?_⟩
        rw [hfa, fafter_trap k4 hGn hGM ht, hGs, k2]
      exact sw_paid (D := fun _ => False) m mc (by rw [hGs]; exact ac) hwi h4 h5 h9 ⟨fun a' w' ha' hw' => qn a' w' ha' (on w' hw'), fun a' w' ha' hw' => qe a' w' ha' (on w' hw'), fun _ _ _ hf => hf.elim, pq, fun a' w' t hd h11 h17 hT => qp a' w' t hd h11 h17 (tp t w' h11 hT)⟩ ha4 h64 h74
end
end Go.Proofs.Qxb6500575aGreatDoor
