/-
  BOTH MACHINES, one instruction: the plain ones, the branches. No program.
-/
import Derived.Test.Qxb6500575aGreatDoorLawB7
namespace Go.Proofs.Qxb6500575aGreatDoor
open Go Go.RowKit
set_option linter.unusedVariables false
set_option linter.unusedSimpArgs false

def MS.paid (m : MS) : MS := { m with x := { m.x with n := wrap64 (m.x.n + 1), used := m.x.used + 1 } }
section
variable {A : Px} {X : Fx} {C : List Flat} {i : Nat} {s : Mk} {c : Ins} {k : FC HS} {m : MS} {ops loc : List V} {μ : Nat}
theorem CoM.paid (h : CoM A.I A.fuel A.max m) (hu : m.x.used < A.fuel) : CoM A.I A.fuel A.max m.paid := by
  have := h.us
  exact ⟨h.fuel, h.memOk, h.inv, by show 0 ≤ m.x.used + 1 ∧ (m.x.used + 1 = 0 ∨ m.x.used + 1 ≤ A.fuel); omega⟩
theorem NowB.rich (h : NowB A X C i s c k m ops loc) (hu : k.used < A.fuel) : m.x.used < A.fuel ∧ m.x.pay = (m.paid.x, 0) := by
  have h1 := h.co.used
  have h2 := h.com.fuel
  exact ⟨by omega, pay_rich (by omega)⟩
theorem NowB.codeAt (h : NowB A X C i s c k m ops loc) : A.P.codes[(⟨X.fn, posM X.src i, ops, loc⟩ : FF).fn]? = some C := h.F.code
theorem NowB.imm (h : NowB A X C i s c k m ops loc) : I64 c.imm := h.F.imm c (List.mem_of_getElem? h.sf.at_)
/-- it goes on at i2 -/
theorem cont (ih : SeqLaw A μ) (hN : NowB A X C i s c k m ops loc) {i2 : Nat} {s2 : Mk} {c2 : Ins} {k2 : FC HS} {m2 : MS} {ops2 loc2 : List V} (hN2 : NowB A X C i2 s2 c2 k2 m2 ops2 loc2) (hcs : s2.cs = s.cs) (hcut : ∀ t ∈ s.cs, cut t.height s2.st = cut t.height s.st) {j : Nat} (hj : fsteps A.P A.H A.fuel j k = some k2) (hu : k.used ≤ k2.used) (hi : i < i2)
    (hμ : (A.fuel - k.used).toNat * 100 + (X.src.length - i) ≤ μ + 1) {tk : Tk} (hT : Tk0 X i2 loc2 tk) : ∃ N o, A.run N tk m2 = some o ∧ Res A X k s.cs s.st o := by
  have hlt := (List.getElem?_eq_some_iff.1 hN.sf.at_).1
  obtain ⟨N, o, h1, h2⟩ := ih X C i2 s2 c2 k2 m2 ops2 loc2 hN2 (meas_on (fuel_le hu) hi hlt hμ) tk hT
  rw [hcs] at h2
  exact ⟨N, o, h1, h2.pre hj hu hcut⟩
/-- the flat machine, a paid instruction -/
theorem paid_step (hN : NowB A X C i s c k m ops loc) {fl : Flat} (hC : C[posM X.src i]? = some fl) (hop : fl.op ≠ 4 ∧ fl.op ≠ 5) (hu : k.used < A.fuel) {fr' : List FF} {mem' : List UInt8} {s' : HS} {dn : Int} (he : fexec A.P A.H C fl ⟨X.fn, posM X.src i, ops, loc⟩ X.rest k.mem k.max k.s = ⟨0, fr', [], mem', s', dn⟩) :
    fsteps A.P A.H A.fuel 1 k = some ⟨fr', k.used + 1, wrap64 (wrap64 (k.n + 1) + dn), mem', k.max, s'⟩ := by
  have h := fround_paid (A := A) hN.inf.fr hN.codeAt hC hop hu
  rw [he] at h
  exact fsteps_one (v := []) h
theorem paid_trap (hN : NowB A X C i s c k m ops loc) {fl : Flat} (hC : C[posM X.src i]? = some fl) (hop : fl.op ≠ 4 ∧ fl.op ≠ 5) (hu : k.used < A.fuel) {t : Int} {fr' : List FF} {vs : List V} {mem' : List UInt8} {s' : HS} (he : fexec A.P A.H C fl ⟨X.fn, posM X.src i, ops, loc⟩ X.rest k.mem k.max k.s = ⟨t, fr', vs, mem', s', 0⟩) (ht : t ≠ 0 ∧ t ≠ 1) :
    FEnds A.P A.H A.fuel k ⟨t, [], ⟨[], k.used + 1, wrap64 (k.n + 1), mem', k.max, s'⟩⟩ := by
  have h := fround_paid (A := A) hN.inf.fr hN.codeAt hC hop hu
  rw [he] at h
  unfold fafter at h
  simp only [if_neg ht.1, if_neg ht.2, w64w] at h
  exact FEnds.last h ht.1
/-- no fuel -/
theorem seq_poor (hN : NowB A X C i s c k m ops loc) (hop : ¬ (c.op = 1 ∨ c.op = 2) ∧ c.op ≠ 4 ∧ c.op ≠ 5) (hok : okS c loc A.max m = true) {fl : Flat} (hC : C[posM X.src i]? = some fl) (hfl : fl.op ≠ 4 ∧ fl.op ≠ 5) (hu : ¬ k.used < A.fuel) {tk : Tk} (hT : Tk0 X i loc tk) : ∃ N o, A.run N tk m = some o ∧ Res A X k s.cs s.st o := by
  have h1 := hN.co.used
  have h2 := hN.com.fuel
  have hp := pay_poor (x := m.x) (by omega)
  refine ⟨1, ⟨-1, 17, tk.loc, { m with x := { m.x with n := wrap64 (m.x.n + 1) } }⟩, srun_seq (N := 0) (o := ⟨-1, 17, tk.loc, { m with x := { m.x with n := wrap64 (m.x.n + 1) } }⟩) hT.k (by rw [hT.src, hT.i]; exact hN.sf.at_) hop.2.2 hop.2.1 (by rw [hT.loc]; exact hok) ?_ (.inl ⟨.inl (by simp), rfl⟩), .inl ⟨by simp, ?_⟩⟩
  · unfold sins
    rw [if_neg hop.1, hp, if_pos (by simp)]
  · have h := fround_poor (A := A) hN.inf.fr hN.codeAt hC hfl hu
    refine FEnds.last ?_ (by simp)
    rw [h, ← hN.co.used, ← hN.co.n, ← hN.co.mem, ← hN.co.hs, hN.co.max]
    rfl
/-- the model, paid, neither a block nor a call -/
theorem sins_plain (hN : NowB A X C i s c k m ops loc) (hu : k.used < A.fuel) {rec : Tk → MS → Option Ot} {tk : Tk} (hop : ¬ (c.op = 1 ∨ c.op = 2) ∧ c.op ≠ 3 ∧ c.op ≠ 10) : sins A.P A.H A.max rec tk c m = plainS c tk.loc A.max m.paid := by
  unfold sins
  rw [if_neg hop.1, (hN.rich hu).2, if_neg (by simp), if_neg hop.2.1, if_neg hop.2.2]
  rfl
theorem live_next (hN : NowB A X C i s c k m ops loc) (hop : c.op = 11 ∨ c.op = 12 ∨ c.op = 13 ∨ c.op = 14 ∨ 15 ≤ c.op) : (s.one (A.E X) X.src i c).1.cs = s.cs ∧ Live (s.one (A.E X) X.src i c).1 := by
  have hb := hN.F.body
  rcases hop with h | h | h | h | h
  · obtain ⟨_, _, h1, h2⟩ := live_drop hN.sf hN.live h; exact ⟨h1, h2⟩
  · obtain ⟨_, _, _, _, h1, h2⟩ := live_sel hN.sf hN.live h; exact ⟨h1, h2⟩
  · obtain ⟨_, _, _, h1, h2⟩ := live_get hb hN.sf hN.live h; exact ⟨h1, h2⟩
  · obtain ⟨_, _, _, h1, h2⟩ := live_set hb hN.sf hN.live h; exact ⟨h1, h2⟩
  · obtain ⟨_, _, _, h1, h2⟩ := live_sig hN.sf hN.live h; exact ⟨h1, h2⟩
theorem emit_plain (h : c.op = 0 ∨ 9 ≤ c.op) : emitM s X.src i c = [⟨c.op, c.imm, 0, 0⟩] := by
  unfold emitM
  rw [if_neg (by omega), if_neg (by omega), if_neg (by omega), if_neg (by omega), if_neg (by omega), if_neg (by omega), if_neg (by omega)]
theorem pos_next (hN : NowB A X C i s c k m ops loc) (h : c.op ≠ 1 ∧ c.op ≠ 2 ∧ c.op ≠ 5 ∧ c.op ≠ 8) : posM X.src (i + 1) = posM X.src i + 1 := by
  rw [posM_succ hN.sf.at_]
  unfold posOne
  rw [if_neg (by omega), if_neg (by omega)]
theorem seq_plain (hA : PxOk A) (ih : SeqLaw A μ) (hN : NowB A X C i s c k m ops loc) (hμ : (A.fuel - k.used).toNat * 100 + (X.src.length - i) ≤ μ + 1) (hop : c.op = 0 ∨ 11 ≤ c.op) {tk : Tk} (hT : Tk0 X i loc tk) : ∃ N o, A.run N tk m = some o ∧ Res A X k s.cs s.st o := by
  have hmem : MemOk k.mem A.max := by rw [← hN.co.mem]; exact hN.com.memOk
  obtain ⟨lo, hlo⟩ := lstep_ok hN.F.body hN.sf hN.live hop hN.imm hN.inf.ty hN.inf.fit hN.inf.loc hmem X.low
  have hok := okS_at hA hN hlo.ty
  have hC := hN.F.body.code0 hN.sf (emit_plain (s := s) (i := i) (X := X) (c := c) (by omega))
  by_cases hu : ¬ k.used < A.fuel
  · exact seq_poor hN ⟨by omega, by omega, by omega⟩ hok hC ⟨by simp only; omega, by simp only; omega⟩ hu hT
  replace hu := Decidable.not_not.1 hu
  obtain ⟨hu', hpay⟩ := hN.rich hu
  have hmax := hN.co.max
  have hex := fexec_l A.P A.H C (i := ⟨c.op, c.imm, 0, 0⟩) ⟨X.fn, posM X.src i, ops, loc⟩ X.rest k.mem k.max k.s ⟨by simp only; omega, by simp only; omega, by simp only; omega, by simp only; omega, by simp only; omega, by simp only; omega, by simp only; omega, by simp only; omega⟩ (lo := lo) (by rw [hmax]; exact hlo.at_)
  have hlow : lstep ⟨c.op, c.imm, 0, 0⟩ m.paid.x.st tk.loc m.paid.mem A.max = { lo with ops := lo.ops ++ X.low } := by
    show lstep ⟨c.op, c.imm, 0, 0⟩ m.x.st tk.loc m.mem A.max = _
    rw [hN.st, hT.loc, hN.co.mem]
    exact hlo.lowAt
  have hS : ∀ rec, sins A.P A.H A.max rec tk c m = (if lo.t = 0 then some ⟨-1, 0, lo.loc, { (m.paid.st (lo.ops ++ X.low)) with mem := lo.mem }⟩ else some ⟨-1, lo.t, tk.loc, { (m.paid.st (lo.ops ++ X.low)) with mem := lo.mem }⟩) := fun rec => by
    rw [sins_plain hN hu ⟨by omega, by omega, by omega⟩]
    unfold plainS
    rw [if_neg (by omega), if_neg (by omega), if_neg (by omega), if_neg (by omega)]
    simp only [hlow]
    rw [if_neg (by have := hlo.t; omega)]
  by_cases h0 : lo.t = 0
  · rw [if_pos h0] at hex
    have hstep := paid_step hN hC ⟨by simp only; omega, by simp only; omega⟩ hu hex
    have hne0 : c.op ≠ 0 := fun h => hlo.op0 h h0
    obtain ⟨hcs, hlv⟩ := live_next hN (by omega)
    obtain ⟨c', hsf'⟩ := hN.F.body.all.next hN.sf (hN.sf.nlast (by omega))
    obtain ⟨hab, _⟩ := one_flat hN.sf (by omega) (by omega) (by omega)
    have hN2 : NowB A X C (i + 1) (s.one (A.E X) X.src i c).1 c' ⟨{ fn := X.fn, pc := posM X.src i + 1, ops := lo.ops, loc := lo.loc } :: X.rest, k.used + 1, wrap64 (wrap64 (k.n + 1) + 0), lo.mem, k.max, k.s⟩ { (m.paid.st (lo.ops ++ X.low)) with mem := lo.mem } lo.ops lo.loc :=
      { F := hN.F, sf := hsf', live := hlv
        inf := { fr := by rw [pos_next hN ⟨by omega, by omega, by omega, by omega⟩], ty := (hlo.opsAt h0).1, fit := (hlo.opsAt h0).2, loc := hlo.locAt }
        com := ⟨hN.com.fuel, hlo.memAt, hN.com.inv, (hN.com.paid hu').us⟩
        co := ⟨by show m.x.used + 1 = _; rw [hN.co.used], by show wrap64 (m.x.n + 1) = _; rw [hN.co.n, w64w], rfl, hN.co.hs, hmax⟩
        st := rfl, r4 := hN.r4, lw := hN.lw, lf := hN.lf }
    obtain ⟨N, o, h1, h2⟩ := cont ih hN hN2 hcs (hab.cut hN.sf.hts) hstep (by show k.used ≤ k.used + 1; omega) (by omega) hμ (tk := { tk with loc := lo.loc, i := tk.i + 1 }) ⟨hT.k, hT.src, by show tk.i + 1 = _; rw [hT.i], rfl, hT.depth⟩
    refine ⟨N + 1, o, srun_seq hT.k (by rw [hT.src, hT.i]; exact hN.sf.at_) (by omega) (by omega) (by rw [hT.loc]; exact hok) (by rw [hS, if_pos h0]) (.inr ⟨rfl, rfl, ?_⟩), h2⟩
    rw [if_neg (by omega)]
    exact h1
  · rw [if_neg h0] at hex
    have ht := hlo.t
    refine ⟨1, _, srun_seq (N := 0) hT.k (by rw [hT.src, hT.i]; exact hN.sf.at_) (by omega) (by omega) (by rw [hT.loc]; exact hok) (by rw [hS, if_neg h0]) (.inl ⟨.inl h0, rfl⟩), .inl ⟨h0, ?_⟩⟩
    have := paid_trap hN hC ⟨by simp only; omega, by simp only; omega⟩ hu hex ⟨h0, by omega⟩
    rw [← hN.co.used, ← hN.co.n, ← hN.co.hs, hmax] at this
    exact this
/-- a branch, taken: the flat machine's jump -/
theorem brd_of (hN : NowB A X C i s c k m ops loc) {l : Nat} {t : Ctl} (ht : s.cs[l]? = some t) {x : List UInt8} {a r : List V} {y : List UInt8} (hops : ops = a ++ r) (hr : r.map V.ty = t.label.reverse ++ y) (hcut : cut t.height s.st = cut t.height y) (hle : t.height ≤ y.length) {j : Nat} {k' : FC HS} {m' : MS} (hj : fsteps A.P A.H A.fuel j k = some k') (hfr : k'.fr = { (⟨X.fn, posM X.src i, ops, loc⟩ : FF) with pc := t.to X.src, ops := r.take t.label.length ++ r.drop (r.length - t.height) } :: X.rest) (hcm : CoM A.I A.fuel A.max m') (hco : Co A.max k' m') (hst : m'.x.st = r ++ X.low) (hus : k.used < k'.used) :
    Brd A X k s.cs s.st ⟨l, 0, loc, m'⟩ := by
  have hlen := hN.len
  have hrf : FitL r := (FitL.app.1 (hops ▸ hN.inf.fit)).2
  obtain ⟨p, q, e1, e2, e3, e4⟩ := opsN hr
  rw [List.length_reverse] at e4
  have hql : q.length = y.length := by rw [← e3]; simp
  have hdrop : r.drop (r.length - t.height) = q.drop (q.length - t.height) := by
    rw [e1, List.length_append, show p.length + q.length - t.height = p.length + (q.length - t.height) by omega, ← List.drop_drop, List.drop_left' rfl]
  refine ⟨rfl, l, t, j, k', r, rfl, ht, hj, hcm, hco, ⟨hfr, ?_, ?_, hN.inf.loc⟩, hst, ?_, ?_, hrf, hus⟩
  · rw [List.map_append, hdrop, e1, List.take_left' e4, e2, hcut]
    congr 1
    unfold cut
    rw [List.map_drop, e3, hql]
  · refine FitL.app.2 ⟨fun v hv => hrf v (List.mem_of_mem_take hv), fun v hv => hrf v (List.mem_of_mem_drop hv)⟩
  · rw [e1, List.length_append]; omega
  · rw [hops, List.length_append] at hlen; omega
theorem fjump_to (t : Ctl) (f : FF) (r : List V) (op : Int) : fjump f { t.jump X.src with op := op } r = { f with pc := t.to X.src, ops := r.take t.label.length ++ r.drop (r.length - t.height) } := by
  unfold fjump Ctl.jump Ctl.to
  simp
theorem seq_br (hA : PxOk A) (hN : NowB A X C i s c k m ops loc) (h6 : c.op = 6) {tk : Tk} (hT : Tk0 X i loc tk) : ∃ N o, A.run N tk m = some o ∧ Res A X k s.cs s.st o := by
  have hok := okS_at hA hN (by unfold tyS; simp [h6])
  obtain ⟨t, ht, y, e1, e2, e3⟩ := live_br hN.F.body hN.sf hN.live h6
  have himm := well_imm hN.sf.wl (by omega)
  have hem : emitM s X.src i c = [{ t.jump X.src with op := 6 }] := by
    unfold emitM
    rw [if_neg (by omega), if_neg (by omega), if_neg (by omega), if_neg (by omega), if_pos h6, Mk.jump_at ht]
    rfl
  have hC := hN.F.body.code0 hN.sf hem
  by_cases hu : ¬ k.used < A.fuel
  · exact seq_poor hN ⟨by omega, by omega, by omega⟩ hok hC ⟨by simp, by simp⟩ hu hT
  replace hu := Decidable.not_not.1 hu
  obtain ⟨hu', hpay⟩ := hN.rich hu
  have hex : fexec A.P A.H C { t.jump X.src with op := 6 } ⟨X.fn, posM X.src i, ops, loc⟩ X.rest k.mem k.max k.s = ⟨0, fjump ⟨X.fn, posM X.src i, ops, loc⟩ { t.jump X.src with op := 6 } ops :: X.rest, [], k.mem, k.s, 0⟩ := by
    unfold fexec
    rw [if_neg (by simp), if_neg (by simp), if_neg (by simp), if_pos rfl]
  have hstep := paid_step hN hC ⟨by simp, by simp⟩ hu hex
  rw [fjump_to] at hstep
  refine ⟨1, ⟨c.imm.toNat, 0, loc, m.paid⟩, srun_seq (N := 0) hT.k (by rw [hT.src, hT.i]; exact hN.sf.at_) (by omega) (by omega) (by rw [hT.loc]; exact hok) (o := ⟨c.imm.toNat, 0, loc, m.paid⟩) ?_ (.inl ⟨.inr (by simp only; omega), rfl⟩), .inr (.inr (.inr ?_))⟩
  · rw [sins_plain hN hu ⟨by omega, by omega, by omega⟩]
    unfold plainS
    rw [if_pos h6, hT.loc, show ((c.imm.toNat : Nat) : Int) = c.imm by omega]
  · exact brd_of hN ht (a := []) (r := ops) (x := []) rfl (by rw [hN.inf.ty, e1]) e2 e3 hstep rfl (hN.com.paid hu') ⟨by show m.x.used + 1 = _; rw [hN.co.used], by show wrap64 (m.x.n + 1) = _; rw [hN.co.n, w64w], hN.co.mem, hN.co.hs, hN.co.max⟩ hN.st (by show k.used < k.used + 1; omega)
end
end Go.Proofs.Qxb6500575aGreatDoor
