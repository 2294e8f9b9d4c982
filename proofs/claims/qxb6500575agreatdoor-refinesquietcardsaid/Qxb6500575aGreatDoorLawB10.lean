/-
  BOTH MACHINES: blocks, if, calls. No program.
-/
import Derived.Test.Qxb6500575aGreatDoorLawB9
namespace Go.Proofs.Qxb6500575aGreatDoor
open Go Go.RowKit
set_option linter.unusedVariables false
set_option linter.unusedSimpArgs false

section
variable {A : Px} {X : Fx} {C : List Flat} {i : Nat} {s : Mk} {c : Ins} {k k2 : FC HS} {m : MS} {ops loc : List V} {μ : Nat}
theorem keep_len (op imm : Int) (ht : Nat) (a : Int) (d : Bool) {op' : Int} (h : op = 2 ↔ op' = 2) : (if imm ≠ 0 ∧ op' ≠ 2 then 1 else 0) = (⟨op, imm, ht, a, d⟩ : Ctl).label.length := by
  unfold Ctl.label resOf
  by_cases h1 : op = 2
  · have := h.1 h1
    simp [h1, this]
  · have : ¬ op' = 2 := fun e => h1 (h.2 e)
    by_cases h2 : imm = 0
    · simp [h1, h2]
    · simp [h1, h2, this]
/-- behind a block -/
theorem after_block (hA : PxOk A) (ih : SeqLaw A μ) (hN : NowB A X C i s c k m ops loc) (hμ : (A.fuel - k.used).toNat * 100 + (X.src.length - i) ≤ μ + 1) (ho : c.op = 1 ∨ c.op = 2 ∨ c.op = 3) (hok : okS c loc A.max m = true) {j : Nat} (hj : fsteps A.P A.H A.fuel j k = some k2) (hu : k.used ≤ k2.used) {t : Ctl} (hat : t.at_ = i) (hbt : t.bt = c.imm) (hht : t.height = (s.one (A.E X) X.src i c).1.st.length)
    {tk : Tk} (hT : Tk0 X i loc tk) {N : Nat} {o : Ot} (hs : sins A.P A.H A.max (srun A.P A.srcs A.H A.max N) tk c m = some o) (hres : ResB A X k2 t s.cs (s.one (A.E X) X.src i c).1.st o) : ∃ N o, A.run N tk m = some o ∧ Res A X k s.cs s.st o := by
  have hb := hN.F.body
  obtain ⟨c1, hsf1⟩ := hb.all.next hN.sf (hN.sf.nlast (by omega))
  obtain ⟨hab, hcs1⟩ := one_open hN.sf ho
  have hh1 := hsf1.hts
  rw [hcs1] at hh1
  have hcut := hab.cut hN.sf.hts
  have hsc : tk.src[tk.i]? = some c := by rw [hT.src, hT.i]; exact hN.sf.at_
  rcases hres with h | h | h | h
  · exact ⟨N + 1, o, srun_seq hT.k hsc (by omega) (by omega) (by rw [hT.loc]; exact hok) hs (.inl ⟨.inl h.1, rfl⟩), .inl (h.pre hj)⟩
  · obtain ⟨en, sn, cn, t', a1, a2, a3, a4, a5, a6, a7, a8, _⟩ := ends_at hb.all hN.sf ho
    obtain ⟨c2, hsf2⟩ := hb.all.next a3 a6
    obtain ⟨h1, h2, j', k', ops', h3, h4, h5, h6, h7, h8⟩ := h
    have hET : (endT X.src t.at_).toNat = en := by
      unfold endT
      rw [hat, if_pos (by omega), show ((i : Int)).toNat = i by omega, a1]
      omega
    have hpos : posM X.src (en + 1) = posM X.src en := by
      rw [posM_succ a3.at_]
      unfold posOne
      rw [if_pos (by omega)]
      rfl
    have hself : cut t.height (s.one (A.E X) X.src i c).1.st = (s.one (A.E X) X.src i c).1.st := by unfold cut; rw [hht]; simp
    rw [hET, ← hpos, hself, hbt, ← a8] at h6
    have hty1 : TyL (s.one (A.E X) X.src i c).1.st ∧ ∀ t ∈ s.cs, t.dead = false := by
      rcases ho with ho | ho | ho
      · exact ⟨(live_open hN.sf hN.live (.inl ho)).2.ty, hN.live.on⟩
      · exact ⟨(live_open hN.sf hN.live (.inr ho)).2.ty, hN.live.on⟩
      · exact ⟨(live_if hN.sf hN.live ho).2.ty, hN.live.on⟩
    have hlv2 : Live (sn.one (A.E X) X.src en cn).1 := by
      refine ⟨by rw [a7]; exact hN.live.on, ?_⟩
      rw [a8]
      refine TyL.app.2 ⟨TyL.rev ?_, hty1.1⟩
      exact resOf_tyB (well_bt hN.sf.wl ho)
    have hN2 : NowB A X C (en + 1) (sn.one (A.E X) X.src en cn).1 c2 k' o.m ops' o.loc :=
      { F := hN.F, sf := hsf2, live := hlv2, inf := h6, com := h4, co := h5, st := h7, r4 := hN.r4, lw := hN.lw, lf := hN.lf }
    have hcut2 : ∀ t ∈ s.cs, cut t.height (sn.one (A.E X) X.src en cn).1.st = cut t.height s.st := fun t' ht' => by
      rw [a8, cut_app (HtsM.le hh1.2 t' ht'), hcut t' ht']
    obtain ⟨N2, o2, g1, g2⟩ := cont ih hN hN2 a7 hcut2 (fsteps_add _ _ _ _ _ hj h3) (by omega) (by omega) hμ (tk := { tk with loc := o.loc, i := en + 1 }) ⟨hT.k, hT.src, rfl, rfl, hT.depth⟩
    refine ⟨max N N2 + 1, o2, srun_seq hT.k hsc (by omega) (by omega) (by rw [hT.loc]; exact hok) (sins_mono (fun t m o h => srun_le (Nat.le_max_left N N2) h) hs) (.inr ⟨h1, h2, ?_⟩), g2⟩
    rw [if_pos ho, show (endsM tk.src tk.i).2.toNat = en by rw [hT.src, hT.i, a1]; rfl]
    exact srun_le (Nat.le_max_right N N2) g1
  · exact ⟨N + 1, o, srun_seq hT.k hsc (by omega) (by omega) (by rw [hT.loc]; exact hok) hs (.inl ⟨.inr (by rw [h.2.1]; decide), rfl⟩), .inr (.inr (.inl (h.pre hj hu)))⟩
  · refine ⟨N + 1, o, srun_seq hT.k hsc (by omega) (by omega) (by rw [hT.loc]; exact hok) hs (.inl ⟨.inr ?_, rfl⟩), .inr (.inr (.inr (h.pre hj hu hcut)))⟩
    obtain ⟨_, l, _, _, _, _, hl, _⟩ := h
    rw [hl]; omega
theorem seq_block (hA : PxOk A) (ih : SeqLaw A μ) (hN : NowB A X C i s c k m ops loc) (hμ : (A.fuel - k.used).toNat * 100 + (X.src.length - i) ≤ μ + 1) (ho : c.op = 1 ∨ c.op = 2) {tk : Tk} (hT : Tk0 X i loc tk) : ∃ N o, A.run N tk m = some o ∧ Res A X k s.cs s.st o := by
  have hok := okS_at hA hN (by unfold tyS; rw [if_neg (by omega), if_neg (by omega), if_neg (by omega), if_neg (by omega), if_neg (by omega), if_neg (by omega)])
  obtain ⟨e1, hlv⟩ := live_open hN.sf hN.live ho
  obtain ⟨_, hcs1⟩ := one_open hN.sf (by omega)
  obtain ⟨c1, hsf1⟩ := hN.F.body.all.next hN.sf (hN.sf.nlast (by omega))
  have hlt := (List.getElem?_eq_some_iff.1 hN.sf.at_).1
  have hpos : posM X.src (i + 1) = posM X.src i := by
    rw [posM_succ hN.sf.at_]
    unfold posOne
    rw [if_pos (by omega)]
    rfl
  have hN1 : NowB A X C (i + 1) (s.one (A.E X) X.src i c).1 c1 k m ops loc :=
    { F := hN.F, sf := hsf1, live := hlv, inf := by rw [hpos, e1]; exact hN.inf, com := hN.com, co := hN.co, st := hN.st, r4 := hN.r4, lw := hN.lw, lf := hN.lf }
  have hh : m.x.st.length = X.low.length + (s.one (A.E X) X.src i c).1.st.length := by
    rw [hN.st, List.length_append, hN.inf.len, e1]; omega
  obtain ⟨N, o, h1, h2⟩ := block_law (A := A) (X := X) (C := C) (μ := μ) ih hcs1 rfl (fun _ => by show posM X.src (i : Int).toNat = _; rw [hpos]; simp) _ k m ops loc hN1 (Nat.le_refl _) (meas_on (Nat.le_refl _) (Nat.lt_succ_self i) hlt hμ) { tk with k := 1, i := tk.i + 1, op := c.op, h := m.x.st.length, keep := if c.imm ≠ 0 ∧ c.op ≠ 2 then 1 else 0 }
    ⟨rfl, hT.src, by show tk.i + 1 = _; rw [hT.i], hT.loc, hT.depth, Iff.rfl, hh, keep_len _ _ _ _ _ Iff.rfl⟩
  refine after_block hA ih hN hμ (by omega) hok (j := 0) (k2 := k) rfl (Int.le_refl _) rfl rfl rfl hT (N := N) (o := o) ?_ h2
  unfold sins
  rw [if_pos ho]
  exact h1
theorem seq_if (hA : PxOk A) (ih : SeqLaw A μ) (hN : NowB A X C i s c k m ops loc) (hμ : (A.fuel - k.used).toNat * 100 + (X.src.length - i) ≤ μ + 1) (h3 : c.op = 3) {tk : Tk} (hT : Tk0 X i loc tk) : ∃ N o, A.run N tk m = some o ∧ Res A X k s.cs s.st o := by
  obtain ⟨e1, hlv⟩ := live_if hN.sf hN.live h3
  have hty := hN.inf.ty
  rw [e1] at hty
  obtain ⟨v, r, rfl, t1, t2⟩ := ops1 hty
  have hok := okS_at hA hN (by unfold tyS; simp [h3, t1])
  have hem : emitM s X.src i c = [⟨3, posM X.src (altT X.src i).toNat, 0, 0⟩] := by
    unfold emitM
    rw [if_neg (by omega), if_pos h3]
  have hC := hN.F.body.code0 hN.sf hem
  by_cases hu : ¬ k.used < A.fuel
  · exact seq_poor hN ⟨by omega, by omega, by omega⟩ hok hC ⟨by simp, by simp⟩ hu hT
  replace hu := Decidable.not_not.1 hu
  obtain ⟨hu', hpay⟩ := hN.rich hu
  obtain ⟨_, hcs1⟩ := one_open hN.sf (by omega)
  have hlt := (List.getElem?_eq_some_iff.1 hN.sf.at_).1
  have hrf := (FitL.cons.1 hN.inf.fit).2
  have hst : m.x.pay.1.st = v :: (r ++ X.low) := by rw [hpay]; exact hN.st
  have hm1 : ({ m with x := m.x.pay.1 } : MS).st (r ++ X.low) = m.paid.st (r ++ X.low) := by rw [hpay]; rfl
  have hex : fexec A.P A.H C ⟨3, posM X.src (altT X.src i).toNat, 0, 0⟩ ⟨X.fn, posM X.src i, v :: r, loc⟩ X.rest k.mem k.max k.s = ⟨0, ⟨X.fn, if v.num = 0 then posM X.src (altT X.src i).toNat else posM X.src i + 1, r, loc⟩ :: X.rest, [], k.mem, k.s, 0⟩ := by
    unfold fexec
    rw [if_pos rfl]
    simp
  have hstep := paid_step hN hC ⟨by simp, by simp⟩ hu hex
  have hcom : CoM A.I A.fuel A.max (m.paid.st (r ++ X.low)) := ⟨hN.com.fuel, hN.com.memOk, hN.com.inv, (hN.com.paid hu').us⟩
  have hco : ∀ fr, Co A.max ⟨fr, k.used + 1, wrap64 (wrap64 (k.n + 1) + 0), k.mem, k.max, k.s⟩ (m.paid.st (r ++ X.low)) := fun fr => ⟨by show m.x.used + 1 = _; rw [hN.co.used], by show wrap64 (m.x.n + 1) = _; rw [hN.co.n, w64w], hN.co.mem, hN.co.hs, hN.co.max⟩
  have hh : (r ++ X.low).length = X.low.length + (s.one (A.E X) X.src i c).1.st.length := by
    rw [List.length_append, ← t2, List.length_map]; omega
  have hle1 : k.used ≤ k.used + 1 := by omega
  have hS : ∀ rec, sins A.P A.H A.max rec tk c m = (if v.num = 0 then
        (if (endsM tk.src tk.i).1 < 0 then some ⟨-1, 0, tk.loc, m.paid.st (r ++ X.low)⟩
         else rec { tk with k := 1, i := ((endsM tk.src tk.i).1 + 1).toNat, op := c.op, h := (r ++ X.low).length, keep := if c.imm ≠ 0 ∧ c.op ≠ 2 then 1 else 0 } (m.paid.st (r ++ X.low)))
      else rec { tk with k := 1, i := tk.i + 1, op := c.op, h := (r ++ X.low).length, keep := if c.imm ≠ 0 ∧ c.op ≠ 2 then 1 else 0 } (m.paid.st (r ++ X.low))) := fun rec => by
    unfold sins
    rw [if_neg (by omega), if_neg (by rw [hpay]; simp), if_pos h3, hst]
    simp only [hm1]
  by_cases hv : v.num = 0
  · simp only [if_pos hv] at hS hstep
    obtain ⟨en, sn, cn, t', a1, a2, a3, a4, a5, a6, a7, a8, a9⟩ := ends_at hN.F.body.all hN.sf (by omega)
    rcases a9 with ⟨b1, b2⟩ | ⟨el, sl, cl, b1, b2, b3, b4, b5, b6, b7⟩
    · have halt : (altT X.src i).toNat = en := by unfold altT; rw [if_neg (by omega), a1]; omega
      have hET : (endT X.src (i : Int)).toNat = en := by
        unfold endT
        rw [if_pos (by omega), show ((i : Int)).toNat = i by omega, a1]
        omega
      rw [halt] at hstep
      refine after_block hA ih hN hμ (by omega) hok hstep hle1 (t := ⟨3, c.imm, (s.one (A.E X) X.src i c).1.st.length, i, false⟩) rfl rfl rfl hT (N := 0) (o := ⟨-1, 0, tk.loc, m.paid.st (r ++ X.low)⟩) ?_ (.inr (.inl ⟨rfl, rfl, 0, _, r, rfl, hcom, hco _, ?_, rfl, Int.le_refl _⟩))
      · rw [hS, if_pos (by rw [hT.src, hT.i, b1]; decide)]
      · refine ⟨by simp only [hET]; rw [hT.loc], ?_, hrf, by rw [hT.loc]; exact hN.inf.loc⟩
        rw [t2]
        simp only
        rw [b2 h3]
        unfold cut
        simp [resOf]
    · have halt : (altT X.src i).toNat = el + 1 := by unfold altT; rw [if_pos (by omega), b1]; omega
      rw [halt] at hstep
      obtain ⟨c2, hsf2⟩ := hN.F.body.all.next b4 (by have := (List.getElem?_eq_some_iff.1 a3.at_).1; omega)
      have hlv2 : Live (sl.one (A.E X) X.src el cl).1 := by
        refine ⟨fun t ht => ?_, by rw [b7]; exact hlv.ty⟩
        rw [b6] at ht
        rcases List.mem_cons.1 ht with rfl | ht
        · rfl
        · exact hN.live.on t ht
      have hN2 : NowB A X C (el + 1) (sl.one (A.E X) X.src el cl).1 c2 ⟨⟨X.fn, posM X.src (el + 1), r, loc⟩ :: X.rest, k.used + 1, wrap64 (wrap64 (k.n + 1) + 0), k.mem, k.max, k.s⟩ (m.paid.st (r ++ X.low)) r loc :=
        { F := hN.F, sf := hsf2, live := hlv2, inf := ⟨rfl, by rw [b7]; exact t2, hrf, hN.inf.loc⟩, com := hcom, co := hco _, st := rfl, r4 := hN.r4, lw := hN.lw, lf := hN.lf }
      obtain ⟨N, o, g1, g2⟩ := block_law (A := A) (X := X) (C := C) (μ := μ) ih b6 (by rw [b7]) (fun e => by simp at e) _ _ _ r loc hN2 (Nat.le_refl _) (meas_on (fuel_le hle1) (by omega) hlt hμ) { tk with k := 1, i := ((endsM tk.src tk.i).1 + 1).toNat, op := c.op, h := (r ++ X.low).length, keep := if c.imm ≠ 0 ∧ c.op ≠ 2 then 1 else 0 }
        ⟨rfl, hT.src, by show ((endsM tk.src tk.i).1 + 1).toNat = _; rw [hT.src, hT.i, b1]; omega, hT.loc, hT.depth, by show c.op = 2 ↔ (4 : Int) = 2; constructor <;> intro h <;> omega, hh, keep_len _ _ _ _ _ (by constructor <;> intro h <;> omega)⟩
      rw [b7] at g2
      refine after_block hA ih hN hμ (by omega) hok hstep hle1 rfl rfl rfl hT (N := N) (o := o) ?_ g2
      rw [hS, if_neg (by rw [hT.src, hT.i, b1]; omega)]
      exact g1
  · simp only [if_neg hv] at hS hstep
    obtain ⟨c1, hsf1⟩ := hN.F.body.all.next hN.sf (hN.sf.nlast (by omega))
    have hpos := pos_next hN ⟨by omega, by omega, by omega, by omega⟩
    rw [← hpos] at hstep
    have hN1 : NowB A X C (i + 1) (s.one (A.E X) X.src i c).1 c1 ⟨⟨X.fn, posM X.src (i + 1), r, loc⟩ :: X.rest, k.used + 1, wrap64 (wrap64 (k.n + 1) + 0), k.mem, k.max, k.s⟩ (m.paid.st (r ++ X.low)) r loc :=
      { F := hN.F, sf := hsf1, live := hlv, inf := ⟨rfl, t2, hrf, hN.inf.loc⟩, com := hcom, co := hco _, st := rfl, r4 := hN.r4, lw := hN.lw, lf := hN.lf }
    obtain ⟨N, o, g1, g2⟩ := block_law (A := A) (X := X) (C := C) (μ := μ) ih hcs1 rfl (fun e => by simp only at e; omega) _ _ _ r loc hN1 (Nat.le_refl _) (meas_on (fuel_le hle1) (Nat.lt_succ_self i) hlt hμ) { tk with k := 1, i := tk.i + 1, op := c.op, h := (r ++ X.low).length, keep := if c.imm ≠ 0 ∧ c.op ≠ 2 then 1 else 0 }
      ⟨rfl, hT.src, by show tk.i + 1 = _; rw [hT.i], hT.loc, hT.depth, Iff.rfl, hh, keep_len _ _ _ _ _ Iff.rfl⟩
    refine after_block hA ih hN hμ (by omega) hok hstep hle1 rfl rfl rfl hT (N := N) (o := o) ?_ g2
    rw [hS]
    exact g1
end
end Go.Proofs.Qxb6500575aGreatDoor
