/-
  BOTH MACHINES, one instruction: br_if, br_table, return, else, end. No program.
-/
import Derived.Test.Qxb6500575aGreatDoorLawB8
namespace Go.Proofs.Qxb6500575aGreatDoor
open Go Go.RowKit
set_option linter.unusedVariables false
set_option linter.unusedSimpArgs false

section
variable {A : Px} {X : Fx} {C : List Flat} {i : Nat} {s : Mk} {c : Ins} {k : FC HS} {m : MS} {ops loc : List V} {μ : Nat}
theorem seq_brif (hA : PxOk A) (ih : SeqLaw A μ) (hN : NowB A X C i s c k m ops loc) (hμ : (A.fuel - k.used).toNat * 100 + (X.src.length - i) ≤ μ + 1) (h7 : c.op = 7) {tk : Tk} (hT : Tk0 X i loc tk) : ∃ N o, A.run N tk m = some o ∧ Res A X k s.cs s.st o := by
  obtain ⟨t, ht, ⟨y, e1, e2, e3, e4⟩, hcs, hlv⟩ := live_brif hN.F.body hN.sf hN.live h7
  have hty := hN.inf.ty
  rw [e1] at hty
  obtain ⟨v, r, rfl, t1, t2⟩ := ops1 hty
  have hok := okS_at hA hN (by unfold tyS; simp [h7, t1])
  have himm := well_imm hN.sf.wl (by omega)
  have hem : emitM s X.src i c = [{ t.jump X.src with op := 7 }] := by
    unfold emitM
    rw [if_neg (by omega), if_neg (by omega), if_neg (by omega), if_neg (by omega), if_neg (by omega), if_pos h7, Mk.jump_at ht]
  have hC := hN.F.body.code0 hN.sf hem
  by_cases hu : ¬ k.used < A.fuel
  · exact seq_poor hN ⟨by omega, by omega, by omega⟩ hok hC ⟨by simp, by simp⟩ hu hT
  replace hu := Decidable.not_not.1 hu
  obtain ⟨hu', hpay⟩ := hN.rich hu
  have hst : m.paid.x.st = v :: (r ++ X.low) := hN.st
  have hS : ∀ rec, sins A.P A.H A.max rec tk c m = some ⟨if v.num = 0 then -1 else c.imm, 0, tk.loc, m.paid.st (r ++ X.low)⟩ := fun rec => by
    rw [sins_plain hN hu ⟨by omega, by omega, by omega⟩]
    unfold plainS
    rw [if_neg (by omega), if_pos h7, hst]
  by_cases hv : v.num = 0
  · have hex : fexec A.P A.H C { t.jump X.src with op := 7 } ⟨X.fn, posM X.src i, v :: r, loc⟩ X.rest k.mem k.max k.s = ⟨0, ⟨X.fn, posM X.src i + 1, r, loc⟩ :: X.rest, [], k.mem, k.s, 0⟩ := by
      unfold fexec
      rw [if_neg (by simp), if_neg (by simp), if_neg (by simp), if_neg (by simp), if_pos rfl]
      simp only [hv, if_true]
    have hstep := paid_step hN hC ⟨by simp, by simp⟩ hu hex
    obtain ⟨c', hsf'⟩ := hN.F.body.all.next hN.sf (hN.sf.nlast (by omega))
    obtain ⟨hab, _⟩ := one_flat hN.sf (by omega) (by omega) (by omega)
    have hN2 : NowB A X C (i + 1) (s.one (A.E X) X.src i c).1 c' ⟨⟨X.fn, posM X.src i + 1, r, loc⟩ :: X.rest, k.used + 1, wrap64 (wrap64 (k.n + 1) + 0), k.mem, k.max, k.s⟩ (m.paid.st (r ++ X.low)) r loc :=
      { F := hN.F, sf := hsf', live := hlv
        inf := { fr := by rw [pos_next hN ⟨by omega, by omega, by omega, by omega⟩], ty := by rw [t2, e4], fit := (FitL.cons.1 hN.inf.fit).2, loc := hN.inf.loc }
        com := ⟨hN.com.fuel, hN.com.memOk, hN.com.inv, (hN.com.paid hu').us⟩
        co := ⟨by show m.x.used + 1 = _; rw [hN.co.used], by show wrap64 (m.x.n + 1) = _; rw [hN.co.n, w64w], hN.co.mem, hN.co.hs, hN.co.max⟩
        st := rfl, r4 := hN.r4, lw := hN.lw, lf := hN.lf }
    obtain ⟨N, o, h1, h2⟩ := cont ih hN hN2 hcs (hab.cut hN.sf.hts) hstep (by show k.used ≤ k.used + 1; omega) (by omega) hμ (tk := { tk with i := tk.i + 1 }) ⟨hT.k, hT.src, by show tk.i + 1 = _; rw [hT.i], hT.loc, hT.depth⟩
    refine ⟨N + 1, o, srun_seq hT.k (by rw [hT.src, hT.i]; exact hN.sf.at_) (by omega) (by omega) (by rw [hT.loc]; exact hok) (by rw [hS, if_pos hv]) (.inr ⟨rfl, rfl, ?_⟩), h2⟩
    rw [if_neg (by omega)]
    exact h1
  · have hex : fexec A.P A.H C { t.jump X.src with op := 7 } ⟨X.fn, posM X.src i, v :: r, loc⟩ X.rest k.mem k.max k.s = ⟨0, fjump ⟨X.fn, posM X.src i, v :: r, loc⟩ { t.jump X.src with op := 7 } r :: X.rest, [], k.mem, k.s, 0⟩ := by
      unfold fexec
      rw [if_neg (by simp), if_neg (by simp), if_neg (by simp), if_neg (by simp), if_pos rfl]
      simp only [hv, if_false]
    have hstep := paid_step hN hC ⟨by simp, by simp⟩ hu hex
    rw [fjump_to] at hstep
    refine ⟨1, ⟨c.imm.toNat, 0, loc, m.paid.st (r ++ X.low)⟩, srun_seq (N := 0) hT.k (by rw [hT.src, hT.i]; exact hN.sf.at_) (by omega) (by omega) (by rw [hT.loc]; exact hok) (o := ⟨c.imm.toNat, 0, loc, m.paid.st (r ++ X.low)⟩) ?_ (.inl ⟨.inr (by simp only; omega), rfl⟩), .inr (.inr (.inr ?_))⟩
    · rw [hS, if_neg hv, hT.loc, show ((c.imm.toNat : Nat) : Int) = c.imm by omega]
    · exact brd_of hN ht (a := [v]) (r := r) (x := []) rfl t2 e2 e3 hstep rfl ⟨hN.com.fuel, hN.com.memOk, hN.com.inv, (hN.com.paid hu').us⟩ ⟨by show m.x.used + 1 = _; rw [hN.co.used], by show wrap64 (m.x.n + 1) = _; rw [hN.co.n, w64w], hN.co.mem, hN.co.hs, hN.co.max⟩ rfl (by show k.used < k.used + 1; omega)
theorem seq_tab (hA : PxOk A) (hN : NowB A X C i s c k m ops loc) (h8 : c.op = 8) {tk : Tk} (hT : Tk0 X i loc tk) : ∃ N o, A.run N tk m = some o ∧ Res A X k s.cs s.st o := by
  obtain ⟨y, l, e1, hall⟩ := live_tab hN.F.body hN.sf hN.live h8
  have hty := hN.inf.ty
  rw [e1] at hty
  obtain ⟨v, r, rfl, t1, t2⟩ := ops1 hty
  have hok := okS_at hA hN (by unfold tyS; simp [h8, t1])
  have hem : emitM s X.src i c = ⟨8, (c.tab.length : Int) - 1, 0, 0⟩ :: c.tab.map (fun t => s.jump X.src t.toNat) := by
    unfold emitM
    rw [if_neg (by omega), if_neg (by omega), if_neg (by omega), if_neg (by omega), if_neg (by omega), if_neg (by omega), if_pos h8]
  have hC := hN.F.body.code0 hN.sf hem
  by_cases hu : ¬ k.used < A.fuel
  · exact seq_poor hN ⟨by omega, by omega, by omega⟩ hok hC ⟨by simp, by simp⟩ hu hT
  replace hu := Decidable.not_not.1 hu
  obtain ⟨hu', hpay⟩ := hN.rich hu
  have hst : m.paid.bump.x.st = v :: (r ++ X.low) := hN.st
  have hst0 : m.paid.x.st = v :: (r ++ X.low) := hN.st
  have hwt := well_tab1 hN.sf.wl h8
  obtain ⟨p, hp⟩ : ∃ p : Nat, p = (min (v.num % 4294967296) ((c.tab.length : Int) - 1)).toNat := ⟨_, rfl⟩
  have hpl : p < c.tab.length := by rw [hp]; omega
  have htp : c.tab[p]? = some c.tab[p] := List.getElem?_eq_getElem hpl
  obtain ⟨b, hb, hbl, hbc, hbh⟩ := hall c.tab[p] (List.getElem_mem hpl)
  have hC2 : C[posM X.src i + (1 + p)]? = some { b.jump X.src with op := 6 } := by
    have := hN.F.body.codeAt hN.sf (1 + p) (by rw [hem]; simp; omega)
    rw [this, hem, Nat.add_comm 1 p, List.getElem?_cons_succ, List.getElem?_map, htp]
    simp only [Option.map_some, Mk.jump_at hb]
    rfl
  have hex : fexec A.P A.H C ⟨8, (c.tab.length : Int) - 1, 0, 0⟩ ⟨X.fn, posM X.src i, v :: r, loc⟩ X.rest k.mem k.max k.s = ⟨0, fjump ⟨X.fn, posM X.src i, v :: r, loc⟩ { b.jump X.src with op := 6 } r :: X.rest, [], k.mem, k.s, 1⟩ := by
    unfold fexec
    rw [if_neg (by simp), if_neg (by simp), if_neg (by simp), if_neg (by simp), if_neg (by simp), if_pos rfl]
    simp only
    rw [← hp, show posM X.src i + 1 + p = posM X.src i + (1 + p) by omega, hC2]
  have hstep := paid_step hN hC ⟨by simp, by simp⟩ hu hex
  rw [fjump_to] at hstep
  have hS : ∀ rec, sins A.P A.H A.max rec tk c m = some ⟨(c.tab[p].toNat : Nat), 0, tk.loc, m.paid.bump.st (r ++ X.low)⟩ := fun rec => by
    rw [sins_plain hN hu ⟨by omega, by omega, by omega⟩]
    unfold plainS
    rw [if_neg (by omega), if_neg (by omega), if_pos h8, hst0]
    simp only
    rw [← hp, htp]
  refine ⟨1, ⟨(c.tab[p].toNat : Nat), 0, loc, m.paid.bump.st (r ++ X.low)⟩, srun_seq (N := 0) hT.k (by rw [hT.src, hT.i]; exact hN.sf.at_) (by omega) (by omega) (by rw [hT.loc]; exact hok) (o := ⟨(c.tab[p].toNat : Nat), 0, loc, m.paid.bump.st (r ++ X.low)⟩) (by rw [hS, hT.loc]) (.inl ⟨.inr (by simp only; omega), rfl⟩), .inr (.inr (.inr ?_))⟩
  exact brd_of hN hb (a := [v]) (r := r) (x := []) rfl (by rw [t2, hbl]) hbc hbh hstep rfl ⟨hN.com.fuel, hN.com.memOk, hN.com.inv, (hN.com.paid hu').us⟩ ⟨by show m.x.used + 1 = _; rw [hN.co.used], by show wrap64 (wrap64 (m.x.n + 1) + 1) = _; rw [hN.co.n], hN.co.mem, hN.co.hs, hN.co.max⟩ rfl (by show k.used < k.used + 1; omega)
/-- the frame is left -/
theorem fleave_dn (P : ProgD) (f : FF) (rest : List FF) (mem : List UInt8) (s : HS) : (fleave P f rest mem s).dn = 0 ∧ (fleave P f rest mem s).mem = mem ∧ (fleave P f rest mem s).s = s := by
  unfold fleave
  split <;> exact ⟨rfl, rfl, rfl⟩
theorem seq_ret (hA : PxOk A) (hN : NowB A X C i s c k m ops loc) (h9 : c.op = 9) {tk : Tk} (hT : Tk0 X i loc tk) : ∃ N o, A.run N tk m = some o ∧ Res A X k s.cs s.st o := by
  have hok := okS_at hA hN (by unfold tyS; simp [h9])
  obtain ⟨y, e1⟩ := live_ret hN.F.body hN.sf hN.live h9
  have hC := hN.F.body.code0 hN.sf (emit_plain (s := s) (i := i) (X := X) (c := c) (by omega))
  by_cases hu : ¬ k.used < A.fuel
  · exact seq_poor hN ⟨by omega, by omega, by omega⟩ hok hC ⟨by simp only; omega, by simp only; omega⟩ hu hT
  replace hu := Decidable.not_not.1 hu
  obtain ⟨hu', hpay⟩ := hN.rich hu
  have hex : fexec A.P A.H C ⟨c.op, c.imm, 0, 0⟩ ⟨X.fn, posM X.src i, ops, loc⟩ X.rest k.mem k.max k.s = fleave A.P ⟨X.fn, posM X.src i, ops, loc⟩ X.rest k.mem k.s := by
    unfold fexec
    rw [if_neg (by simp only; omega), if_neg (by simp only; omega), if_pos (.inr h9)]
  have hround := fround_paid (A := A) hN.inf.fr hN.codeAt hC ⟨by simp only; omega, by simp only; omega⟩ hu
  rw [hex] at hround
  obtain ⟨d1, d2, d3⟩ := fleave_dn A.P ⟨X.fn, posM X.src i, ops, loc⟩ X.rest k.mem k.s
  refine ⟨1, ⟨-2, 0, loc, m.paid⟩, srun_seq (N := 0) hT.k (by rw [hT.src, hT.i]; exact hN.sf.at_) (by omega) (by omega) (by rw [hT.loc]; exact hok) (o := ⟨-2, 0, loc, m.paid⟩) ?_ (.inl ⟨.inr (by simp), rfl⟩), .inr (.inr (.inl ⟨rfl, rfl, ⟨X.fn, posM X.src i, ops, loc⟩, y, ⟨0, k, rfl, ?_⟩, hN.com.paid hu', rfl, ?_, hN.inf.fit, hN.st, ?_, hN.len⟩))⟩
  · rw [sins_plain hN hu ⟨by omega, by omega, by omega⟩]
    unfold plainS
    rw [if_neg (by omega), if_neg (by omega), if_neg (by omega), if_pos h9, hT.loc]
  · rw [hround]
    have e2 : m.paid.mem = k.mem := hN.co.mem
    have e3 : m.paid.x.hs = k.s := hN.co.hs
    have e4 : m.paid.x.used = k.used + 1 := by show m.x.used + 1 = _; rw [hN.co.used]
    have e5 : m.paid.x.n = wrap64 (k.n + 1) := by show wrap64 (m.x.n + 1) = _; rw [hN.co.n]
    rw [e2, e3, e4, e5]
    unfold fafter
    rw [d1, d2, d3, w64w, hN.co.max]
  · rw [hN.inf.ty]; exact e1
  · show k.used ≤ m.x.used + 1; rw [hN.co.used]; omega
theorem seq_end (hN : NowB A X C i s c k m ops loc) (h5 : c.op = 5) {tk : Tk} (hT : Tk0 X i loc tk) : ∃ N o, A.run N tk m = some o ∧ Res A X k s.cs s.st o := by
  obtain ⟨t, r, hcs, e1⟩ := live_end hN.F.body hN.sf hN.live h5
  have hend : (endT X.src t.at_).toNat = i := by
    unfold endT
    by_cases ha : 0 ≤ t.at_
    · rw [if_pos ha]
      obtain ⟨e, he, _⟩ := hN.sf.ends 0 t (by rw [hcs]; rfl) ha
      rw [he, endsR_cons hN.sf.at_, if_neg (by omega), if_neg (by omega), if_pos h5, if_pos rfl]
      simp
    · rw [if_neg ha]
      have hb := hN.sf.base 0 t (by rw [hcs]; rfl)
      have hlen1 : s.cs.length = 1 := by
        rw [hcs] at hb ⊢
        cases r with
        | nil => rfl
        | cons a b =>
          have := hb.2 (by simp)
          omega
      have := (hN.sf.last h5).1 hlen1
      omega
  refine ⟨1, ⟨-1, 0, loc, m⟩, ?_, .inr (.inl ⟨t, r, hcs, rfl, rfl, 0, k, ops, rfl, hN.com, hN.co, ?_, hN.st, Int.le_refl _⟩)⟩
  · show srun _ _ _ _ 1 tk m = _
    rw [srun, if_pos hT.k]
    unfold sseq
    rw [hT.src, hT.i, hN.sf.at_]
    simp only
    rw [if_pos h5, hT.loc]
  · rw [hend, ← e1]
    exact hN.inf
theorem seq_else (hN : NowB A X C i s c k m ops loc) (h4 : c.op = 4) {tk : Tk} (hT : Tk0 X i loc tk) : ∃ N o, A.run N tk m = some o ∧ Res A X k s.cs s.st o := by
  obtain ⟨t, r, hcs, ha, e1⟩ := live_else hN.F.body hN.sf hN.live h4
  have hem : emitM s X.src i c = [⟨4, posM X.src (endsM X.src t.at_.toNat).2.toNat, 0, 0⟩] := by
    unfold emitM
    rw [if_neg (by omega), if_neg (by omega), if_pos h4, hcs]
  have hC := hN.F.body.code0 hN.sf hem
  have hround := fround_free (A := A) hN.inf.fr hN.codeAt hC (.inl rfl)
  have hex : fexec A.P A.H C ⟨4, posM X.src (endsM X.src t.at_.toNat).2.toNat, 0, 0⟩ ⟨X.fn, posM X.src i, ops, loc⟩ X.rest k.mem k.max k.s = ⟨0, ⟨X.fn, posM X.src (endsM X.src t.at_.toNat).2.toNat, ops, loc⟩ :: X.rest, [], k.mem, k.s, 0⟩ := by
    unfold fexec
    rw [if_neg (by simp), if_pos rfl]
    simp
  rw [hex] at hround
  have hET : endT X.src t.at_ = (endsM X.src t.at_.toNat).2 := by unfold endT; rw [if_pos ha]
  refine ⟨1, ⟨-1, 0, loc, m.bump⟩, ?_, .inr (.inl ⟨t, r, hcs, rfl, rfl, 1, _, ops, fsteps_one (v := []) hround, ⟨hN.com.fuel, hN.com.memOk, hN.com.inv, hN.com.us⟩, ⟨hN.co.used, by show wrap64 (m.x.n + 1) = wrap64 (wrap64 (k.n + 1) + 0); rw [hN.co.n, w64w], hN.co.mem, hN.co.hs, hN.co.max⟩, ?_, hN.st, Int.le_refl _⟩)⟩
  · show srun _ _ _ _ 1 tk m = _
    rw [srun, if_pos hT.k]
    unfold sseq
    rw [hT.src, hT.i, hN.sf.at_]
    simp only
    rw [if_neg (by omega), if_pos h4, hT.loc]
  · rw [hET, ← e1]
    exact ⟨rfl, hN.inf.ty, hN.inf.fit, hN.inf.loc⟩
end
end Go.Proofs.Qxb6500575aGreatDoor
