/-
  THE ROUNDS OF A BLOCK, both machines; the steps that both take. No program.
-/
import Derived.Test.Qxb6500575aGreatDoorLawB6
namespace Go.Proofs.Qxb6500575aGreatDoor
open Go Go.RowKit
set_option linter.unusedVariables false
set_option linter.unusedSimpArgs false

theorem cutV_at {ops low : List V} {ht keep : Nat} (h : keep + ht ≤ ops.length) (hl : (ops ++ low).length ≤ 900) : cutV (low.length + ht) keep (ops ++ low) = some (ops.take keep ++ ops.drop (ops.length - ht) ++ low) := by
  unfold cutV
  rw [List.length_append] at hl ⊢
  rw [if_pos (by omega)]
  rw [List.take_append_of_le_length (by omega), show ops.length + low.length - (low.length + ht) = ops.length - ht by omega, List.drop_append_of_le_length (by omega), List.append_assoc]
theorem fuel_lt {a b c : Int} (h1 : b < c) (h2 : c = 0 ∨ c ≤ a) (h3 : 0 ≤ b) : (a - c).toNat < (a - b).toNat := by omega
theorem fuel_mul {x y z μ φ : Nat} (h : x < y) (h1 : y ≤ φ) (h2 : y * 100 + z ≤ μ) : x < φ ∧ x * 100 + z ≤ μ := by omega
theorem fuel_le {a b c : Int} (h1 : b ≤ c) : (a - c).toNat ≤ (a - b).toNat := by omega
theorem meas_on {x y z i i2 μ : Nat} (h : x ≤ y) (hi : i < i2) (hl : i < z) (h2 : y * 100 + (z - i) ≤ μ + 1) : x * 100 + (z - i2) ≤ μ := by omega
theorem meas_call {a b : Int} {z i l μ : Nat} (hb : b < a) (hl : l ≤ 24) (h2 : (a - b).toNat * 100 + (z - i) ≤ μ + 1) : (a - (b + 1)).toNat * 100 + l ≤ μ := by omega
section
variable {A : Px} {X : Fx} {C : List Flat}
theorem InF.len {k : FC HS} {fn pc : Nat} {ops loc : List V} {rest : List FF} {E : Env} {ty : List UInt8} (h : InF k fn pc ops loc rest E ty) : ops.length = ty.length := by rw [← h.ty]; simp
theorem NowB.len {i : Nat} {s : Mk} {c : Ins} {k : FC HS} {m : MS} {ops loc : List V} (h : NowB A X C i s c k m ops loc) : ops.length ≤ 24 := by
  have h1 := h.inf.len
  have h2 := h.sf.len
  have h3 := (List.getElem?_eq_some_iff.1 h.sf.at_).1
  have h4 := h.F.len.1
  omega
/-- a task of kind 1: the block t -/
structure Tk1 (X : Fx) (i : Nat) (loc : List V) (t : Ctl) (tk : Tk) : Prop where
  k : tk.k = 1
  src : tk.src = X.src
  i : tk.i = i
  loc : tk.loc = loc
  depth : tk.depth = X.rest.length + 1
  op : tk.op = 2 ↔ t.op = 2
  h : tk.h = X.low.length + t.height
  keep : tk.keep = t.label.length
/-- what a block comes to: r: the labels outside it -/
def ResB (A : Px) (X : Fx) (k : FC HS) (t : Ctl) (r : List Ctl) (st : List UInt8) (o : Ot) : Prop :=
  Trap A k o ∨ Fell A X k t st o ∨ Retd A X k o ∨ Brd A X k r st o
theorem block_go {μ φ : Nat} (ih : SeqLaw A μ) {i1 : Nat} {s1 : Mk} {c1 : Ins} {t : Ctl} {r : List Ctl} (hcs : s1.cs = t :: r) (hht : t.height = s1.st.length) (hpc : t.op = 2 → posM X.src t.at_.toNat = posM X.src i1)
    (ihφ : ∀ (k : FC HS) (m : MS) (ops loc : List V), NowB A X C i1 s1 c1 k m ops loc → (A.fuel - k.used).toNat < φ → (A.fuel - k.used).toNat * 100 + (X.src.length - i1) ≤ μ → ∀ tk : Tk, Tk1 X i1 loc t tk → ∃ N o, A.run N tk m = some o ∧ ResB A X k t r s1.st o) :
    ∀ (k : FC HS) (m : MS) (ops loc : List V), NowB A X C i1 s1 c1 k m ops loc → (A.fuel - k.used).toNat ≤ φ → (A.fuel - k.used).toNat * 100 + (X.src.length - i1) ≤ μ → ∀ tk : Tk, Tk1 X i1 loc t tk → ∃ N o, A.run N tk m = some o ∧ ResB A X k t r s1.st o := by
  intro k m ops loc hN hφ hμ tk hT
  obtain ⟨N, o, hrun, hres⟩ := ih X C i1 s1 c1 k m ops loc hN hμ { tk with k := 0 } ⟨rfl, hT.src, hT.i, hT.loc, hT.depth⟩
  have hrun : srun A.P A.srcs A.H A.max N { tk with k := 0 } m = some o := hrun
  have hself : cut t.height s1.st = s1.st := by unfold cut; rw [hht]; simp
  have S : ∀ N', srun A.P A.srcs A.H A.max (N' + 1) tk m = sround (srun A.P A.srcs A.H A.max N') tk m := fun N' => by
    rw [srun, if_neg (by rw [hT.k]; decide), if_pos hT.k]
  have hlw := hN.lw
  have hr4 := hN.r4
  rcases hres with h | ⟨t', r', he, h⟩ | h | h
  · refine ⟨N + 1, o, ?_, .inl h⟩
    show srun _ _ _ _ (N + 1) tk m = _
    rw [S]; unfold sround; rw [hrun]; simp only; rw [if_pos (.inl h.1)]
  · rw [hcs] at he
    cases he
    refine ⟨N + 1, o, ?_, .inr (.inl h)⟩
    show srun _ _ _ _ (N + 1) tk m = _
    rw [S]; unfold sround; rw [hrun]; simp only; rw [if_pos (.inr (by rw [h.2.1]; decide))]
  · refine ⟨N + 1, o, ?_, .inr (.inr (.inl h))⟩
    show srun _ _ _ _ (N + 1) tk m = _
    rw [S]; unfold sround; rw [hrun]; simp only; rw [if_pos (.inr (by rw [h.2.1]; decide))]
  · obtain ⟨h1, l, t', j, k', ops', h2, h3, h4, h5, h6, h7, h8, h9, h10, h11, h12⟩ := h
    rw [hcs] at h3
    cases l with
    | succ l =>
      simp at h3
      refine ⟨N + 1, { o with br := o.br - 1 }, ?_, .inr (.inr (.inr ⟨h1, l, t', j, k', ops', by show o.br - 1 = _; rw [h2]; omega, h3, h4, h5, h6, h7, h8, h9, h10, h11, h12⟩))⟩
      show srun _ _ _ _ (N + 1) tk m = _
      rw [S]; unfold sround; rw [hrun]; simp only; rw [if_neg (by rw [h1, h2]; omega), if_pos (by rw [h2]; omega)]
    | zero =>
      simp at h3
      subst h3
      have hcut : cutV tk.h tk.keep o.m.x.st = some (ops'.take t.label.length ++ ops'.drop (ops'.length - t.height) ++ X.low) := by
        rw [hT.h, hT.keep, h8]
        exact cutV_at h9 (by rw [List.length_append]; omega)
      rw [hself] at h7
      by_cases h2' : t.op = 2
      · have hlab : t.label = [] := by unfold Ctl.label; rw [if_pos h2']
        have hto : t.to X.src = posM X.src i1 := by unfold Ctl.to; rw [if_pos h2']; exact hpc h2'
        rw [hto] at h7
        have hst : (o.m.st (ops'.take t.label.length ++ ops'.drop (ops'.length - t.height) ++ X.low)).x.st = (ops'.take t.label.length ++ ops'.drop (ops'.length - t.height)) ++ X.low := rfl
        have hN' : NowB A X C i1 s1 c1 k' (o.m.st (ops'.take t.label.length ++ ops'.drop (ops'.length - t.height) ++ X.low)) (ops'.take t.label.length ++ ops'.drop (ops'.length - t.height)) o.loc :=
          { F := hN.F, sf := hN.sf, live := hN.live
            inf := { fr := h7.fr, ty := by rw [h7.ty, hlab]; rfl, fit := h7.fit, loc := h7.loc }
            com := ⟨h5.fuel, h5.memOk, h5.inv, h5.us⟩
            co := ⟨h6.used, h6.n, h6.mem, h6.hs, h6.max⟩
            st := hst, r4 := hN.r4, lw := hN.lw, lf := hN.lf }
        have hus := h5.us
        rw [h6.used] at hus
        have hus0 := hN.com.us
        rw [hN.co.used] at hus0
        have hfm := fuel_mul (fuel_lt h12 hus.2 hus0.1) hφ hμ
        obtain ⟨N2, o2, hrun2, hres2⟩ := ihφ k' _ _ o.loc hN' hfm.1 hfm.2 { tk with loc := o.loc } ⟨hT.k, hT.src, hT.i, rfl, hT.depth, hT.op, hT.h, hT.keep⟩
        refine ⟨max N N2 + 1, o2, ?_, ?_⟩
        · show srun _ _ _ _ (max N N2 + 1) tk m = _
          rw [S]; unfold sround
          rw [srun_le (Nat.le_max_left N N2) hrun]
          simp only
          rw [if_neg (by rw [h1, h2]; omega), if_neg (by rw [h2]; omega), hcut]
          simp only
          rw [if_neg (by rw [hT.op.2 h2']; simp)]
          exact srun_le (Nat.le_max_right N N2) hrun2
        · rcases hres2 with g | g | g | g
          · exact .inl (g.pre h4)
          · exact .inr (.inl (g.pre h4 (by omega) rfl))
          · exact .inr (.inr (.inl (g.pre h4 (by omega))))
          · exact .inr (.inr (.inr (g.pre h4 (by omega) (fun _ _ => rfl))))
      · have hlab : t.label = resOf t.bt := by unfold Ctl.label; rw [if_neg h2']
        have hto : t.to X.src = posM X.src (endT X.src t.at_).toNat := by unfold Ctl.to; rw [if_neg h2']
        rw [hto] at h7
        refine ⟨N + 1, ⟨-1, 0, o.loc, o.m.st (ops'.take t.label.length ++ ops'.drop (ops'.length - t.height) ++ X.low)⟩, ?_, .inr (.inl ⟨rfl, rfl, j, k', ops'.take t.label.length ++ ops'.drop (ops'.length - t.height), h4, ⟨h5.fuel, h5.memOk, h5.inv, h5.us⟩, ⟨h6.used, h6.n, h6.mem, h6.hs, h6.max⟩, ?_, rfl, by omega⟩)⟩
        · show srun _ _ _ _ (N + 1) tk m = _
          rw [S]; unfold sround; rw [hrun]; simp only
          rw [if_neg (by rw [h1, h2]; omega), if_neg (by rw [h2]; omega), hcut]
          simp only
          rw [if_pos (fun e => h2' (hT.op.1 e))]
        · rw [hself]
          exact { fr := h7.fr, ty := by rw [h7.ty, hlab], fit := h7.fit, loc := h7.loc }
theorem block_law {μ : Nat} (ih : SeqLaw A μ) {i1 : Nat} {s1 : Mk} {c1 : Ins} {t : Ctl} {r : List Ctl} (hcs : s1.cs = t :: r) (hht : t.height = s1.st.length) (hpc : t.op = 2 → posM X.src t.at_.toNat = posM X.src i1) :
    ∀ (φ : Nat) (k : FC HS) (m : MS) (ops loc : List V), NowB A X C i1 s1 c1 k m ops loc → (A.fuel - k.used).toNat ≤ φ → (A.fuel - k.used).toNat * 100 + (X.src.length - i1) ≤ μ → ∀ tk : Tk, Tk1 X i1 loc t tk → ∃ N o, A.run N tk m = some o ∧ ResB A X k t r s1.st o := by
  intro φ
  induction φ with
  | zero =>
    intro k m ops loc hN hφ hμ tk hT
    exact block_go ih hcs hht hpc (fun k' m' ops' loc' hN' hlt => by omega) k m ops loc hN hφ hμ tk hT
  | succ φ ihφ =>
    intro k m ops loc hN hφ hμ tk hT
    exact block_go ih hcs hht hpc (fun k' m' ops' loc' hN' hlt hμ' tk' hT' => ihφ k' m' ops' loc' hN' (by omega) hμ' tk' hT') k m ops loc hN hφ hμ tk hT
/-! ### the flat machine's steps -/
variable {k : FC HS} {f : FF} {rest : List FF} {c : Flat}
theorem w64w (x : Int) : wrap64 (wrap64 x + 0) = wrap64 x := by rw [Int.add_zero]; unfold wrap64; omega
theorem fround_paid (hfr : k.fr = f :: rest) (hC : A.P.codes[f.fn]? = some C) (hi : C[f.pc]? = some c) (hop : c.op ≠ 4 ∧ c.op ≠ 5) (hu : k.used < A.fuel) : fround A.P A.H A.fuel k = fafter k (k.used + 1) (fexec A.P A.H C c f rest k.mem k.max k.s) := by
  rw [fround_at hfr hC hi]
  unfold fpaid
  rw [if_neg (by omega), if_pos hu]
theorem fround_poor (hfr : k.fr = f :: rest) (hC : A.P.codes[f.fn]? = some C) (hi : C[f.pc]? = some c) (hop : c.op ≠ 4 ∧ c.op ≠ 5) (hu : ¬ k.used < A.fuel) : fround A.P A.H A.fuel k = ⟨17, [], ⟨[], k.used, wrap64 (k.n + 1), k.mem, k.max, k.s⟩⟩ := by
  rw [fround_at hfr hC hi]
  unfold fpaid
  rw [if_neg (by omega), if_neg hu]
theorem fround_free (hfr : k.fr = f :: rest) (hC : A.P.codes[f.fn]? = some C) (hi : C[f.pc]? = some c) (hop : c.op = 4 ∨ c.op = 5) : fround A.P A.H A.fuel k = fafter k k.used (fexec A.P A.H C c f rest k.mem k.max k.s) := by
  rw [fround_at hfr hC hi]
  unfold fpaid
  rw [if_pos hop]
/-- the model pays -/
theorem pay_rich {x : ND} (h : x.used < x.fuel) : x.pay = ({ x with n := wrap64 (x.n + 1), used := x.used + 1 }, 0) := by unfold ND.pay; rw [if_pos h]
theorem pay_poor {x : ND} (h : ¬ x.used < x.fuel) : x.pay = ({ x with n := wrap64 (x.n + 1) }, 17) := by unfold ND.pay; rw [if_neg h]
/-- the model's seq: an instruction, and what comes behind it -/
theorem srun_seq {N : Nat} {t : Tk} {m : MS} {c : Ins} {o o' : Ot} (hk : t.k = 0) (hc : t.src[t.i]? = some c) (h5 : c.op ≠ 5) (h4 : c.op ≠ 4) (hok : okS c t.loc A.max m = true) (hs : sins A.P A.H A.max (srun A.P A.srcs A.H A.max N) t c m = some o)
    (ho : ((o.e ≠ 0 ∨ o.br ≠ -1) ∧ o' = o) ∨ (o.e = 0 ∧ o.br = -1 ∧ A.run N { t with loc := o.loc, i := (if c.op = 1 ∨ c.op = 2 ∨ c.op = 3 then (endsM t.src t.i).2.toNat else t.i) + 1 } o.m = some o')) : A.run (N + 1) t m = some o' := by
  show srun _ _ _ _ (N + 1) t m = _
  rw [srun, if_pos hk]
  unfold sseq
  rw [hc]
  simp only
  rw [if_neg h5, if_neg h4, if_neg (by rw [hok]; decide), hs]
  simp only
  rcases ho with ⟨h1, rfl⟩ | ⟨h1, h2, h3⟩
  · rw [if_pos h1]
  · rw [if_neg (by rw [h1, h2]; simp)]
    exact h3
theorem okS_at {i : Nat} {s : Mk} {c : Ins} {m : MS} {ops loc : List V} (hA : PxOk A) (h : NowB A X C i s c k m ops loc) (hty : tyS c (ops ++ X.low) loc = true) : okS c loc A.max m = true := by
  have hlen := h.len
  have hlw := h.lw
  have hr4 := h.r4
  have hlc : loc.length ≤ 7 := by
    have := congrArg List.length h.inf.loc.1
    simp at this
    have := h.F.ps
    omega
  have himm := h.F.imm c (List.mem_of_getElem? h.sf.at_)
  unfold I64 at himm
  obtain ⟨q1, q2, q3⟩ := h.com.memOk
  have hf := hA.fuel
  have hff := h.com.fuel
  unfold okS
  rw [h.st, hty, (FitL.app.2 ⟨h.inf.fit, h.lf⟩).all, h.inf.loc.2.all]
  simp only [Bool.and_self, Bool.true_and, decide_eq_true_eq]
  exact ⟨h.com.us.1, by omega, h.sf.wl, himm.1, himm.2, by rw [List.length_append]; omega, hlc, q1, q2, q3⟩
end
end Go.Proofs.Qxb6500575aGreatDoor
