/-
  BOTH SIDES of a call say the same: out of the plain law. No walk.
-/
import Derived.Test.Qxb6500575aGreatDoorLawG1
import Derived.Test.Qxb6500575aGreatDoorYDoM
namespace Go.Proofs.Qxb6500575aGreatDoor
open Go Go.RowKit
set_option linter.unusedVariables false
set_option linter.unusedSimpArgs false

/-- a module that has been loaded -/
def LoadB (m : ModD) : Prop := ∃ x : BelD, BelFit x ∧ x.m = m ∧ m.load.2.2 = 0
abbrev ModD.srcs (m : ModD) : List (List Ins) := m.funcs.map (·.code)
abbrev tk0 (f : Int) : Tk := ⟨2, [], 0, [], 1, 0, 0, 0, f.toNat⟩
abbrev begunM (mem : List UInt8) (fuel c : Int) (tp : List UInt8) (args : List BV) : MS := ⟨ND.begin fuel (decide (c = 0)) tp (stk args), mem⟩
theorem LoadB.progM {m : ModD} (h : LoadB m) : m.progM = m.progN 0 := by
  obtain ⟨x, hx, rfl, hl⟩ := h
  exact prog_same hx.good.m hx.ty.typed hl
theorem LoadB.progB {m : ModD} (h : LoadB m) : ProgB (m.progN 0) m.srcs := by
  obtain ⟨x, hx, rfl, hl⟩ := h
  exact prog_b hx hl
theorem LoadB.tys {m : ModD} (h : LoadB m) : ∀ u ∈ (m.progN 0).funs, (u.params.length ≤ 3 ∧ u.results.length ≤ 1 ∧ u.locals.length ≤ 4) ∧ TyL u.params ∧ TyL u.results ∧ TyL u.locals := by
  obtain ⟨x, hx, rfl, hl⟩ := h
  intro u hu
  have hu : u ∈ x.m.prog.funs := hu
  simp only [ModD.prog, ModD.sigs, List.mem_map] at hu
  obtain ⟨g, _, rfl⟩ := hu
  exact ⟨hx.good.m.ok.funD g, hx.ty.funD g⟩
theorem LoadB.loaded {m : ModD} (h : LoadB m) : Loaded m := by
  obtain ⟨x, hx, rfl, hl⟩ := h
  exact Loaded.of hx hl
theorem KRep.memOk {w : World} {bk : Nat} {K : KL} {d : KD} (h : KRep w bk K d) : MemOk d.flat d.max := by
  have h1 := d.flat_len
  have h2 := h.le
  have h3 := h.max
  exact ⟨by omega, by omega, h3⟩
/-- the model's call, its run given -/
theorem run_glue {m : ModD} (hL : LoadB m) {mem : List UInt8} {max : Nat} (hm : MemOk mem max) {f fuel c : Int} {args : List BV} {tp : List UInt8} (hfa : ∀ b ∈ args, I64 b.v) (hfu : Fit64 fuel) (h0 : owedP (m.progN 0) f args = 0) {d : KD} (hmem : d.flat = mem) (hmax : d.max = max) :
    ∃ N q, srun (m.progN 0) m.srcs (callH (m.progN 0) c) max N (tk0 f) (begunM mem fuel c tp args) = some q ∧ q.e ≠ 1 ∧
      ((q.e ≠ 0 ∧ FEnds (m.progN 0) (callH (m.progN 0) c) fuel (cfg0 (m.progN 0) f args 0 d (tp, 0, [])) ⟨q.e, [], ⟨[], q.m.x.used, q.m.x.n, q.m.mem, max, q.m.x.hs⟩⟩) ∨
       (q.e = 0 ∧ FEnds (m.progN 0) (callH (m.progN 0) c) fuel (cfg0 (m.progN 0) f args 0 d (tp, 0, [])) ⟨1, q.m.x.st, ⟨[], q.m.x.used, q.m.x.n, q.m.mem, max, q.m.x.hs⟩⟩ ∧ q.m.x.st.length ≤ 1)) := by
  have hpb := hL.progB
  have htys := hL.tys
  unfold owedP at h0
  split at h0
  · simp at h0
  split at h0
  · simp at h0
  rename_i hsig
  split at h0
  · simp at h0
  rename_i hlen
  split at h0
  · simp at h0
  rename_i hall
  have hs1 : ((m.progN 0).sig f).2 = true := by
    cases hh : ((m.progN 0).sig f).2 with
    | true => rfl
    | false => exact absurd (.inl hh) hsig
  have hnf : (m.progN 0).nimp ≤ f := by
    have : ¬ f < (m.progN 0).nimp := fun h => hsig (.inr h)
    omega
  obtain ⟨u, hu, hsu⟩ : ∃ u, (m.progN 0).funs[f.toNat]? = some u ∧ ((m.progN 0).sig f).1 = u := by
    unfold ProgD.sig at hs1 ⊢
    split at hs1
    · simp at hs1
    rename_i h1
    rw [if_neg h1]
    split at hs1
    · simp at hs1
    · rename_i u hu
      exact ⟨u, hu, rfl⟩
  have hn0 := hpb.n0
  have hfl : f.toNat < (m.progN 0).funs.length := (List.getElem?_eq_some_iff.1 hu).1
  obtain ⟨u', src, C, hF⟩ := hpb.fn f.toNat (by omega) hfl
  have hu' : u' = u := by have := hF.u; rw [hu] at this; exact (Option.some.inj this).symm
  subst hu'
  rw [hsu] at hlen hall
  have hu2 := htys u' (List.mem_of_getElem? hu)
  have hall : (args.zip u'.params).all (fun q => fitsB q.1 q.2) = true := by
    cases hh : (args.zip u'.params).all (fun q => fitsB q.1 q.2) with
    | true => rfl
    | false => exact absurd hh hall
  obtain ⟨t1, t2⟩ := stk_ty args u'.params (by omega) hu2.2.1 hall hfa
  have hA : PxOk ⟨m.progN 0, m.srcs, callH (m.progN 0) c, fuel, max, TapeI⟩ := ⟨hpb, host_b c (fun u hu => ⟨(htys u hu).1.1, (htys u hu).2.2.1⟩), by have := hfu.2; simp only; omega⟩
  have hco : Co max (cfg0 (m.progN 0) f args 0 d (tp, 0, [])) (begunM mem fuel c tp args) := ⟨rfl, rfl, hmem.symm, rfl, hmax⟩
  have hcom : CoM TapeI fuel max (begunM mem fuel c tp args) := ⟨rfl, hm, ⟨by show (0 : Nat) ≤ 6; omega, by show ([] : List UInt8).length ≤ 100 * 0; simp⟩, ⟨by show (0 : Int) ≤ 0; omega, .inl rfl⟩⟩
  obtain ⟨N, q, h1, h2⟩ := call_law hA hF (k := cfg0 (m.progN 0) f args 0 d (tp, 0, [])) (m := begunM mem fuel c tp args) (a := stk args) (by unfold cfg0; rw [hsu]) rfl t1 t2 hcom hco (tk := tk0 f) ⟨rfl, rfl, rfl⟩
  refine ⟨N, q, h1, srun_e (callH_e _ c) N _ _ _ h1, ?_⟩
  rcases h2 with h2 | ⟨h2, h3, h4, h5⟩
  · exact .inl h2
  · refine .inr ⟨h2, h3, ?_⟩
    have := congrArg List.length h4
    have := hu2.1.2.1
    simp at *
    omega
/-- what DoM says, as DoMPost has it -/
def SaidM (P : ProgD) (srcs : List (List Ins)) (H : HF HS) (max : Nat) (f : Int) (args : List BV) (mem : List UInt8) (m1 m' : MS) (er us len : Int) (str : List UInt8) : Prop :=
  (owedP P f args ≠ 0 ∧ er = owedP P f args ∧ us = 0 ∧ len = 0 ∧ str = [124] ∧ m'.mem = mem ∧ m'.x.n = 0) ∨
     (owedP P f args = 0 ∧ ∃ N o, srun P srcs H max N ⟨2, [], 0, [], 1, 0, 0, 0, f.toNat⟩ m1 = some o ∧ m'.mem = o.m.mem ∧ m'.x.n = o.m.x.n ∧ us = o.m.x.used ∧ er = o.e ∧
       ((o.e ≠ 0 ∧ len = 0 ∧ str = 124 :: o.m.x.trace) ∨ (o.e = 0 ∧ len = o.m.x.st.length ∧ str = valsT (o.m.x.st.reverse.map V.bv) ++ 124 :: o.m.x.trace)))
/-- THE LAW of a call -/
theorem said_same {m : ModD} (hL : LoadB m) {d d' : KD} (hm : MemOk d.flat d.max) {f fuel c : Int} {args : List BV} {tp : List UInt8} (hfa : ∀ b ∈ args, I64 b.v) (hfu : Fit64 fuel) {n' er us len : Int} {str : List UInt8}
    (hs : Said (m.progN 0) (callH (m.progN 0) c) tp f fuel args d d' 0 n' er us len str) :
    (owedP (m.progN 0) f args = 0 → ∃ N q, srun (m.progN 0) m.srcs (callH (m.progN 0) c) d.max N (tk0 f) (begunM d.flat fuel c tp args) = some q) ∧
    (∀ N q, owedP (m.progN 0) f args = 0 → srun (m.progN 0) m.srcs (callH (m.progN 0) c) d.max N (tk0 f) (begunM d.flat fuel c tp args) = some q → q.m.x.trace.length ≤ 700 ∧ (q.e = 0 → q.m.x.st.length ≤ 3)) ∧
    d'.max = d.max ∧
    ∀ m' er2 us2 len2 str2, SaidM (m.progN 0) m.srcs (callH (m.progN 0) c) d.max f args d.flat (begunM d.flat fuel c tp args) m' er2 us2 len2 str2 → er2 = er ∧ us2 = us ∧ len2 = len ∧ str2 = str ∧ m'.mem = d'.flat ∧ m'.x.n = n' := by
  rcases hs with ⟨h0, rfl, rfl, rfl, rfl, rfl, rfl⟩ | ⟨h0, t, vs, s, hE, htr, hend⟩
  · refine ⟨fun h => absurd h h0, fun N q h => absurd h h0, rfl, ?_⟩
    rintro m' er2 us2 len2 str2 (⟨_, rfl, rfl, rfl, rfl, h1, h2⟩ | ⟨h, _⟩)
    · exact ⟨rfl, rfl, rfl, rfl, h1, h2⟩
    · exact absurd h h0
  · obtain ⟨N, q, hr, hne, hq⟩ := run_glue hL hm (c := c) (tp := tp) hfa hfu h0 (d := d) rfl rfl
    -- the two ends are one
    have key : d'.max = d.max ∧ us = q.m.x.used ∧ n' = q.m.x.n ∧ d'.flat = q.m.mem ∧ s = q.m.x.hs ∧ ((q.e ≠ 0 ∧ t = q.e ∧ vs = []) ∨ (q.e = 0 ∧ t = 1 ∧ vs = q.m.x.st ∧ q.m.x.st.length ≤ 1)) := by
      rcases hq with ⟨a, b⟩ | ⟨a, b, b2⟩
      · have e := FEnds.det hE b
        simp only [FS.mk.injEq, FC.mk.injEq] at e
        obtain ⟨e1, e2, _, e3, e4, e5, e6, e7⟩ := e
        exact ⟨e6, e3, e4, e5, e7, .inl ⟨a, e1, e2⟩⟩
      · have e := FEnds.det hE b
        simp only [FS.mk.injEq, FC.mk.injEq] at e
        obtain ⟨e1, e2, _, e3, e4, e5, e6, e7⟩ := e
        exact ⟨e6, e3, e4, e5, e7, .inr ⟨a, e1, e2, b2⟩⟩
    obtain ⟨k1, k2, k3, k4, k5, k6⟩ := key
    have htr2 : q.m.x.trace = s.2.2 := by rw [k5]; rfl
    refine ⟨fun _ => ⟨N, q, hr⟩, fun N' q' _ h' => ?_, k1, ?_⟩
    · obtain rfl := srun_one hr h'
      refine ⟨by rw [htr2]; exact htr, fun he => ?_⟩
      rcases k6 with ⟨a, _⟩ | ⟨_, _, _, a⟩
      · exact absurd he a
      · omega
    · rintro m' er2 us2 len2 str2 (⟨h, _⟩ | ⟨_, N', o, h', h1, h2, rfl, rfl, h3⟩)
      · exact absurd h0 h
      obtain rfl := srun_one hr h'
      refine ⟨?_, k2.symm, ?_, ?_, by rw [h1, k4], by rw [h2, k3]⟩
      · rcases hend with ⟨a1, a2, _⟩ | ⟨a1, a2, a3, _⟩
        · rcases k6 with ⟨b1, b2, _⟩ | ⟨b1, _⟩
          · exact absurd (by rw [← b2]; exact a1) hne
          · rw [b1, a2]
        · rcases k6 with ⟨b1, b2, _⟩ | ⟨b1, b2, _⟩
          · rw [a3, b2]
          · omega
      · rcases hend with ⟨a1, a2, a3, a4⟩ | ⟨a1, a2, a3, a4, a5⟩
        · rcases k6 with ⟨b1, b2, _⟩ | ⟨b1, _, b3, _⟩
          · exact absurd (by rw [← b2]; exact a1) hne
          · rcases h3 with ⟨c1, _⟩ | ⟨_, c2, _⟩
            · exact absurd b1 c1
            · rw [c2, a3, b3]
        · rcases k6 with ⟨b1, b2, _⟩ | ⟨b1, b2, _⟩
          · rcases h3 with ⟨_, c2, _⟩ | ⟨c1, _⟩
            · rw [c2, a4]
            · exact absurd c1 b1
          · omega
      · rcases hend with ⟨a1, a2, a3, a4⟩ | ⟨a1, a2, a3, a4, a5⟩
        · rcases k6 with ⟨b1, b2, _⟩ | ⟨b1, _, b3, _⟩
          · exact absurd (by rw [← b2]; exact a1) hne
          · rcases h3 with ⟨c1, _⟩ | ⟨_, _, c3⟩
            · exact absurd b1 c1
            · rw [c3, a4, b3, htr2]
        · rcases k6 with ⟨b1, b2, _⟩ | ⟨b1, b2, _⟩
          · rcases h3 with ⟨_, _, c3⟩ | ⟨c1, _⟩
            · rw [c3, a5, htr2]
            · exact absurd c1 b1
          · omega
end Go.Proofs.Qxb6500575aGreatDoor
