/-
  THE WALK of run.Call.
-/
import Derived.Test.Qxb6500575aGreatDoorSCall0
namespace Go.Proofs.Qxb6500575aGreatDoor
open Go Go.RowKit
set_option linter.unusedVariables false
set_option linter.unusedSimpArgs false

/-- which refusal a Call owes -/
def owedP (P : ProgD) (f : Int) (args : List BV) : Int :=
  if 3 < args.length then 1
  else if (P.sig f).2 = false ∨ f < P.nimp then 8
  else if args.length ≠ (P.sig f).1.params.length then 7
  else if ((args.zip (P.sig f).1.params).all fun q => fitsB q.1 q.2) = false then 7
  else 0
/-- the arguments as they lie on the stack -/
def stk (l : List BV) : List V := (l.map fun b => word b.t b.v).reverse
theorem stk_ty : ∀ (args : List BV) (up : List UInt8), args.length = up.length → TyL up → (args.zip up).all (fun q => fitsB q.1 q.2) = true → (∀ b ∈ args, I64 b.v) → (stk args).map V.ty = up.reverse ∧ ∀ v ∈ stk args, v.Fits
  | [], [], _, _, _, _ => ⟨rfl, fun v hv => by cases hv⟩
  | [], _ :: _, h, _, _, _ => by simp at h
  | _ :: _, [], h, _, _, _ => by simp at h
  | b :: l, t :: r, h, ht, ha, hI => by
    simp only [List.zip_cons_cons, List.all_cons, Bool.and_eq_true] at ha
    obtain ⟨h1, h2⟩ := stk_ty l r (by simpa using h) (fun x hx => ht x (by simp [hx])) ha.2 (fun x hx => hI x (by simp [hx]))
    obtain ⟨h3, h4, _⟩ := fits_word (ht t (by simp)) ha.1 (hI b (by simp))
    have e : stk (b :: l) = stk l ++ [word b.t b.v] := by simp [stk]
    rw [e]
    refine ⟨by rw [List.map_append, h1]; simp [h3], fun v hv => ?_⟩
    simp at hv
    rcases hv with hv | rfl
    · exact h2 v hv
    · exact h4
theorem stk_len (l : List BV) : (stk l).length = l.length := by simp [stk]
variable {σ τ : Type}
/-- where the run begins -/
def cfg0 (P : ProgD) (f : Int) (args : List BV) (n : Int) (d : KD) (s : τ) : FC τ := ⟨[⟨f.toNat, 0, [], zeros (P.sig f).1.locals ++ stk args⟩], 0, n, d.flat, d.max, s⟩
/-- what a Call comes to -/
def CallPost (sem : σ → τ) (H : HF τ) (R : RP σ) (K : KL) (n : Int) (d : KD) (s : σ) (f : Int) (args : List BV) (fuel : Int) (e : Ending) (w' : World) : Prop :=
  ∃ L' K' hi n' d' s', RunW R w' L' K' ⟨[], [], 0, hi⟩ n' d' s' ∧
    ((owedP R.P f args ≠ 0 ∧ e = .returned (.tuple #[.slice none 0 0, .int .i64 0, .iface 40 (.int .i64 (owedP R.P f args))]) ∧ hi = 0 ∧ n' = n ∧ K' = K ∧ d' = d ∧ s' = s) ∨
     (owedP R.P f args = 0 ∧ ∃ us t vs, FEnds R.P H fuel (cfg0 R.P f args n d (sem s)) ⟨t, vs, cfgEnd sem us n' d' s'⟩ ∧
       ((t = 1 ∧ ∃ v, e = .returned (.tuple #[v, .int .i64 us, .nilIface]) ∧ w'.ownsRow 0 70 2 v vs.length (bvCells (vs.reverse.map V.bv)) ∧ vs.map V.ty = (R.P.sig f).1.results.reverse ∧ ∀ v ∈ vs, v.Fits) ∨
        (11 ≤ t ∧ t ≤ 17 ∧ vs = [] ∧ e = .returned (.tuple #[.slice none 0 0, .int .i64 us, .iface 40 (.int .i64 t)])))))
section
variable {sem : σ → τ} {H : HF τ} {R : RP σ} {T : Nat → Typing} {w : World} {L : InL} {K : KL} {n : Int} {d : KD} {s : σ} {h : Value} {hi0 : Int}
set_option maxRecDepth 100000
set_option maxHeartbeats 1000000
theorem scall_any (hr : RunW R w L K ⟨[], [], 0, hi0⟩ n d s) (hn64 : I64 n) (pt : ProgT R.P T) (mc : MachX) (ac : ∀ R' : RP σ, R'.H = R.H → R'.P = R.P → AskX sem H R' h) (hwf : ∀ (f : Nat) c, R.P.codes[f]? = some c → ∀ i ∈ c, (V.d i.imm).Fits) (f fuel : Int) (hfuel : fuel ≤ 9223372036854775807) (args : List BV) (hfa : ∀ b ∈ args, I64 b.v) (aa : Option Addr) (cc : Nat) (hargs : w.ownsRow 0 70 2 (.slice aa args.length cc) args.length (bvCells args)) (hal : args.length ≤ 1000) (hap : ∀ g, (Value.slice aa args.length cc).ownBlock = some g → ¬ R.H.S s g) :
    Calls Tryz.prog 38 #[.pointer (some ⟨R.bx, 0, none⟩), .int .i64 f, .slice aa args.length cc, .int .i64 fuel, h] w (CallPost sem H R K n d s f args fuel) := by
  have hmf : ∀ (fn : Fn) (first cap : Array Value) (w : World), (Instr.makeFunc fn first cap).run Tryz.prog w = .ok (.func fn first cap) w := fun _ _ _ _ => rfl
  have c0 := hr.inst.here.cell 0
  have c5 := hr.inst.here.cell 5
  have f5 := hr.inst.here.frozen 5
  have k0 := hr.inst.here.lt
  simp at c0 c5
  have k1 : R.bx < w.heap.size + 1 := by omega
  have k2 : R.bx < w.heap.size + 1 + 1 := by omega
  have k3 : R.bx < w.heap.size + 1 + 1 + 1 := by omega
  have e0 : R.bx ≠ w.heap.size := by omega
  have e1 : R.bx ≠ w.heap.size + 1 := by omega
  have e2 : R.bx ≠ w.heap.size + 1 + 1 := by omega
  have e3 : R.bx ≠ w.heap.size + 1 + 1 + 1 := by omega
  have HR : Hid (RunW _ _ _ _ _ _ _ _) := hr
  have HA : Hid (World.ownsRow _ _ _ _ _ _ _) := hargs
  have PT : Hid (ProgT R.P T) := pt
  have MC : Hid MachX := mc
  have AC : Hid (∀ R' : RP σ, R'.H = R.H → R'.P = R.P → AskX sem H R' h) := ac
  have HWF : Hid (∀ (f : Nat) c, R.P.codes[f]? = some c → ∀ i ∈ c, (V.d i.imm).Fits) := hwf
  have HFA : Hid (∀ b ∈ args, I64 b.v) := hfa
  have HAP : Hid (∀ g, (Value.slice aa args.length cc).ownBlock = some g → ¬ R.H.S s g) := hap
  clear hr hargs pt mc ac hwf hfa hap
  by_cases h3 : 3 < args.length
  · have hg : (3 : Int) < args.length := by omega
    go_enter_defers Tryz.func38, Tryz.ntmps38
    go_wp2
    have ho : owedP R.P f args = 1 := by unfold owedP; rw [if_pos h3]
    obtain ⟨_, q10, q11, q12⟩ := callW_has w R.bx (.slice none 0 0) (.int .i64 0) (.iface 40 (.int .i64 1))
    refine ⟨_, call_res _ _ (w.heap.size + 1) (w.heap.size + 1 + 1) (w.heap.size + 1 + 1 + 1) (.slice none 0 0) (.int .i64 0) (.iface 40 (.int .i64 1)) rfl rfl rfl (q10.cell 0) (q11.cell 0) (q12.cell 0), ?_⟩
    exact ⟨L, K, 0, n, d, s, HR.out.begun _ _ _, .inl ⟨by rw [ho]; decide, by rw [ho], rfl, rfl, rfl, rfl, rfl⟩⟩
  have hg : ¬ (3 : Int) < args.length := by omega
  obtain ⟨W, HW⟩ : ∃ W, Hid (W = callW w R.bx (.slice none 0 0) (.int .i64 0) .nilIface) := ⟨_, rfl⟩
  obtain ⟨b5, H5⟩ : ∃ b5, Hid (b5 = w.heap.size) := ⟨_, rfl⟩
  obtain ⟨b10, H10⟩ : ∃ b, Hid (b = w.heap.size + 1) := ⟨_, rfl⟩
  obtain ⟨b11, H11⟩ : ∃ b, Hid (b = w.heap.size + 1 + 1) := ⟨_, rfl⟩
  obtain ⟨b12, H12⟩ : ∃ b, Hid (b = w.heap.size + 1 + 1 + 1) := ⟨_, rfl⟩
  have RW : Hid (RunW R W L K ⟨[], [], 0, 0⟩ n d s) := by
    show RunW _ _ _ _ _ _ _ _
    rw [HW.out]
    exact HR.out.begun _ _ _
  have SIG : Hid (Calls _ _ _ _ _) := sig_any (PS R.bp R.LP) R.bp R.LP { R.P with steps := n } W f RW.out.prog (by have := PT.out.flen; simp only; omega)
  have esig : ({ R.P with steps := n } : ProgD).sig f = R.P.sig f := rfl
  rw [esig] at SIG
  clear esig
  go_enter_defers Tryz.func38, Tryz.ntmps38
  go_wp2_with fail
  have e : ((((w.setCell ⟨R.bx, 5, none⟩ (.int .i64 0)).alloc (.cells #[.pointer (some ⟨R.bx, 0, none⟩)] 27)).alloc (.cells #[.slice none 0 0] 37)).alloc (.cells #[.int .i64 0] 3)).alloc (.cells #[.nilIface] 74) = W := HW.out.symm
  rw [e, ← H12.out, ← H11.out, ← H10.out, ← H5.out]
  refine SIG.out.mono ?_
  rintro e w1 ⟨rfl, n1, rfl⟩
  clear SIG
  obtain ⟨Wv, HV⟩ : ∃ Wv, Hid (Wv = W.drewN n1) := ⟨_, rfl⟩
  rw [← HV.out]
  have RV : Hid (RunW R Wv L K ⟨[], [], 0, 0⟩ n d s) := by
    show RunW _ _ _ _ _ _ _ _
    rw [HV.out]
    exact RW.out.drewN n1
  obtain ⟨q5, q10, q11, q12⟩ : Has Wv b5 #[.pointer (some ⟨R.bx, 0, none⟩)] 27 ∧ Has Wv b10 #[.slice none 0 0] 37 ∧ Has Wv b11 #[.int .i64 0] 3 ∧ Has Wv b12 #[.nilIface] 74 := by
    rw [HV.out, HW.out, H5.out, H10.out, H11.out, H12.out]
    exact callW_has w R.bx _ _ _
  have AV : Hid (Wv.ownsRow 0 70 2 (.slice aa args.length cc) args.length (bvCells args)) := by
    show World.ownsRow _ _ _ _ _ _ _
    rw [HV.out, HW.out]
    exact owns_alloc (owns_alloc (owns_alloc (owns_alloc (owns_other HA.out (p := ⟨R.bx, 5, none⟩) (owns_ne HA.out HR.out.inst.here (by decide)) _) _) _) _) _
  have hw0 : R.w0.heap.size ≤ w.heap.size := HR.out.fr.size
  have NS : Hid (¬ R.H.S s b10) := fun hS => by
    have := R.H.lt HR.out.host hS
    rw [H10.out] at this
    omega
  have G10 : Hid (R.w0.heap.size ≤ b10 ∧ R.w0.heap.size ≤ b11 ∧ R.w0.heap.size ≤ b12) := by
    have := H10.out
    have := H11.out
    have := H12.out
    exact ⟨by omega, by omega, by omega⟩
  have REF : Hid (∀ (er : Int) (tmps : Array Value), er ≠ 0 → owedP R.P f args = er → tmps.getD 10 undef = .pointer (some ⟨b10, 0, none⟩) → tmps.getD 11 undef = .pointer (some ⟨b11, 0, none⟩) → tmps.getD 12 undef = .pointer (some ⟨b12, 0, none⟩) →
      Leaves Tryz.prog Tryz.f38 tmps (CallPost sem H R K n d s f args fuel) [] .returning (((Wv.setCell ⟨b10, 0, none⟩ (.slice none 0 0)).setCell ⟨b11, 0, none⟩ (.int .i64 0)).setCell ⟨b12, 0, none⟩ (.iface 40 (.int .i64 er)))) := by
    intro er tmps her ho p10 p11 p12
    obtain ⟨r10, r11, r12, rF⟩ := q10.put3 q11 q12 (.slice none 0 0) (.int .i64 0) (.iface 40 (.int .i64 er))
    refine ⟨_, call_res tmps _ b10 b11 b12 (.slice none 0 0) (.int .i64 0) (.iface 40 (.int .i64 er)) p10 p11 p12 (r10.cell 0) (r11.cell 0) (r12.cell 0), ?_⟩
    exact ⟨L, K, 0, n, d, s, RV.out.cells q10 q11 q12 NS.out G10.out.1 G10.out.2.1 G10.out.2.2 rF, .inl ⟨by rw [ho]; exact her, by rw [ho], rfl, rfl, rfl, rfl, rfl⟩⟩
  have x5 := q5.cell 0
  have x10 := q10.cell 0
  have x11 := q11.cell 0
  have x12 := q12.cell 0
  simp at x5 x10 x11 x12
  have y10 := q10.frozen 0
  have y11 := q11.frozen 0
  have y12 := q12.frozen 0
  have l10 := q10.lt
  have l11 := q11.lt
  have l12 := q12.lt
  have n1' := q10.ne q11 (by decide)
  have n2' := q10.ne q12 (by decide)
  have n3' := q11.ne q12 (by decide)
  have n4' := q5.ne q10 (by decide)
  have n5' := q5.ne q11 (by decide)
  have n6' := q5.ne q12 (by decide)
  have v0 := RV.out.inst.here.cell 0
  simp at v0
  have Q5 : Hid (Has Wv b5 _ _) := q5
  have Q10 : Hid (Has Wv b10 _ _) := q10
  have Q11 : Hid (Has Wv b11 _ _) := q11
  have Q12 : Hid (Has Wv b12 _ _) := q12
  clear q5 q10 q11 q12 e0 e1 e2 e3 k0 k1 k2 k3 f5 c0 c5 RW
  rcases hsg : R.P.sig f with ⟨u, okk⟩
  have HSG : Hid (R.P.sig f = (u, okk)) := hsg
  cases okk with
  | false =>
    have ho : owedP R.P f args = 8 := by unfold owedP; rw [if_neg h3, hsg, if_pos (.inl rfl)]
    clear hsg
    go_wp2
    exact REF.out 8 _ (by decide) ho rfl rfl rfl
  | true =>
    obtain ⟨g, rfl, hu⟩ : ∃ g : Nat, f = g ∧ R.P.funs[g]? = some u := by
      unfold ProgD.sig at hsg
      by_cases hf0 : f < 0
      · rw [if_pos hf0] at hsg
        simp at hsg
      · rw [if_neg hf0] at hsg
        refine ⟨f.toNat, by omega, ?_⟩
        cases hq : R.P.funs[f.toNat]? with
        | none => rw [hq] at hsg; simp at hsg
        | some u' => rw [hq] at hsg; simp at hsg; rw [hsg]
    clear hsg
    have HU : Hid (R.P.funs[g]? = some u) := hu
    obtain ⟨up, ur, ul⟩ := u
    go_wp2_with fail
    refine (pnimports_any _ _ _ _ _ RV.out.prog).mono ?_
    rintro e w1 ⟨rfl, rfl⟩
    obtain ⟨wv, hwv⟩ : ∃ wv, wv = w1 := ⟨_, rfl⟩
    subst hwv
    simp only
    by_cases hni : (g : Int) < R.P.nimp
    · have ho : owedP R.P g args = 8 := by unfold owedP; rw [if_neg h3, HSG.out, if_pos (.inr hni)]
      go_wp2
      exact REF.out 8 _ (by decide) ho rfl rfl rfl
    by_cases hl : args.length = up.length
    · have hlb : ((args.length : Int) != (up.length : Int)) = false := by simp [hl]
      have hni' : R.P.nimp ≤ (g : Int) := by omega
      have NS5 : Hid (¬ R.H.S s b5) := (R.H.typed RV.out.host).has Q5.out (by decide)
      have ST : Hid (∀ {wr : World} {L1 : InL} {K1 : KL} {x1 : InD} {n1 : Int} {d1 : KD} {s1 : σ}, RunW (R.from wv L K s) wr L1 K1 x1 n1 d1 s1 → Has wr b5 #[.pointer (some ⟨R.bx, 0, none⟩)] 27 ∧ Has wr b10 #[.slice none 0 0] 37 ∧ Has wr b11 #[.int .i64 0] 3 ∧ Has wr b12 #[.nilIface] 74 ∧ wr.ownsRow 0 70 2 (.slice aa args.length cc) args.length (bvCells args) ∧ ¬ R.H.S s1 b10) := by
        intro wr L1 K1 x1 n1 d1 s1 hrun
        refine ⟨hrun.still RV.out Q5.out (by decide) (by decide) (by decide) NS5.out, hrun.still RV.out Q10.out (by decide) (by decide) (by decide) NS.out, hrun.still RV.out Q11.out (by decide) (by decide) (by decide) ((R.H.typed RV.out.host).has Q11.out (by decide)), hrun.still RV.out Q12.out (by decide) (by decide) (by decide) ((R.H.typed RV.out.host).has Q12.out (by decide)), ?_, fun hS => NS.out (hrun.subH b10 l10 hS)⟩
        refine owns_fr AV.out hrun.fr ?_
        rintro k hk (h1 | h1 | h1 | h1)
        · exact RV.out.inst.typed.owns AV.out (by decide) k hk h1
        · exact RV.out.prog.typed.owns AV.out (by decide) k hk (.inl h1)
        · exact RV.out.mach.typed.owns AV.out (by decide) k hk h1
        · exact HAP.out k hk h1
      have DOOR7 : Hid (∀ {wr : World} {L1 : InL} {st1 : List V}, RunW (R.from wv L K s) wr L1 K ⟨st1, [], 0, 0⟩ n d s → ∀ (er : Int) (tmps : Array Value), er ≠ 0 → owedP R.P g args = er → tmps.getD 10 undef = .pointer (some ⟨b10, 0, none⟩) → tmps.getD 11 undef = .pointer (some ⟨b11, 0, none⟩) → tmps.getD 12 undef = .pointer (some ⟨b12, 0, none⟩) →
          Leaves Tryz.prog Tryz.f38 tmps (CallPost sem H R K n d s g args fuel) [{ target := .fn (.func 61) #[.pointer (some ⟨b5, 0, none⟩), .pointer (some ⟨b10, 0, none⟩), .pointer (some ⟨b11, 0, none⟩), .pointer (some ⟨b12, 0, none⟩)], args := #[] }] .returning (((wr.setCell ⟨b10, 0, none⟩ (.slice none 0 0)).setCell ⟨b11, 0, none⟩ (.int .i64 0)).setCell ⟨b12, 0, none⟩ (.iface 40 (.int .i64 er)))) := by
        intro wr L1 st1 hrun er tmps her ho p10 p11 p12
        obtain ⟨q5, q10, q11, q12, _, qS⟩ := ST.out hrun
        obtain ⟨r10, r11, r12, rF⟩ := q10.put3 q11 q12 (.slice none 0 0) (.int .i64 0) (.iface 40 (.int .i64 er))
        have RB := (RV.out.back hrun).cells q10 q11 q12 qS G10.out.1 G10.out.2.1 G10.out.2.2 rF
        have q5' : Has _ b5 _ _ := q5.fr rF (by rintro (e | e | e); exact q5.ne q10 (by decide) e; exact q5.ne q11 (by decide) e; exact q5.ne q12 (by decide) e)
        have h5 := q5'.cell 0
        simp only [List.getElem?_toArray, List.getElem?_cons_zero] at h5
        refine leaves_cons (f := 61) (args := #[.pointer (some ⟨b5, 0, none⟩), .pointer (some ⟨b10, 0, none⟩), .pointer (some ⟨b11, 0, none⟩), .pointer (some ⟨b12, 0, none⟩)]) (by simp) (by simp [go_sem]) ?_
        refine (catch_idle b5 b10 b11 b12 R.bx _ h5 (q5'.ne RB.inst.here (by decide)) RB.inst.here).mono ?_
        rintro e u' w'' ⟨rfl, rfl, rfl⟩
        have RC := RB.cleared
        have hFx : Fr (fun k => k = R.bx) _ (clear3 (((wr.setCell ⟨b10, 0, none⟩ (.slice none 0 0)).setCell ⟨b11, 0, none⟩ (.int .i64 0)).setCell ⟨b12, 0, none⟩ (.iface 40 (.int .i64 er))) R.bx) := Fr.setCell (S := fun k => k = R.bx) (Fr.setCell (S := fun k => k = R.bx) (Fr.setCell (S := fun k => k = R.bx) (Fr.refl _ _) (p := ⟨R.bx, 2, none⟩) (.inl rfl) _) (p := ⟨R.bx, 3, none⟩) (.inl rfl) _) (p := ⟨R.bx, 4, none⟩) (.inl rfl) _
        refine ⟨_, call_res tmps _ b10 b11 b12 (.slice none 0 0) (.int .i64 0) (.iface 40 (.int .i64 er)) p10 p11 p12 ((r10.fr hFx (r10.ne RB.inst.here (by decide))).cell 0) ((r11.fr hFx (r11.ne RB.inst.here (by decide))).cell 0) ((r12.fr hFx (r12.ne RB.inst.here (by decide))).cell 0), ?_⟩
        exact ⟨_, K, 0, n, d, s, RC, .inl ⟨by rw [ho]; exact her, by rw [ho], rfl, rfl, rfl, rfl, rfl⟩⟩
      obtain ⟨FE, HFE⟩ : ∃ FE : Int → Int → KD → σ → Int → List V → Prop, Hid (FE = fun us n1 d1 s1 t vs => FEnds R.P H fuel (cfg0 R.P g args n d (sem s)) ⟨t, vs, cfgEnd sem us n1 d1 s1⟩) := ⟨_, rfl⟩
      have HFO : Hid (∀ us n1 d1 s1 t vs, FE us n1 d1 s1 t vs → FEnds R.P H fuel (cfg0 R.P g args n d (sem s)) ⟨t, vs, cfgEnd sem us n1 d1 s1⟩) := fun us n1 d1 s1 t vs hf => by
        rw [HFE.out] at hf
        exact hf
      have DOORT : Hid (∀ {wr : World} {L1 : InL} {K1 : KL} {x1 : InD} {n1 : Int} {d1 : KD} {s1 : σ}, RunW (R.from wv L K s) wr L1 K1 x1 n1 d1 s1 → owedP R.P g args = 0 → ∀ (t : Int) (tmps : Array Value), 11 ≤ t → t ≤ 17 → FE x1.used n1 d1 s1 t [] → tmps.getD 10 undef = .pointer (some ⟨b10, 0, none⟩) → tmps.getD 11 undef = .pointer (some ⟨b11, 0, none⟩) → tmps.getD 12 undef = .pointer (some ⟨b12, 0, none⟩) →
          Leaves Tryz.prog Tryz.f38 tmps (CallPost sem H R K n d s g args fuel) [{ target := .fn (.func 61) #[.pointer (some ⟨b5, 0, none⟩), .pointer (some ⟨b10, 0, none⟩), .pointer (some ⟨b11, 0, none⟩), .pointer (some ⟨b12, 0, none⟩)], args := #[] }] (.panicking (trapV t)) wr) := by
        intro wr L1 K1 x1 n1 d1 s1 hen ho t tmps ht1 ht2 ht3 p10 p11 p12
        obtain ⟨q5, q10, q11, q12, _, qS⟩ := ST.out hen
        have h5 := q5.cell 0
        simp only [List.getElem?_toArray, List.getElem?_cons_zero] at h5
        have RB := RV.out.back hen
        refine leaves_cons (f := 61) (args := #[.pointer (some ⟨b5, 0, none⟩), .pointer (some ⟨b10, 0, none⟩), .pointer (some ⟨b11, 0, none⟩), .pointer (some ⟨b12, 0, none⟩)]) (by simp) (by simp [go_sem]) ?_
        refine (catch_trap b5 b10 b11 b12 R.bx _ t h5 (q5.ne RB.inst.here (by decide)) RB.inst.here q10 q11 q12).mono ?_
        rintro e u' w'' ⟨rfl, rfl, rfl⟩
        have RC := RB.cleared
        have hFx : Fr (fun k => k = R.bx) wr (clear3 wr R.bx) := Fr.setCell (S := fun k => k = R.bx) (Fr.setCell (S := fun k => k = R.bx) (Fr.setCell (S := fun k => k = R.bx) (Fr.refl _ _) (p := ⟨R.bx, 2, none⟩) (.inl rfl) _) (p := ⟨R.bx, 3, none⟩) (.inl rfl) _) (p := ⟨R.bx, 4, none⟩) (.inl rfl) _
        have r10 := q10.fr hFx (q10.ne RB.inst.here (by decide))
        have r11 := q11.fr hFx (q11.ne RB.inst.here (by decide))
        have r12 := q12.fr hFx (q12.ne RB.inst.here (by decide))
        obtain ⟨t10, t11, t12, tF⟩ := r10.put3 r11 r12 (.slice none 0 0) (.int .i64 x1.used) (.iface 40 (.int .i64 t))
        refine ⟨_, call_res tmps _ b10 b11 b12 (.slice none 0 0) (.int .i64 x1.used) (.iface 40 (.int .i64 t)) p10 p11 p12 (t10.cell 0) (t11.cell 0) (t12.cell 0), ?_⟩
        exact ⟨_, K1, x1.high, n1, d1, s1, RC.cells r10 r11 r12 qS G10.out.1 G10.out.2.1 G10.out.2.2 tF, .inr ⟨ho, x1.used, t, [], HFO.out _ _ _ _ _ _ ht3, .inr ⟨ht1, ht2, rfl, rfl⟩⟩⟩
      have DOORK : Hid (∀ {wz : World} {L1 : InL} {K1 : KL} {x1 : InD} {n1 : Int} {d1 : KD} {s1 : σ} {v10 y z : Value} {bs : List BV} {vs : List V}, RunW R wz L1 K1 x1 n1 d1 s1 → ¬ R.H.S s1 b10 → Has wz b5 #[.pointer (some ⟨R.bx, 0, none⟩)] 27 → Has wz b10 #[v10] 37 → Has wz b11 #[y] 3 → Has wz b12 #[z] 74 → wz.ownsRow 0 70 2 v10 bs.length (bvCells bs) → bs = vs.reverse.map V.bv → vs.map V.ty = ur.reverse → (∀ v ∈ vs, v.Fits) → FE x1.used n1 d1 s1 1 vs → owedP R.P g args = 0 → ∀ (tmps : Array Value), tmps.getD 10 undef = .pointer (some ⟨b10, 0, none⟩) → tmps.getD 11 undef = .pointer (some ⟨b11, 0, none⟩) → tmps.getD 12 undef = .pointer (some ⟨b12, 0, none⟩) →
          Leaves Tryz.prog Tryz.f38 tmps (CallPost sem H R K n d s g args fuel) [{ target := .fn (.func 61) #[.pointer (some ⟨b5, 0, none⟩), .pointer (some ⟨b10, 0, none⟩), .pointer (some ⟨b11, 0, none⟩), .pointer (some ⟨b12, 0, none⟩)], args := #[] }] .returning (((wz.setCell ⟨b10, 0, none⟩ v10).setCell ⟨b11, 0, none⟩ (.int .i64 x1.used)).setCell ⟨b12, 0, none⟩ .nilIface)) := by
        intro wz L1 K1 x1 n1 d1 s1 v10 y z bs vs hrun qS q5 q10 q11 q12 hrow hbt hvt hvf hfe ho tmps p10 p11 p12
        obtain ⟨r10, r11, r12, rF⟩ := q10.put3 q11 q12 v10 (.int .i64 x1.used) .nilIface
        have RB := hrun.cells q10 q11 q12 qS G10.out.1 G10.out.2.1 G10.out.2.2 rF
        have q5' : Has _ b5 _ _ := q5.fr rF (by rintro (e | e | e); exact q5.ne q10 (by decide) e; exact q5.ne q11 (by decide) e; exact q5.ne q12 (by decide) e)
        have h5 := q5'.cell 0
        simp only [List.getElem?_toArray, List.getElem?_cons_zero] at h5
        refine leaves_cons (f := 61) (args := #[.pointer (some ⟨b5, 0, none⟩), .pointer (some ⟨b10, 0, none⟩), .pointer (some ⟨b11, 0, none⟩), .pointer (some ⟨b12, 0, none⟩)]) (by simp) (by simp [go_sem]) ?_
        refine (catch_idle b5 b10 b11 b12 R.bx _ h5 (q5'.ne RB.inst.here (by decide)) RB.inst.here).mono ?_
        rintro e u' w'' ⟨rfl, rfl, rfl⟩
        have RC := RB.cleared
        have hFx : Fr (fun k => k = R.bx) _ (clear3 (((wz.setCell ⟨b10, 0, none⟩ v10).setCell ⟨b11, 0, none⟩ (.int .i64 x1.used)).setCell ⟨b12, 0, none⟩ .nilIface) R.bx) := Fr.setCell (S := fun k => k = R.bx) (Fr.setCell (S := fun k => k = R.bx) (Fr.setCell (S := fun k => k = R.bx) (Fr.refl _ _) (p := ⟨R.bx, 2, none⟩) (.inl rfl) _) (p := ⟨R.bx, 3, none⟩) (.inl rfl) _) (p := ⟨R.bx, 4, none⟩) (.inl rfl) _
        refine ⟨_, call_res tmps _ b10 b11 b12 v10 (.int .i64 x1.used) .nilIface p10 p11 p12 ((r10.fr hFx (r10.ne RB.inst.here (by decide))).cell 0) ((r11.fr hFx (r11.ne RB.inst.here (by decide))).cell 0) ((r12.fr hFx (r12.ne RB.inst.here (by decide))).cell 0), ?_⟩
        have hrow1 := owns_fr hrow rF (by
          rintro k hk (e | e | e)
          · exact owns_ne hrow q10 (by decide) (e ▸ hk)
          · exact owns_ne hrow q11 (by decide) (e ▸ hk)
          · exact owns_ne hrow q12 (by decide) (e ▸ hk))
        have hrow2 := owns_fr hrow1 hFx (fun k hk e => owns_ne hrow1 RB.inst.here (by decide) (e ▸ hk))
        subst hbt
        rw [List.length_map, List.length_reverse] at hrow2
        exact ⟨_, K1, x1.high, n1, d1, s1, RC, .inr ⟨ho, x1.used, 1, vs, HFO.out _ _ _ _ _ _ hfe, .inl ⟨rfl, v10, rfl, hrow2, by rw [HSG.out]; exact hvt, hvf⟩⟩⟩
      have BASE : Hid (RunW (R.from wv L K s) wv L K ⟨[], [], 0, 0⟩ n d s) := RV.out.base
      obtain ⟨m, HM⟩ : ∃ m, Hid (args.length = m) := ⟨_, rfl⟩
      have hm3 : m ≤ 3 := by rw [← HM.out]; omega
      have HUM : Hid (up.length = m) := by rw [← HM.out]; exact hl.symm
      clear hl
      go_wp2
      rw [HM.out]
      go_loopw [60] (fun t wr => ∃ (j : Nat) (L1 : InL), j ≤ m ∧ t = .int .i64 j ∧ Hid (RunW (R.from wv L K s) wr L1 K ⟨stk (args.take j), [], 0, 0⟩ n d s) ∧ Hid (((args.take j).zip (up.take j)).all (fun q => fitsB q.1 q.2) = true)) (fun t _ => m - (intOf t).toNat)
      case atStart => exact ⟨0, L, Nat.zero_le _, rfl, BASE, by show _ = _; simp⟩
      case round =>
        obtain ⟨j, L1, hj, rfl, R2, HFB⟩ := hrel
        by_cases hlt : j < m
        · -- [A
          obtain ⟨q5, q10, q11, q12, qA, qS⟩ := ST.out R2.out
          rw [HM.out] at qA
          obtain ⟨ga, rfl, hca⟩ := owns_some qA (by omega)
          clear hca
          obtain ⟨x, hx⟩ : ∃ x, args[j]? = some x := ⟨_, List.getElem?_eq_getElem (by rw [HM.out]; exact hlt)⟩
          obtain ⟨t, ht⟩ : ∃ t, up[j]? = some t := ⟨_, List.getElem?_eq_getElem (by rw [HUM.out]; exact hlt)⟩
          have HX : Hid (args[j]? = some x) := hx
          have HT : Hid (up[j]? = some t) := ht
          obtain ⟨z0, z1⟩ := bvCells_at args j x hx
          have a0 := qA.cellAt (j * 2) (by omega)
          have a1 := qA.cellAt (j * 2 + 1) (by omega)
          rw [z0] at a0
          rw [z1] at a1
          have hgal := owns_lt qA ga rfl
          have hcc : m ≤ cc := by
            rcases owns_form qA with ⟨h, _⟩ | ⟨_, _, h⟩
            · cases h
            · exact h
          have hb : ∀ h, (((⟨up.toArray⟩ : ByteArray)[j]'h).toNat : Int) = t.toNat := fun h => by
            show (up[j].toNat : Int) = _
            rw [(List.getElem?_eq_some_iff.1 ht).2]
          have hjI : (j : Int) < up.length := by rw [HUM.out]; omega
          have hxI : I64 x.v := HFA.out x (List.mem_of_getElem? hx)
          obtain ⟨xt, xv⟩ := x
          simp only at a0 a1 hxI
          clear hx ht z0 z1 qA
          obtain ⟨w2, HW2⟩ : ∃ w2, Hid (w2 = wr.alloc (.cells #[.int .u8 xt.toNat, .int .i64 xv] 70)) := ⟨_, rfl⟩
          obtain ⟨G, HGG⟩ : ∃ G, Hid (G = wr.heap.size) := ⟨_, rfl⟩
          have R3 : Hid (RunW (R.from wv L K s) w2 L1 K ⟨stk (args.take j), [], 0, 0⟩ n d s) := by
            show RunW _ _ _ _ _ _ _ _
            rw [HW2.out]; exact R2.out.alloc _
          have HG : Has w2 G #[.int .u8 xt.toNat, .int .i64 xv] 70 := by rw [HW2.out, HGG.out]; exact Has.new _ _ _
          have e0 : w2.drew.cell? ⟨G, 0, none⟩ = _ := HG.cell 0
          have e1 : w2.drew.cell? ⟨G, 1, none⟩ = _ := HG.cell 1
          simp only [List.getElem?_toArray, List.getElem?_cons_succ, List.getElem?_cons_zero] at e0 e1
          have HHG : Hid (Has w2 G _ _) := HG
          clear HG q5 q10 q11 q12 qS
          go_wp2
          rw [← HW2.out, ← HGG.out]
          refine wp_calm ?_
          refine wp_region_tail 4 (by kernel_rfl) (by kernel_rfl) (fun _ _ _ _ _ h => h) ?_
          simp only [List.take_succ_cons, List.take_zero, List.drop_succ_cons, List.drop_zero]
          repeat go_big_quiet_step (fail)
          refine wpQuiet_nil ?_
          go_wp2_with fail
          refine (fits_any ⟨xt, xv⟩ t _).mono ?_
          rintro e w6 ⟨rfl, f6⟩
          have R6 : Hid (RunW (R.from wv L K s) w6 L1 K ⟨stk (args.take j), [], 0, 0⟩ n d s) := R3.out.drew.fresh f6
          have HG6 : Has w6 G _ _ := HHG.out.drew.fr f6 (fun h => h)
          have e0 := HG6.cell 0
          have e1 := HG6.cell 1
          simp only [List.getElem?_toArray, List.getElem?_cons_succ, List.getElem?_cons_zero] at e0 e1
          have kG := HG6.lt
          have HHG6 : Hid (Has w6 G _ _) := HG6
          clear R2 R3 HHG f6 HG6
          cases hfb : fitsB ⟨xt, xv⟩ t with
          | false =>
            have ho : owedP R.P g args = 7 := by
              unfold owedP
              rw [if_neg h3, HSG.out, if_neg (by simpa using hni), if_neg (by rw [HM.out, HUM.out]; simp), if_pos]
              rw [← Bool.not_eq_true, List.all_eq_true]
              intro hall
              have := hall (⟨xt, xv⟩, t) (List.mem_of_getElem? (i := j) (by rw [List.getElem?_zip_eq_some]; exact ⟨HX.out, HT.out⟩))
              rw [hfb] at this
              cases this
            obtain ⟨q5, q10, q11, q12, _, qS⟩ := ST.out R6.out
            have x10 := q10.cell 0
            have x11 := q11.cell 0
            have x12 := q12.cell 0
            simp at x10 x11 x12
            have y10 := q10.frozen 0
            have y11 := q11.frozen 0
            have y12 := q12.frozen 0
            clear q5 q10 q11 q12 qS
            go_wp2_with fail
            refine calm_normal ?_
            go_wp2
            exact DOOR7.out R6.out 7 _ (by decide) ho rfl rfl rfl
          | true =>
            obtain ⟨q5, q10, q11, q12, qA, qS⟩ := ST.out R6.out
            have x5 := q5.cell 0
            simp at x5
            have l5 := q5.lt
            have k6 := R6.out.inst.here.lt
            have c2 := R6.out.inst.here.cell 2
            simp at c2
            have HQ5 : Hid (Has w6 b5 _ _) := q5
            have hZl : (stk (args.take j)).length ≤ 3 := by simp [stk]; omega
            clear q5 q10 q11 q12 qA qS
            obtain ⟨Z, HZ⟩ : ∃ Z, Hid (Z = stk (args.take j)) := ⟨_, rfl⟩
            rw [← HZ.out] at R6 c2 hZl
            go_wp2_with fail
            refine calm_normal ?_
            go_wp2
            refine wp_calm ?_
            refine wp_region_wapp rowVal 9 (by kernel_rfl) (by kernel_rfl) (fun _ _ _ _ _ h => h) _ _ _ _ rfl (.tmp 76) 81 82 83 rfl rfl rfl rfl rfl rfl rfl _ _ _ R6.out.inst.st (word xt xv).val (by rw [V.cells]; rfl) (by decide) (by simp [V.cells, V.oneCell]) (by simp only; omega) ?_
            intro gg cap w8 q1 q2 q3 q4
            obtain ⟨r1, r2, r3, r4, r5⟩ := R6.out.inst.pushed (word xt xv) q1 q2 q3 q4
            have FIN : Hid (RunW _ _ _ _ _ _ _ _) := R6.out.step r4 r5
            have d2 := r1 2
            rw [c2] at d2
            have f2 := r2 2
            have HG8 : Has w8 G _ _ := (HHG6.out.alloc _).fr q2 (owns_ne R6.out.inst.st HHG6.out (by decide))
            have H58 : Has w8 b5 _ _ := (HQ5.out.alloc _).fr q2 (owns_ne R6.out.inst.st HQ5.out (by decide))
            have g0 := HG8.cell 0
            have g1 := HG8.cell 1
            have g5 := H58.cell 0
            simp only [List.getElem?_toArray, List.getElem?_cons_succ, List.getElem?_cons_zero] at g0 g1 g5
            clear q1 q2 q3 q4 r4 r5 r1 r2 R6 HG8 HHG6 H58 HQ5
            simp only [List.take_succ_cons, List.take_zero]
            repeat go_big_quiet_step (fail)
            refine wpQuiet_nil ⟨?_, by simp, by simp, rfl, ?_⟩
            · intro K hK
              go_wp2_with fail
              refine (word_any xt xv _).mono ?_
              rintro e w' ⟨rfl, rfl⟩
              go_wp2
              exact hK
            · go_wp2
              refine calm_normal ?_
              go_wp2
              go_roundw
              case rel =>
                refine ⟨j + 1, { L1 with sa := some ⟨gg, 0, none⟩, sc := cap }, by omega, by go_num, ?_, ?_⟩
                · have e1 : stk (args.take (j + 1)) = word xt xv :: Z := by
                    rw [HZ.out, List.take_add_one, HX.out]
                    simp [stk]
                  rw [e1]
                  exact FIN.out
                · show _ = _
                  rw [List.take_add_one, List.take_add_one, HX.out, HT.out, List.zip_append (by simp [HM.out, HUM.out])]
                  simp only [List.all_append, HFB.out, Bool.true_and]
                  simp [hfb]
              case measure => simp [intOf]; omega
          -- A]
        · obtain rfl : j = m := by omega
          have hta : args.take j = args := List.take_of_length_le (by rw [HM.out]; exact Nat.le_refl _)
          have htu : up.take j = up := List.take_of_length_le (by rw [HUM.out]; exact Nat.le_refl _)
          rw [hta, htu] at HFB
          rw [hta] at R2
          have ho : owedP R.P g args = 0 := by
            unfold owedP
            rw [if_neg h3, HSG.out, if_neg (by simpa using hni), if_neg (by rw [HM.out, HUM.out]; simp), if_neg (by simp only; rw [HFB.out]; simp)]
          obtain ⟨hp1, hp2, hp3, hp4, hp5, hp6⟩ := PT.out.ps _ (List.mem_of_getElem? HU.out)
          simp only at hp1 hp2 hp3 hp4 hp5 hp6
          obtain ⟨st1, st2⟩ := stk_ty args up (by rw [HM.out, HUM.out]) hp4 HFB.out HFA.out
          have HE : Hid (Calls _ _ _ _ _) := renter_any R2.out.inst R2.out.prog (by have := PT.out.flen; simp only; omega) (f := g) (u := ⟨up, ur, ul⟩) HU.out (args := stk args) (rest := []) (by simp) st1 0 (by simp) (by simp only; rw [stk_len, HM.out]; omega) hp3 (by simp)
          obtain ⟨q5, q10, q11, q12, qA, qS⟩ := ST.out R2.out
          have x5 := q5.cell 0
          simp at x5
          clear q5 q10 q11 q12 qA qS hta htu
          go_wp2_with fail
          refine HE.out.mono ?_
          rintro e w2 ⟨rfl, L2, i1, i2⟩
          have R3 := R2.out.step i1 i2
          have hgood : Good R.P T (zeros ul ++ stk args) [{ f := (g : Int), pc := 0, base := 0, floor := (zeros ul ++ stk args).length, res := ur }] := Good.start PT.out hni' HU.out st1 st2
          have hzl : (zeros ul ++ stk args).length = ul.length + up.length := by simp [zeros_len, stk_len, HM.out, HUM.out]
          have HLO : Hid (Calls _ _ _ _ _) := sloop_any (sem := sem) (H := H) (fuel := fuel) (h := h) R3 PT.out hgood (u0 := ⟨up, ur, ul⟩) rfl (by simpa using HU.out) rfl rfl hn64 hfuel MC.out (AC.out (R.from wv L K s) rfl rfl) HWF.out
          obtain ⟨q5, q10, q11, q12, qA, qS⟩ := ST.out R3
          have x5 := q5.cell 0
          simp at x5
          clear q5 q10 q11 q12 qA qS R3 i1 i2 HE hgood
          go_wp2_with fail
          refine HLO.out.mono ?_
          clear HLO
          have HCF : Hid (cfgOf sem (⟨zeros ul ++ stk args, [{ f := (g : Int), pc := 0, base := 0, floor := (zeros ul ++ stk args).length, res := ur }], 0, 0⟩ : InD) n d s = cfg0 R.P g args n d (sem s)) := by
            show _ = _
            unfold cfgOf cfg0
            rw [HSG.out]
            simp only
            have := dec_cons (r := { f := (g : Int), pc := 0, base := 0, floor := (zeros ul ++ stk args).length, res := ur }) (rs := []) (ops := []) (loc := zeros ul ++ stk args) (low := []) (fn := g) (pc := 0) rfl rfl rfl (by simp)
            simp only [List.nil_append, List.append_nil] at this
            rw [this, Int.toNat_natCast]
            rw [dec]
          rintro e w3 ⟨L3, K3, x3, n3, d3, s3, t, vs, hen, hfe, ⟨rfl, rfl, hfr3, rfl, hty3, hfit3⟩ | ⟨ht1, ht2, rfl, rfl⟩⟩
          · have hkl : x3.st.length = ur.length := by have := congrArg List.length hty3; simpa using this
            obtain ⟨st3, fr3, us3, hi3⟩ := x3
            simp only at hfr3 hty3 hfit3 hkl hfe
            subst hfr3
            obtain ⟨q5, q10, q11, q12, _, qS⟩ := ST.out hen
            have RB := RV.out.back hen
            have c2 := RB.inst.here.cell 2
            have x5 := q5.cell 0
            simp at c2 x5
            have HEN : Hid (FE us3 n3 d3 s3 1 st3) := by
              rw [HFE.out]
              show FEnds _ _ _ _ _
              rw [← HCF.out]
              exact hfe
            have HRB : Hid (RunW R w3 L3 K3 ⟨st3, [], us3, hi3⟩ n3 d3 s3) := RB
            have HS3 : Hid (¬ R.H.S s3 b10) := qS
            have P5 : Hid (Has w3 b5 _ _) := q5
            have P10 : Hid (Has w3 b10 _ _) := q10
            have P11 : Hid (Has w3 b11 _ _) := q11
            have P12 : Hid (Has w3 b12 _ _) := q12
            obtain ⟨k, HK⟩ : ∃ k, Hid (st3.length = k) := ⟨_, rfl⟩
            have hk1 : k ≤ 1 := by rw [← HK.out, hkl]; exact hp2
            have HTY3 : Hid (st3.map V.ty = ur.reverse) := hty3
            have HFI3 : Hid (∀ v ∈ st3, v.Fits) := hfit3
            rw [HK.out] at c2
            obtain ⟨ti, hti, hz, hsz, hby⟩ := info_parts rowVals.hi
            clear q5 q10 q11 q12 qS RB hen hkl hty3 hfit3 hfe
            go_wp2_with (at_make; go_must (refine wpList_make_full _ rfl _ _ 37 rfl 0 70 ti (.agg #[.int .u8 0, .int .i64 0]) 2 rowVals.ht hti hz hsz .i64 .i64 _ _ k rfl rfl rfl rfl (by rw [hby]; omega) (by unfold maxLen; omega) (Nat.zero_le _) ?mk))
            case mk =>
              intro w4 hown hgrow
              have F4 : Fr (fun _ => False) w3 w4 := (Fr.of_grown hgrow).weaken (fun k _ h => by cases h)
              obtain ⟨g4, HG4⟩ : ∃ g4, Hid (g4 = w3.heap.size) := ⟨_, rfl⟩
              have O4 : w4.ownsRow 0 70 2 (.slice (some ⟨g4, 0, none⟩) k k) k (bvCells (bv0 k)) := by
                rw [HG4.out, ← made_bv]
                exact hown
              have HG4S : Hid (¬ R.H.S s3 g4 ∧ R.w0.heap.size ≤ g4) := by
                refine ⟨fun hS => ?_, by rw [HG4.out]; exact HRB.out.fr.size⟩
                have := R.H.lt HRB.out.host hS
                rw [HG4.out] at this
                omega
              have R4 := HRB.out.fresh F4
              have q5 := P5.out.fr F4 (fun h => h)
              have q10 := P10.out.fr F4 (fun h => h)
              have q11 := P11.out.fr F4 (fun h => h)
              have q12 := P12.out.fr F4 (fun h => h)
              have hF4 : Fr (fun k => k = b10 ∨ k = b11 ∨ k = b12) w4 (w4.setCell ⟨b10, 0, none⟩ (.slice (some ⟨g4, 0, none⟩) k k)) := Fr.setCell (S := fun k => k = b10 ∨ k = b11 ∨ k = b12) (Fr.refl _ _) (p := ⟨b10, 0, none⟩) (.inl (.inl rfl)) _
              obtain ⟨w5, HW5⟩ : ∃ w5, Hid (w5 = w4.setCell ⟨b10, 0, none⟩ (.slice (some ⟨g4, 0, none⟩) k k)) := ⟨_, rfl⟩
              have R5 : RunW R w5 L3 K3 ⟨st3, [], us3, hi3⟩ n3 d3 s3 := by rw [HW5.out]; exact R4.cells q10 q11 q12 HS3.out G10.out.1 G10.out.2.1 G10.out.2.2 hF4
              have r10 : Has w5 b10 #[.slice (some ⟨g4, 0, none⟩) k k] 37 := by rw [HW5.out]; simpa using q10.put 0 (.slice (some ⟨g4, 0, none⟩) k k)
              have r5 : Has w5 b5 #[.pointer (some ⟨R.bx, 0, none⟩)] 27 := by rw [HW5.out]; exact q5.other (p := ⟨b10, 0, none⟩) (q5.ne q10 (by decide)) _
              have r11 : Has w5 b11 #[.int .i64 0] 3 := by rw [HW5.out]; exact q11.other (p := ⟨b10, 0, none⟩) (q11.ne q10 (by decide)) _
              have r12 : Has w5 b12 #[.nilIface] 74 := by rw [HW5.out]; exact q12.other (p := ⟨b10, 0, none⟩) (q12.ne q10 (by decide)) _
              have O5 : w5.ownsRow 0 70 2 (.slice (some ⟨g4, 0, none⟩) k k) k (bvCells (bv0 k)) := by rw [HW5.out]; exact owns_other O4 (p := ⟨b10, 0, none⟩) (owns_ne O4 q10 (by decide)) _
              have x10 := q10.cell 0
              have x5 := q5.cell 0
              have c2 := R4.inst.here.cell 2
              simp at x10 x5 c2
              rw [HK.out] at c2
              have y10 := q10.frozen 0
              have l10 := q10.lt
              have nbx := R4.inst.here.ne q10 (by decide)
              have HR5 : Hid (RunW R w5 L3 K3 ⟨st3, [], us3, hi3⟩ n3 d3 s3) := R5
              have HO5 : Hid (World.ownsRow w5 _ _ _ _ _ _) := O5
              have A5 : Hid (Has w5 b5 _ _) := r5
              have A10 : Hid (Has w5 b10 _ _) := r10
              have A11 : Hid (Has w5 b11 _ _) := r11
              have A12 : Hid (Has w5 b12 _ _) := r12
              clear hown hgrow F4 R4 q5 q10 q11 q12 hF4 R5 r10 r5 r11 r12 O5 O4 HRB P5 P10 P11 P12
              go_wp2
              rw [← HG4.out, ← HW5.out]
              have z10 := A10.out.cell 0
              have z5 := A5.out.cell 0
              have z4 := HR5.out.inst.here.cell 4
              have z11 := A11.out.cell 0
              have z12 := A12.out.cell 0
              simp at z10 z5 z4 z11 z12
              have u10 := A10.out.frozen 0
              have u11 := A11.out.frozen 0
              have u12 := A12.out.frozen 0
              have s10 : ∀ v : Value, (w5.setCell ⟨b10, 0, none⟩ v).cell? ⟨b10, 0, none⟩ = some v := fun v => by
                have := (A10.out.put 0 v).cell 0
                simpa using this
              have s5 : ∀ v : Value, (w5.setCell ⟨b10, 0, none⟩ v).cell? ⟨b5, 0, none⟩ = some (.pointer (some ⟨R.bx, 0, none⟩)) := fun v => by
                have := (A5.out.other (p := ⟨b10, 0, none⟩) (A5.out.ne A10.out (by decide)) v).cell 0
                simpa using this
              have s4 : ∀ v : Value, (w5.setCell ⟨b10, 0, none⟩ v).cell? ⟨R.bx, 4, none⟩ = some (.int .i64 us3) := fun v => by
                have := (HR5.out.inst.here.other (p := ⟨b10, 0, none⟩) nbx v).cell 4
                simpa using this
              have S10 : Hid (∀ v : Value, _) := s10
              have S5 : Hid (∀ v : Value, _) := s5
              have S4 : Hid (∀ v : Value, _) := s4
              clear s10 s5 s4
              cases st3 with
              | nil =>
                obtain rfl : k = 0 := by rw [← HK.out]; rfl
                refine wp_loop_rounds 1 ?_
                rw [rounds_succ]
                go_wp2
                refine wp_calm ?_
                refine wp_region_mid [0, 1, 2, 3, 4] 5 6 (fun y => y.cell? ⟨b10, 0, none⟩ = some (.slice (some ⟨g4, 0, none⟩) 0 0) ∧ y.cell? ⟨b5, 0, none⟩ = some (.pointer (some ⟨R.bx, 0, none⟩)) ∧ y.cell? ⟨R.bx, 4, none⟩ = some (.int .i64 us3)) (by kernel_rfl) (by kernel_rfl) (fun _ _ _ _ _ h => h) ⟨z10, z5, z4⟩ [_, _, _, _, _] rfl _ rfl ?_
                refine wpQ_load1 rfl (.tmp 10) ⟨b10, 0, none⟩ (.slice (some ⟨g4, 0, none⟩) 0 0) rfl (by kernel_rfl) (by kernel_rfl) (fun _ h => h.1) ?_
                simp only [Act.put, List.setIfInBounds_toArray, List.set_cons_succ, List.set_cons_zero]
                refine wpQ_load1 rfl (.tmp 5) ⟨b5, 0, none⟩ (.pointer (some ⟨R.bx, 0, none⟩)) rfl (by kernel_rfl) (by kernel_rfl) (fun _ h => h.2.1) ?_
                simp only [Act.put, List.setIfInBounds_toArray, List.set_cons_succ, List.set_cons_zero]
                refine wpQ_nilCheck rfl (.tmp 117) ⟨R.bx, 0, none⟩ rfl (by kernel_rfl) ?_
                simp only [Act.put, List.setIfInBounds_toArray, List.set_cons_succ, List.set_cons_zero]
                refine wpQ_fieldAddr rfl (.tmp 118) 4 ⟨R.bx, 0, none⟩ ⟨R.bx, 4, none⟩ rfl (by kernel_rfl) (fun w => by kernel_rfl) ?_
                simp only [Act.put, List.setIfInBounds_toArray, List.set_cons_succ, List.set_cons_zero]
                refine wpQ_load1 rfl (.tmp 119) ⟨R.bx, 4, none⟩ (.int .i64 us3) rfl (by kernel_rfl) (by kernel_rfl) (fun _ h => h.2.2) ?_
                simp only [Act.put, List.setIfInBounds_toArray, List.set_cons_succ, List.set_cons_zero]
                refine wpQuiet_nil ?_
                go_wp2
                refine ⟨⟨S10.out _, S5.out _, S4.out _⟩, ?_⟩
                simp only [List.drop_succ_cons, List.drop_zero]
                go_wp2
                refine calm_normal ?_
                go_wp2
                have hur : ur = [] := by simpa using HTY3.out.symm
                exact DOORK.out (wz := w5.drew) (bs := []) (vs := []) HR5.out.drew HS3.out A5.out A10.out A11.out A12.out HO5.out rfl HTY3.out HFI3.out HEN.out ho _ rfl rfl rfl
              | cons v l =>
                obtain rfl : k = 1 := by
                  have := HK.out
                  simp at this
                  omega
                have hl0 : l = [] := by
                  have := HK.out
                  simpa using this
                subst hl0
                obtain ⟨gs, hsa, hsc, hsf, hsl, hscp, _⟩ := HR5.out.inst.stAt (i := 0) (v := v) (by simp)
                have hvf : v.Fits := HFI3.out v (by simp)
                rw [hsa]
                clear hsf
                simp only [List.length_cons, List.length_nil, Nat.zero_add] at hscp
                refine wp_loop_rounds 2 ?_
                rw [rounds_succ]
                go_wp2
                refine wp_calm ?_
                refine wp_region_head 3 1 (fun y => y.cell? ⟨b10, 0, none⟩ = some (.slice (some ⟨g4, 0, none⟩) 1 1)) (by kernel_rfl) (by kernel_rfl) (fun _ _ _ _ _ h => h) z10 ?_
                simp only [List.take_succ_cons, List.take_zero, List.drop_succ_cons, List.drop_zero]
                refine wpQ_load1 rfl (.tmp 10) ⟨b10, 0, none⟩ (.slice (some ⟨g4, 0, none⟩) 1 1) rfl (by kernel_rfl) (by kernel_rfl) (fun _ h => h) ?_
                simp only [Act.put, List.setIfInBounds_toArray, List.set_cons_succ, List.set_cons_zero]
                refine wpQ_move rfl (.tmp 19) (.int .i64 0) rfl (by kernel_rfl) ?_
                simp only [Act.put, List.setIfInBounds_toArray, List.set_cons_succ, List.set_cons_zero]
                refine wpQ_move rfl (.tmp 20) v.val rfl (by kernel_rfl) ?_
                simp only [Act.put, List.setIfInBounds_toArray, List.set_cons_succ, List.set_cons_zero]
                refine wpQuiet_nil ?_
                unfold wpChain
                go_wp2_with fail
                refine (out_any v hvf _).mono ?_
                rintro e w6 ⟨rfl, f6⟩
                have F6 : Fr (fun _ => False) w5 w6 := (Fr.refl _ w5).drew.trans f6 (fun _ _ h => h)
                obtain ⟨vt, HVT⟩ : ∃ vt : Int, Hid (vt = v.ty.toNat) := ⟨_, rfl⟩
                obtain ⟨vn, HVN⟩ : ∃ vn : Int, Hid (vn = v.num) := ⟨_, rfl⟩
                rw [← HVT.out, ← HVN.out]
                have O6 := owns_fr HO5.out F6 (fun _ _ h => h)
                have B5 := A5.out.fr F6 (fun h => h)
                have B10 := A10.out.fr F6 (fun h => h)
                have B11 := A11.out.fr F6 (fun h => h)
                have B12 := A12.out.fr F6 (fun h => h)
                have R6 := HR5.out.fresh F6
                obtain ⟨cs6, hcs6⟩ := owns_typed O6 (g := g4) rfl
                obtain ⟨w7, HW7⟩ : ∃ w7, Hid (w7 = (w6.setCell ⟨g4, 0, none⟩ (.int .u8 vt)).setCell ⟨g4, 1, none⟩ (.int .i64 vn)) := ⟨_, rfl⟩
                have hFa : Fr (fun k => k = g4) w6 w7 := by
                  rw [HW7.out]
                  exact Fr.setCell (S := fun k => k = g4) (Fr.setCell (S := fun k => k = g4) (Fr.refl _ _) (p := ⟨g4, 0, none⟩) (.inl rfl) _) (p := ⟨g4, 1, none⟩) (.inl rfl) _
                have R7 := R6.args hcs6 HG4S.out.1 HG4S.out.2 hFa
                have D5 := B5.fr hFa (fun e => B5.ne hcs6 (by decide) e)
                have D10 := B10.fr hFa (fun e => B10.ne hcs6 (by decide) e)
                have D11 := B11.fr hFa (fun e => B11.ne hcs6 (by decide) e)
                have D12 := B12.fr hFa (fun e => B12.ne hcs6 (by decide) e)
                have O7 : w7.ownsRow 0 70 2 (.slice (some ⟨g4, 0, none⟩) 1 1) 1 (bvCells [v.bv]) := by
                  have := ((O6.stored 0 (.int .u8 vt)).1.stored 1 (.int .i64 vn)).1
                  rw [HW7.out]
                  rw [HVT.out, HVN.out] at this ⊢
                  exact this
                have a0 := O6.cellAt 0 (by omega)
                have a1 := O6.cellAt 1 (by omega)
                simp [bv0, bvCells] at a0 a1
                have hf0 := O6.frozenAt 0
                have hf1 := O6.frozenAt 1
                have hg6 := owns_lt O6 g4 rfl
                have m10 := B10.cell 0
                simp at m10
                have z10 := D10.cell 0
                have z5 := D5.cell 0
                have z4 := R7.inst.here.cell 4
                have z11 := D11.cell 0
                have z12 := D12.cell 0
                simp at z10 z5 z4 z11 z12
                have u10 := D10.frozen 0
                have u11 := D11.frozen 0
                have u12 := D12.frozen 0
                have s10 : ∀ v : Value, (w7.setCell ⟨b10, 0, none⟩ v).cell? ⟨b10, 0, none⟩ = some v := fun v => by
                  have := (D10.put 0 v).cell 0
                  simpa using this
                have s5 : ∀ v : Value, (w7.setCell ⟨b10, 0, none⟩ v).cell? ⟨b5, 0, none⟩ = some (.pointer (some ⟨R.bx, 0, none⟩)) := fun v => by
                  have := (D5.other (p := ⟨b10, 0, none⟩) (D5.ne D10 (by decide)) v).cell 0
                  simpa using this
                have s4 : ∀ v : Value, (w7.setCell ⟨b10, 0, none⟩ v).cell? ⟨R.bx, 4, none⟩ = some (.int .i64 us3) := fun v => by
                  have := (R7.inst.here.other (p := ⟨b10, 0, none⟩) nbx v).cell 4
                  simpa using this
                have S10 : Hid (∀ v : Value, _) := s10
                have S5 : Hid (∀ v : Value, _) := s5
                have S4 : Hid (∀ v : Value, _) := s4
                have HR7 : Hid (RunW _ _ _ _ _ _ _ _) := R7
                have HO7 : Hid (World.ownsRow _ _ _ _ _ _ _) := O7
                have E5 : Hid (Has w7 b5 _ _) := D5
                have E10 : Hid (Has w7 b10 _ _) := D10
                have E11 : Hid (Has w7 b11 _ _) := D11
                have E12 : Hid (Has w7 b12 _ _) := D12
                clear s10 s5 s4 R7 O7 D5 D10 D11 D12 R6 B5 B10 B11 B12 O6 hFa hcs6 F6 f6
                go_wp2
                refine ⟨m10, ?_⟩
                rw [wpChain_zero]
                go_wp2
                refine calm_normal ?_
                go_wp2
                rw [← HW7.out, rounds_succ]
                go_wp2
                refine wp_calm ?_
                refine wp_region_mid [0, 1, 2, 3, 4] 5 6 (fun y => y.cell? ⟨b10, 0, none⟩ = some (.slice (some ⟨g4, 0, none⟩) 1 1) ∧ y.cell? ⟨b5, 0, none⟩ = some (.pointer (some ⟨R.bx, 0, none⟩)) ∧ y.cell? ⟨R.bx, 4, none⟩ = some (.int .i64 us3)) (by kernel_rfl) (by kernel_rfl) (fun _ _ _ _ _ h => h) ⟨z10, z5, z4⟩ [_, _, _, _, _] rfl _ rfl ?_
                refine wpQ_load1 rfl (.tmp 10) ⟨b10, 0, none⟩ (.slice (some ⟨g4, 0, none⟩) 1 1) rfl (by kernel_rfl) (by kernel_rfl) (fun _ h => h.1) ?_
                simp only [Act.put, List.setIfInBounds_toArray, List.set_cons_succ, List.set_cons_zero]
                refine wpQ_load1 rfl (.tmp 5) ⟨b5, 0, none⟩ (.pointer (some ⟨R.bx, 0, none⟩)) rfl (by kernel_rfl) (by kernel_rfl) (fun _ h => h.2.1) ?_
                simp only [Act.put, List.setIfInBounds_toArray, List.set_cons_succ, List.set_cons_zero]
                refine wpQ_nilCheck rfl (.tmp 117) ⟨R.bx, 0, none⟩ rfl (by kernel_rfl) ?_
                simp only [Act.put, List.setIfInBounds_toArray, List.set_cons_succ, List.set_cons_zero]
                refine wpQ_fieldAddr rfl (.tmp 118) 4 ⟨R.bx, 0, none⟩ ⟨R.bx, 4, none⟩ rfl (by kernel_rfl) (fun w => by kernel_rfl) ?_
                simp only [Act.put, List.setIfInBounds_toArray, List.set_cons_succ, List.set_cons_zero]
                refine wpQ_load1 rfl (.tmp 119) ⟨R.bx, 4, none⟩ (.int .i64 us3) rfl (by kernel_rfl) (by kernel_rfl) (fun _ h => h.2.2) ?_
                simp only [Act.put, List.setIfInBounds_toArray, List.set_cons_succ, List.set_cons_zero]
                refine wpQuiet_nil ?_
                go_wp2
                refine ⟨⟨S10.out _, S5.out _, S4.out _⟩, ?_⟩
                simp only [List.drop_succ_cons, List.drop_zero]
                go_wp2
                refine calm_normal ?_
                go_wp2
                have hur : ur = [v.ty] := by
                  have := congrArg List.reverse HTY3.out
                  simpa using this.symm
                exact DOORK.out (wz := w7.drew) (bs := [v.bv]) (vs := [v]) HR7.out.drew HS3.out E5.out E10.out E11.out E12.out HO7.out rfl HTY3.out HFI3.out HEN.out ho _ rfl rfl rfl
          · have HFT : Hid (FE x3.used n3 d3 s3 t []) := by
              rw [HFE.out]
              show FEnds _ _ _ _ _
              rw [← HCF.out]
              exact hfe
            clear hfe
            go_wp2
            exact DOORT.out hen ho t _ ht1 ht2 HFT.out rfl rfl rfl
    · have hlb : ((args.length : Int) != (up.length : Int)) = true := by simp; omega
      have ho : owedP R.P g args = 7 := by unfold owedP; rw [if_neg h3, HSG.out, if_neg (by simpa using hni), if_pos hl]
      go_wp2
      exact REF.out 7 _ (by decide) ho rfl rfl rfl
end
end Go.Proofs.Qxb6500575aGreatDoor
