/-
  THE WALK of runm.Call.
-/
import Derived.Test.Qxb6500575aGreatDoorYRun
import Derived.Test.Qxb6500575aGreatDoorSCall
namespace Go.Proofs.Qxb6500575aGreatDoor
open Go Go.RowKit
set_option linter.unusedVariables false
set_option linter.unusedSimpArgs false

/-- the model's fields as a Call begins -/
def ND.begin (fuel : Int) (host : Bool) (tape : List UInt8) (st : List V) : ND := ⟨st, fuel, 0, 0, 0, host, tape, []⟩
/-- the world as a Call begins -/
abbrev beginW (w : World) (bn : Nat) (fuel : Int) (host : Bool) (tape : List UInt8) : World := (((((((w.setCell ⟨bn, 4, none⟩ (.int .i64 fuel)).setCell ⟨bn, 5, none⟩ (.int .i64 0)).setCell ⟨bn, 6, none⟩ (.int .i64 0)).setCell ⟨bn, 7, none⟩ (.int .i64 0)).setCell ⟨bn, 8, none⟩ (.bool host)).setCell ⟨bn, 9, none⟩ (sv tape)).setCell ⟨bn, 10, none⟩ (sv [])).setCell ⟨bn, 3, none⟩ (.slice none 0 0)
/-- what a Call of the model comes to -/
def MCallPost (R : MP) (H : HF HS) (K : ML) (m : MS) (L : NL) (w : World) (f : Int) (args : List BV) (m1 : MS) (e : Ending) (w' : World) : Prop :=
  ∃ L' K' m', MW R w' L' K' m' ∧ MStep R (.slice none 0 0) w w' L L' K K' ∧
    ((owedP R.P f args ≠ 0 ∧ e = .returned (.tuple #[.slice none 0 0, .int .i64 0, .int .i64 (owedP R.P f args)]) ∧ m'.mem = m.mem ∧ m'.x.n = 0 ∧ m'.x.trace = []) ∨
     (owedP R.P f args = 0 ∧ ∃ N o, srun R.P R.srcs H R.max N ⟨2, [], 0, [], 1, 0, 0, 0, f.toNat⟩ m1 = some o ∧ m'.mem = o.m.mem ∧ m'.x.n = o.m.x.n ∧ m'.x.trace = o.m.x.trace ∧
       ((o.e ≠ 0 ∧ e = .returned (.tuple #[.slice none 0 0, .int .i64 o.m.x.used, .int .i64 o.e])) ∨
        (o.e = 0 ∧ ∃ v, e = .returned (.tuple #[v, .int .i64 o.m.x.used, .int .i64 0]) ∧ w'.ownsRow 0 70 2 v o.m.x.st.length (stCells o.m.x.st)))))
section
variable {R : MP} {H : HF HS} {m : MS} {w : World} {L : NL} {K : ML}
theorem begun (hW : MW R w L K m) (fuel : Int) (host : Bool) (tape : List UInt8) : MW R (beginW w R.bn fuel host tape) ⟨none, 0⟩ K { m with x := ND.begin fuel host tape [] } ∧ NStep w (beginW w R.bn fuel host tape) R.bn L ⟨none, 0⟩ := by
  have hF : Fr (fun k => k = R.bn) w (beginW w R.bn fuel host tape) := by
    unfold beginW
    refine Fr.setCell (S := fun k => k = R.bn) (Fr.setCell (S := fun k => k = R.bn) (Fr.setCell (S := fun k => k = R.bn) (Fr.setCell (S := fun k => k = R.bn) (Fr.setCell (S := fun k => k = R.bn) (Fr.setCell (S := fun k => k = R.bn) (Fr.setCell (S := fun k => k = R.bn) (Fr.setCell (S := fun k => k = R.bn) (Fr.refl _ _) ?_ _) ?_ _) ?_ _) ?_ _) ?_ _) ?_ _) ?_ _) ?_ _
    all_goals exact .inl rfl
  have hN : NStep w (beginW w R.bn fuel host tape) R.bn L ⟨none, 0⟩ := ⟨hF.weaken (fun k _ e => .inl e), fun k _ hS => by
    rcases hS with rfl | hS
    · exact .inl rfl
    · simp [Value.ownBlock] at hS⟩
  have hh := (((((((hW.inst.here.put 4 (.int .i64 fuel)).put 5 (.int .i64 0)).put 6 (.int .i64 0)).put 7 (.int .i64 0)).put 8 (.bool host)).put 9 (sv tape)).put 10 (sv [])).put 3 (.slice none 0 0)
  have hr : NRep (beginW w R.bn fuel host tape) R.bn R.q ⟨none, 0⟩ (ND.begin fuel host tape []) := ⟨by simpa [ND.begin] using hh, World.ownsRow_nil _ _ _ _⟩
  exact ⟨hW.stepN hr hN, hN⟩
theorem zip_takes {α β : Type} (j : Nat) (a : List α) (b : List β) : (a.take j).zip (b.take j) = (a.zip b).take j := by simp [List.zip, List.take_zipWith]
/-- between two arguments -/
structure CallI (R : MP) (w wr : World) (L L' : NL) (K : ML) (m : MS) (va : Value) (args : List BV) (up : List UInt8) (fuel : Int) (host : Bool) (tape : List UInt8) (j : Nat) : Prop where
  mw : MW R wr L' K { m with x := ND.begin fuel host tape (stk (args.take j)) }
  step : MStep R (.slice none 0 0) w wr L L' K K
  row : wr.ownsRow 0 70 2 va args.length (bvCells args)
  fit : ((args.take j).zip (up.take j)).all (fun q => fitsB q.1 q.2) = true
theorem stk_snoc (l : List BV) (b : BV) : stk (l ++ [b]) = word b.t b.v :: stk l := by simp [stk]
theorem NRep.emptied {bn : Nat} {q : NF} {x : ND} {w : World} {L : NL} (h : NRep w bn q L x) : NRep (w.setCell ⟨bn, 3, none⟩ (.slice none 0 0)) bn q ⟨none, 0⟩ { x with st := [] } ∧ NStep w (w.setCell ⟨bn, 3, none⟩ (.slice none 0 0)) bn L ⟨none, 0⟩ := by
  have hF : Fr (fun k => k = bn) w (w.setCell ⟨bn, 3, none⟩ (.slice none 0 0)) := Fr.setCell (S := fun k => k = bn) (Fr.refl _ _) (p := ⟨bn, 3, none⟩) (.inl rfl) _
  refine ⟨⟨by simpa using h.here.put 3 (.slice none 0 0), World.ownsRow_nil _ _ _ _⟩, hF.weaken (fun k _ e => .inl e), fun k _ hS => ?_⟩
  rcases hS with rfl | hS
  · exact .inl rfl
  · simp [Value.ownBlock] at hS
set_option maxRecDepth 100000
set_option maxHeartbeats 1500000
theorem ycall_any (hM : MOk R) (hW : MW R w L K m) (f : Int) (args : List BV) (aa : Option Addr) (cc : Nat) (hargs : w.ownsRow 0 70 2 (.slice aa args.length cc) args.length (bvCells args)) (hap : ∀ g, (Value.slice aa args.length cc).ownBlock = some g → ¬ NS R.bn L g) (hal : args.length ≤ 1000) (hfa : ∀ b ∈ args, I64 b.v) (fuel : Int) (host : Bool) (tape : List UInt8) (hH : (host = false ∧ H = noHost) ∨ (host = true ∧ H = hostF R.P tapeAsk))
    (hps : ∀ u ∈ R.P.funs, TyL u.params) (hrun : owedP R.P f args = 0 → ∃ N o, srun R.P R.srcs H R.max N ⟨2, [], 0, [], 1, 0, 0, 0, f.toNat⟩ { m with x := ND.begin fuel host tape (stk args) } = some o) :
    Calls Tryz.prog 71 #[.pointer (some ⟨R.bn, 0, none⟩), .int .i64 f, .slice aa args.length cc, .int .i64 fuel, .bool host, sv tape] w (MCallPost R H K m L w f args { m with x := ND.begin fuel host tape (stk args) }) := by
  obtain ⟨w0, HW0⟩ : ∃ w0, Hid (w0 = (((((((w.setCell ⟨R.bn, 4, none⟩ (.int .i64 fuel)).setCell ⟨R.bn, 5, none⟩ (.int .i64 0)).setCell ⟨R.bn, 6, none⟩ (.int .i64 0)).setCell ⟨R.bn, 7, none⟩ (.int .i64 0)).setCell ⟨R.bn, 8, none⟩ (.bool host)).setCell ⟨R.bn, 9, none⟩ (.string ⟨tape.toArray⟩)).setCell ⟨R.bn, 10, none⟩ (.string ⟨#[]⟩)).setCell ⟨R.bn, 3, none⟩ (.slice none 0 0)) := ⟨_, rfl⟩
  obtain ⟨b1, b2⟩ := begun hW fuel host tape
  have E0 : w0 = beginW w R.bn fuel host tape := HW0.out
  rw [← E0] at b1 b2
  clear E0
  have M0 : Hid (MW R w0 ⟨none, 0⟩ K { m with x := ND.begin fuel host tape [] }) := b1
  have S0 : Hid (NStep w w0 R.bn L ⟨none, 0⟩) := b2
  have A0 : Hid (World.ownsRow w0 0 70 2 (.slice aa args.length cc) args.length (bvCells args)) := owns_fr hargs b2.fr hap
  have c0 := hW.inst.here.cell 0
  simp only [List.getElem?_toArray, List.getElem?_cons_zero] at c0
  have c4 := hW.inst.here.cell 4
  have c5 := hW.inst.here.cell 5
  have c6 := hW.inst.here.cell 6
  have c7 := hW.inst.here.cell 7
  have c8 := hW.inst.here.cell 8
  have c9 := hW.inst.here.cell 9
  have c10 := hW.inst.here.cell 10
  have c3 := hW.inst.here.cell 3
  have fz : ∀ i, w.frozen? ⟨R.bn, i, none⟩ = false := fun i => hW.inst.here.frozen i
  simp at c3 c4 c5 c6 c7 c8 c9 c10
  have lt0 := hW.inst.here.lt
  obtain ⟨na, HNA⟩ : ∃ na, Hid (args.length = na) := ⟨_, rfl⟩
  rw [HNA.out] at A0 hal ⊢
  have HAP : Hid (∀ g, (Value.slice aa na cc).ownBlock = some g → g < w.heap.size ∧ ¬ NS R.bn L g) := fun g hg => by
    rw [← HNA.out] at hg
    exact ⟨owns_lt hargs g hg, hap g hg⟩
  have HRUN : Hid _ := hrun
  have HWW : Hid (MW R w L K m) := hW
  have HF : Hid (∀ b ∈ args, I64 b.v) := hfa
  have HM : Hid (MOk R) := hM
  have HPS : Hid (∀ u ∈ R.P.funs, TyL u.params) := hps
  have REF : Hid (∀ er W, er = owedP R.P f args → er ≠ 0 → Fr (fun _ => False) w0 W → MCallPost R H K m L w f args { m with x := ND.begin fuel host tape (stk args) } (.returned (.tuple #[.slice none 0 0, .int .i64 0, .int .i64 er])) W) := fun er W h1 h2 hF =>
    ⟨⟨none, 0⟩, K, _, M0.out.fresh hF, (MStep.ofN S0.out).trans (MStep.fresh hF), .inl ⟨by rw [← h1]; exact h2, by rw [h1], rfl, rfl, rfl⟩⟩
  clear b1 b2 hargs hap hW hrun hfa hM hps
  by_cases h3 : 3 < na
  · have ho : (1 : Int) = owedP R.P f args := by unfold owedP; rw [if_pos (by rw [HNA.out]; exact h3)]
    have HOW : Hid ((1 : Int) = owedP R.P f args) := ho
    have h3I : (3 : Int) < na := by omega
    clear ho
    go_enter Tryz.func71, Tryz.ntmps71
    go_wp2
    go_ret3
    rw [← HW0.out]
    exact REF.out 1 _ HOW.out (by decide) (Fr.refl _ _)
  have h3I : ¬ (3 : Int) < na := by omega
  have SIG : Hid (Calls _ _ _ _ _) := msig_any (MPS R.bpm R.LP) R.bpm R.LP R.P R.psrcs w0 f M0.out.prog HM.out.plen
  have NI : Hid (∀ n1, Calls _ _ _ _ _) := fun n1 => mpnimports_any (MPS R.bpm R.LP) R.bpm R.LP R.P R.psrcs (w0.drewN n1) (M0.out.prog.fresh ((Fr.refl _ _).drewN n1))
  obtain ⟨sg, HSG⟩ : ∃ sg, Hid (R.P.sig f = sg) := ⟨_, rfl⟩
  rw [HSG.out] at SIG
  obtain ⟨⟨up, ur, ul⟩, sok⟩ := sg
  simp only at SIG
  obtain ⟨ni, HNI⟩ : ∃ ni, Hid (R.P.nimp = ni) := ⟨_, rfl⟩
  rw [HNI.out] at NI
  have lw0 := M0.out.inst.here.lt
  have HL0 : Hid (w0.cell? ⟨R.bn, 0, none⟩ = some (.pointer (some ⟨R.bpm, 0, none⟩))) := by
    have d0 := M0.out.inst.here.cell 0
    simp only [List.getElem?_toArray, List.getElem?_cons_zero] at d0
    exact d0
  by_cases h8 : sok = false ∨ f < ni
  · have HOW : Hid ((8 : Int) = owedP R.P f args) := by
      show _ = _
      unfold owedP
      rw [if_neg (by rw [HNA.out]; exact h3), HSG.out, HNI.out, if_pos h8]
    go_enter Tryz.func71, Tryz.ntmps71
    go_wp2_with fail
    rw [← HW0.out]
    refine SIG.out.mono ?_
    rintro e w1 ⟨rfl, n1, rfl⟩
    clear c0 c3 c4 c5 c6 c7 c8 c9 c10 fz lt0
    have d0 := HL0.out
    go_wp2_with fail
    refine (NI.out n1).mono ?_
    rintro e w2 ⟨rfl, hw2⟩
    rw [hw2]
    clear hw2 w2 SIG NI
    by_cases h8a : sok = false
    · subst h8a
      clear h8
      go_wp2
      go_ret3
      exact REF.out 8 _ HOW.out (by decide) ((Fr.refl _ _).drewN n1)
    · have h8b : f < ni := by
        rcases h8 with h | h
        · exact absurd h h8a
        · exact h
      obtain rfl : sok = true := by simpa using h8a
      clear h8 h8a
      go_wp2
      go_ret3
      exact REF.out 8 _ HOW.out (by decide) ((Fr.refl _ _).drewN n1)
  obtain rfl : sok = true := by
    cases sok with
    | false => exact absurd (.inl rfl) h8
    | true => rfl
  have h8f : ¬ f < ni := fun h => h8 (.inr h)
  clear h8
  by_cases h7 : ¬ na = up.length
  · have HOW : Hid ((7 : Int) = owedP R.P f args) := by
      show _ = _
      unfold owedP
      rw [if_neg (by rw [HNA.out]; exact h3), HSG.out, HNI.out, if_neg (by simp only [Bool.true_eq_false, false_or]; exact h8f), if_pos (by rw [HNA.out]; exact h7)]
    have h7I : ((na : Int) != (up.length : Int)) = true := by simp; omega
    go_enter Tryz.func71, Tryz.ntmps71
    go_wp2_with fail
    rw [← HW0.out]
    refine SIG.out.mono ?_
    rintro e w1 ⟨rfl, n1, rfl⟩
    clear c0 c3 c4 c5 c6 c7 c8 c9 c10 fz lt0
    have d0 := HL0.out
    go_wp2_with fail
    refine (NI.out n1).mono ?_
    rintro e w2 ⟨rfl, hw2⟩
    rw [hw2]
    clear hw2 w2 SIG NI h7
    go_wp2
    go_ret3
    exact REF.out 7 _ HOW.out (by decide) ((Fr.refl _ _).drewN n1)
  replace h7 := Decidable.not_not.1 h7
  have h7I : ((na : Int) != (up.length : Int)) = false := by simp; omega
  have HUP : Hid (up.length = na) := h7.symm
  have hupl : (up.length : Int) = na := by rw [HUP.out]
  have hfu : ∃ u, R.P.funs[f.toNat]? = some u ∧ u = ⟨up, ur, ul⟩ ∧ 0 ≤ f := by
    have h := HSG.out
    unfold ProgD.sig at h
    split at h
    · simp at h
    · rename_i h0
      cases hf : R.P.funs[f.toNat]? with
      | none => rw [hf] at h; simp at h
      | some u => rw [hf] at h; simp at h; exact ⟨u, rfl, h, by omega⟩
  obtain ⟨u, hu1, rfl, hf0⟩ := hfu
  have HTU : Hid (TyL up) := HPS.out _ (List.mem_of_getElem? hu1)
  have I0 : Hid (∀ n1, CallI R w (w0.drewN n1) L ⟨none, 0⟩ K m (.slice aa na cc) args up fuel host tape 0) := fun n1 =>
    ⟨M0.out.fresh ((Fr.refl _ _).drewN n1), (MStep.ofN S0.out).trans (MStep.fresh ((Fr.refl _ _).drewN n1)), by have := owns_fr A0.out ((Fr.refl (fun _ => False) w0).drewN n1) (fun _ _ h => h); rw [HNA.out]; exact this, rfl⟩
  have HOWE : Hid (owedP R.P f args = if ((args.zip up).all fun q => fitsB q.1 q.2) = false then 7 else 0) := by
    show _ = _
    unfold owedP
    rw [if_neg (by rw [HNA.out]; exact h3), HSG.out, HNI.out, if_neg (by simp only [Bool.true_eq_false, false_or]; exact h8f), if_neg (by rw [HNA.out]; simp only; omega)]
  obtain ⟨fn, rfl⟩ : ∃ fn : Nat, f = fn := ⟨f.toNat, by omega⟩
  clear h7 hu1 hf0
  go_enter Tryz.func71, Tryz.ntmps71
  go_wp2_with fail
  rw [← HW0.out]
  refine SIG.out.mono ?_
  rintro e w1 ⟨rfl, n1, rfl⟩
  clear c0 c3 c4 c5 c6 c7 c8 c9 c10 fz lt0
  have d0 := HL0.out
  go_wp2_with fail
  refine (NI.out n1).mono ?_
  rintro e w2 ⟨rfl, hw2⟩
  rw [hw2]
  clear hw2 w2 SIG NI d0
  go_wp2
  go_loopw [20] (fun ti wr => ∃ (j : Nat) (L' : NL), j ≤ na ∧ ti = .int .i64 j ∧ Hid (CallI R w wr L L' K m (.slice aa na cc) args up fuel host tape j)) (fun ti _ => na - (intOf ti).toNat)
  case atStart => exact ⟨0, ⟨none, 0⟩, Nat.zero_le _, rfl, I0.out n1⟩
  case round =>
    obtain ⟨j, L', hj, rfl, HI⟩ := hrel
    clear I0 M0 S0 A0 HL0 lw0
    by_cases hlt : j < na
    · obtain ⟨b, hb⟩ : ∃ b, args[j]? = some b := ⟨_, List.getElem?_eq_getElem (by rw [HNA.out]; exact hlt)⟩
      obtain ⟨tj, htj⟩ : ∃ tj, up[j]? = some tj := ⟨_, List.getElem?_eq_getElem (by rw [HUP.out]; exact hlt)⟩
      have hrow : World.ownsRow wr 0 70 2 (.slice aa na cc) na (bvCells args) := by
        have := HI.out.row
        rw [HNA.out] at this
        exact this
      obtain ⟨ga, hga, hca⟩ := owns_some hrow (by omega)
      subst hga
      have q0 := hca (j * 2) (by omega)
      have q1 := hca (j * 2 + 1) (by omega)
      have hba := bvCells_at args j b hb
      rw [hba.1] at q0
      rw [hba.2] at q1
      have gl : ga < wr.heap.size := owns_lt hrow ga rfl
      have hbt : ∀ h, (((⟨up.toArray⟩ : ByteArray)[j]'h).toNat : Int) = tj.toNat := fun h => by
        show (up[j].toNat : Int) = _
        rw [(List.getElem?_eq_some_iff.1 htj).2]
      have hjI : (j : Int) < na := Int.ofNat_lt.2 hlt
      have HB : Hid (args[j]? = some b ∧ up[j]? = some tj) := ⟨hb, htj⟩
      obtain ⟨bt, bv⟩ := b
      simp only at q0 q1
      have FITS : Hid (Calls _ _ _ _ _) := yfits_any ⟨bt, bv⟩ tj wr.drew
      simp only at FITS
      have NX : Hid (∀ b : Bool, fitsB ⟨bt, bv⟩ tj = b → ((args.take (j + 1)).zip (up.take (j + 1))).all (fun q => fitsB q.1 q.2) = b) := fun bb hbb => by
        rw [List.take_add_one, List.take_add_one, HB.out.1, HB.out.2, List.zip_append (by simp [HNA.out, HUP.out])]
        simp only [Option.toList_some, List.zip_cons_cons, List.zip_nil_right, List.all_append, List.all_cons, List.all_nil, Bool.and_true]
        rw [HI.out.fit, hbb]
        simp
      have ALLF : Hid (fitsB ⟨bt, bv⟩ tj = false → owedP R.P (fn : Int) args = 7) := fun hff => by
        rw [HOWE.out, if_pos]
        have h := NX.out false hff
        rw [Bool.eq_false_iff] at h ⊢
        intro hall
        apply h
        rw [List.all_eq_true] at hall ⊢
        intro q hq
        rw [zip_takes] at hq
        exact hall q (List.mem_of_mem_take hq)
      obtain ⟨bn8, HBT⟩ : ∃ x : Int, Hid (x = bt.toNat) := ⟨_, rfl⟩
      obtain ⟨tn8, HTJ⟩ : ∃ x : Int, Hid (x = tj.toNat) := ⟨_, rfl⟩
      rw [← HBT.out] at q0 FITS
      rw [← HTJ.out] at hbt FITS
      clear hb htj hba hca
      go_wp2
      refine wp_region_tail 7 (by kernel_rfl) (by kernel_rfl) (fun _ _ _ _ _ h => h) ?_
      simp only [List.take_succ_cons, List.take_zero, List.drop_succ_cons, List.drop_zero]
      repeat go_big_quiet_step (fail)
      refine wpQuiet_nil ?_
      go_wp2_with fail
      refine FITS.out.mono ?_
      rintro e w3 ⟨rfl, f3⟩
      have F3 : Fr (fun _ => False) wr w3 := ((Fr.refl (fun _ => False) wr).drew).trans f3 (fun _ _ h => h)
      have M3 : Hid (MW R w3 L' K { m with x := ND.begin fuel host tape (stk (args.take j)) }) := HI.out.mw.fresh F3
      have T3 : Hid (MStep R (.slice none 0 0) w w3 L L' K K) := HI.out.step.trans (MStep.fresh F3)
      have O3 : Hid (World.ownsRow w3 0 70 2 (.slice (some ⟨ga, 0, none⟩) na cc) na (bvCells args)) := owns_fr hrow F3 (fun _ _ h => h)
      clear f3 F3 hrow q0 q1 FITS gl
      by_cases hfb : fitsB ⟨bt, bv⟩ tj = true
      · rw [hfb]
        obtain ⟨hw1, hw2, hw3⟩ := fits_word (HTU.out tj (List.mem_of_getElem? HB.out.2)) hfb (HF.out _ (List.mem_of_getElem? HB.out.1))
        simp only at hw1 hw3
        have hbt : bt = tj := by
          have h := hfb
          unfold fitsB at h
          simp at h
          exact h.1
        subst hbt
        have HFB : Hid (fitsB ⟨bt, bv⟩ bt = true) := hfb
        have q0 := O3.out.cellAt (j * 2) (by omega)
        have q1 := O3.out.cellAt (j * 2 + 1) (by omega)
        have hba := bvCells_at args j ⟨bt, bv⟩ HB.out.1
        rw [hba.1] at q0
        rw [hba.2] at q1
        simp only at q0 q1
        rw [← HBT.out] at q0
        have gl : ga < w3.heap.size := owns_lt O3.out ga rfl
        have d3 := M3.out.inst.here.cell 3
        simp only [List.getElem?_toArray, List.getElem?_cons_succ, List.getElem?_cons_zero] at d3
        have l3 := M3.out.inst.here.lt
        obtain ⟨sl, HSL⟩ : ∃ sl, Hid ((ND.begin fuel host tape (stk (args.take j))).st.length = sl) := ⟨_, rfl⟩
        rw [HSL.out] at d3
        have hsl : sl ≤ 3 := by
          rw [← HSL.out]
          show (stk (args.take j)).length ≤ 3
          rw [stk_len, List.length_take, HNA.out]; omega
        have HSTV : Hid (World.ownsRow w3 0 70 2 (.slice L'.sa sl L'.sc) sl (stCells (stk (args.take j)))) := by
          have h := M3.out.inst.st
          unfold NL.stV at h
          rw [HSL.out] at h
          exact h
        have HW13 : Hid ((word bt bv).ty = bt ∧ (word bt bv).num = bv) := ⟨hw1, hw3⟩
        have hwl : ∀ g, (Value.slice (some ⟨ga, 0, none⟩) na cc).ownBlock = some g → ¬ NS R.bn L' g := fun g hg hS => by
          obtain ⟨h1, h2⟩ := HAP.out g hg
          exact h2 (T3.out.subN g h1 hS)
        have HWL : Hid (∀ g, (Value.slice (some ⟨ga, 0, none⟩) na cc).ownBlock = some g → ¬ NS R.bn L' g) := hwl
        clear hba hw1 hw2 hw3 hwl hfb ALLF hbt
        go_wp2
        refine wp_region_app rowVals2 9 (by kernel_rfl) (by kernel_rfl) (fun _ _ _ _ _ h => h) _ _ _ rfl (.tmp 104) (.tmp 100) 105 106 rfl rfl rfl rfl rfl rfl _ _ _ HSTV.out (.agg #[.int .u8 bn8, .int .i64 bv]) rfl (by decide) (by simp [Value.cells, Value.oneCell']) (by show (sl + 1) * _ ≤ _; omega) ?_
        intro g9 cap w9 p1 p2 p3 p4
        have hsq : (ND.begin fuel host tape (stk (args.take j))).st.length = sl := HSL.out
        have hp3 : (L'.stV (ND.begin fuel host tape (stk (args.take j)))).ownBlock = some g9 ∨ w3.heap.size ≤ g9 := by
          unfold NL.stV
          rw [hsq]
          rcases p3 with p3 | p3
          · exact .inl p3
          · right; omega
        obtain ⟨hh, r9, s9⟩ := M3.out.inst.pushed (word bt bv) ((Fr.refl _ _).alloc _) (by rw [HW13.out.1, HW13.out.2, ← HBT.out]; rw [show ({ m with x := ND.begin fuel host tape (stk (args.take j)) } : MS).x = ND.begin fuel host tape (stk (args.take j)) from rfl, hsq]; exact p1) (by unfold NL.stV; rw [show ({ m with x := ND.begin fuel host tape (stk (args.take j)) } : MS).x = ND.begin fuel host tape (stk (args.take j)) from rfl, hsq]; exact p2) hp3
        rw [show ({ m with x := ND.begin fuel host tape (stk (args.take j)) } : MS).x = ND.begin fuel host tape (stk (args.take j)) from rfl, hsq] at hh r9 s9
        have NSst : ∀ k, (Value.slice L'.sa sl L'.sc).ownBlock = some k → NS R.bn L' k := fun k e => .inr (by rw [ownBlock_any _ _ _ sl L'.sc]; exact e)
        have o9 : World.ownsRow w9 0 70 2 (.slice (some ⟨ga, 0, none⟩) na cc) na (bvCells args) := owns_fr (owns_alloc O3.out _) p2 (fun k hk e => HWL.out k hk (NSst _ e))
        have u0 := o9.cellAt (j * 2) (by omega)
        have u1 := o9.cellAt (j * 2 + 1) (by omega)
        have hba := bvCells_at args j ⟨bt, bv⟩ HB.out.1
        rw [hba.1] at u0
        rw [hba.2] at u1
        simp only at u0 u1
        rw [← HBT.out] at u0
        have gl9 : ga < w9.heap.size := owns_lt o9 ga rfl
        have e3 := hh.cell 3
        have f3 := hh.frozen 3
        have k3 := hh.lt
        simp only [List.getElem?_toArray, List.getElem?_cons_succ, List.getElem?_cons_zero] at e3
        have I9 : Hid (CallI R w (w9.setCell ⟨R.bn, 3, none⟩ (.slice (some ⟨g9, 0, none⟩) (sl + 1) cap)) L ⟨some ⟨g9, 0, none⟩, cap⟩ K m (.slice (some ⟨ga, 0, none⟩) na cc) args up fuel host tape (j + 1)) := by
          have hmw := M3.out.stepN r9 s9
          refine ⟨?_, T3.out.trans (MStep.ofN s9), ?_, NX.out true HFB.out⟩
          · have e : stk (args.take (j + 1)) = word bt bv :: stk (args.take j) := by
              rw [List.take_add_one, HB.out.1]
              simp only [Option.toList_some]
              exact stk_snoc _ _
            rw [e]
            exact hmw
          · rw [HNA.out]
            exact owns_other o9 (p := ⟨R.bn, 3, none⟩) (owns_ne o9 hh (by decide)) _
        clear p1 p2 p3 p4 hp3 r9 s9 o9 hh hba NSst hsq HSTV
        simp only [List.take_succ_cons, List.take_zero]
        repeat go_big_quiet_step (fail)
        refine wpQuiet_nil ⟨rfl, rfl, by simp, rfl, ?_⟩
        clear q0 q1 gl d3 l3 u0 u1 gl9
        go_wp2
        go_roundw
        case rel => exact ⟨j + 1, ⟨some ⟨g9, 0, none⟩, cap⟩, by omega, by go_num, I9.out⟩
        case measure => simp [intOf]; omega
      · have hfb' : fitsB ⟨bt, bv⟩ tj = false := by simpa using hfb
        rw [hfb']
        have HO7 : Hid (owedP R.P (fn : Int) args = 7) := ALLF.out hfb'
        have FIN7 : Hid (MCallPost R H K m L w (fn : Int) args { m with x := ND.begin fuel host tape (stk args) } (.returned (.tuple #[.slice none 0 0, .int .i64 0, .int .i64 7])) w3) := ⟨L', K, _, M3.out, T3.out, .inl ⟨by rw [HO7.out]; decide, by rw [HO7.out], rfl, rfl, rfl⟩⟩
        clear ALLF NX
        go_wp2
        go_ret3
        exact FIN7.out
    · obtain rfl : j = na := by omega
      have hnl : ¬ (j : Int) < (j : Int) := by omega
      have ht1 : args.take j = args := List.take_of_length_le (by rw [HNA.out]; exact Nat.le_refl _)
      have ht2 : up.take j = up := List.take_of_length_le (by rw [HUP.out]; exact Nat.le_refl _)
      have HO0 : Hid (owedP R.P (fn : Int) args = 0) := by
        have h := HI.out.fit
        rw [ht1, ht2] at h
        show _ = _
        rw [HOWE.out, if_neg (by rw [h]; simp)]
      obtain ⟨N, o, hro⟩ := HRUN.out HO0.out
      have HRO : Hid (srun R.P R.srcs H R.max N ⟨2, [], 0, [], 1, 0, 0, 0, (fn : Int).toNat⟩ { m with x := ND.begin fuel host tape (stk args) } = some o) := hro
      have M1 : Hid (MW R wr L' K { m with x := ND.begin fuel host tape (stk args) }) := by
        have h := HI.out.mw
        rw [ht1] at h
        exact h
      have T1 : Hid (MStep R (.slice none 0 0) w wr L L' K K) := HI.out.step
      have hoo : HostOk R H { m with x := ND.begin fuel host tape (stk args) } := hH
      have INV : Hid (Calls _ _ _ _ _) := (yrun_any HM.out N).2 ⟨2, [], 0, [], 1, 0, 0, 0, (fn : Int).toNat⟩ _ o rfl hro wr L' K (by simp) (by simp) hoo M1.out
      simp only [Int.toNat_natCast] at INV
      obtain ⟨oe, HOE⟩ : ∃ oe, Hid (o.e = oe) := ⟨_, rfl⟩
      clear HI ht1 ht2 hro hoo HRUN HOWE hH
      go_wp2_with fail
      refine INV.out.mono ?_
      rintro e w4 ⟨L4, K4, rfl, ho4, mw4, step4⟩
      rw [HOE.out]
      have T4 : Hid (MStep R (.slice none 0 0) w w4 L L4 K K4) := T1.out.trans step4
      have M4 : Hid (MW R w4 L4 K4 o.m) := mw4
      obtain ⟨sl, HSL⟩ : ∃ sl, Hid (o.m.x.st.length = sl) := ⟨_, rfl⟩
      have d3 := mw4.inst.here.cell 3
      have d5 := mw4.inst.here.cell 5
      simp only [List.getElem?_toArray, List.getElem?_cons_succ, List.getElem?_cons_zero] at d3 d5
      rw [HSL.out] at d3
      have f3 := mw4.inst.here.frozen 3
      have l3 := mw4.inst.here.lt
      obtain ⟨us, HUS⟩ : ∃ us, Hid (o.m.x.used = us) := ⟨_, rfl⟩
      rw [HUS.out] at d5
      obtain ⟨r5, s5⟩ := mw4.inst.emptied
      have M5 : Hid (MW R (w4.setCell ⟨R.bn, 3, none⟩ (.slice none 0 0)) ⟨none, 0⟩ K4 { o.m with x := { o.m.x with st := [] } }) := mw4.stepN r5 s5
      have T5 : Hid (MStep R (.slice none 0 0) w (w4.setCell ⟨R.bn, 3, none⟩ (.slice none 0 0)) L ⟨none, 0⟩ K K4) := T4.out.trans (MStep.ofN s5)
      have O5 : Hid (World.ownsRow (w4.setCell ⟨R.bn, 3, none⟩ (.slice none 0 0)) 0 70 2 (.slice L4.sa sl L4.sc) sl (stCells o.m.x.st)) := by
        have h := mw4.inst.st
        unfold NL.stV at h
        rw [HSL.out] at h
        exact owns_other h (p := ⟨R.bn, 3, none⟩) (owns_ne h mw4.inst.here (by decide)) _
      have HNE : Hid (True) := trivial
      clear ho4 mw4 step4 INV M1 T1 r5 s5
      by_cases he : oe = 0
      · subst he
        have FIN : Hid (∀ n, MCallPost R H K m L w (fn : Int) args { m with x := ND.begin fuel host tape (stk args) } (.returned (.tuple #[.slice L4.sa sl L4.sc, .int .i64 us, .int .i64 0])) ((w4.setCell ⟨R.bn, 3, none⟩ (.slice none 0 0)).drewN n)) := fun n => by
          have hF := (Fr.refl (fun _ => False) (w4.setCell ⟨R.bn, 3, none⟩ (.slice none 0 0))).drewN n
          exact ⟨⟨none, 0⟩, K4, _, M5.out.fresh hF, T5.out.trans (MStep.fresh hF), .inr ⟨HO0.out, N, o, HRO.out, rfl, rfl, rfl, .inr ⟨HOE.out, .slice L4.sa sl L4.sc, by rw [HUS.out], by rw [HSL.out]; exact owns_fr O5.out hF (fun _ _ h => h)⟩⟩⟩
        go_wp2
        refine wp_region_quiet_lit (by kernel_rfl) (by kernel_rfl) ?_
        repeat go_big_quiet_step (fail)
        refine wpQuiet_nil ?_
        rintro w6 ⟨nq, rfl⟩
        go_wp2
        go_ret3
        exact FIN.out nq
      · have he' : (oe != 0) = true := by simpa using he
        have FIN : Hid (∀ n, MCallPost R H K m L w (fn : Int) args { m with x := ND.begin fuel host tape (stk args) } (.returned (.tuple #[.slice none 0 0, .int .i64 us, .int .i64 oe])) ((w4.setCell ⟨R.bn, 3, none⟩ (.slice none 0 0)).drewN n)) := fun n => by
          have hF := (Fr.refl (fun _ => False) (w4.setCell ⟨R.bn, 3, none⟩ (.slice none 0 0))).drewN n
          exact ⟨⟨none, 0⟩, K4, _, M5.out.fresh hF, T5.out.trans (MStep.fresh hF), .inr ⟨HO0.out, N, o, HRO.out, rfl, rfl, rfl, .inl ⟨by rw [HOE.out]; exact he, by rw [HUS.out, HOE.out]⟩⟩⟩
        go_wp2
        refine wp_region_quiet_lit (by kernel_rfl) (by kernel_rfl) ?_
        repeat go_big_quiet_step (fail)
        refine wpQuiet_nil ?_
        rintro w6 ⟨nq, rfl⟩
        go_wp2
        go_ret3
        exact FIN.out nq
end
end Go.Proofs.Qxb6500575aGreatDoor
