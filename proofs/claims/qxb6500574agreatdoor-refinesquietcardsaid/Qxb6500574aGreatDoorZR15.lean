/-
  THE WALKS of syntaxm: Parse.
-/
import Derived.Test.Qxb6500574aGreatDoorZR14
import Derived.Test.Qxb6500574aGreatDoorURg
namespace Go.Proofs.Qxb6500574aGreatDoor
open Go Go.RowKit
set_option linter.unusedVariables false
set_option linter.unusedSimpArgs false
/-- a tree is laid in new blocks -/
structure PzT (w w' : World) (N : List Nd) (root bt : Nat) (nd : Sl) : Prop where
  t : Has w' bt #[nd.v N.length, .int .i64 root] 111
  r : w'.ownsRow 0 134 8 (nd.v N.length) N.length (N.flatMap mdV)
  n : ∀ g, (nd.v N.length).ownBlock = some g → w.heap.size ≤ g ∧ g ≠ bt
  b : w.heap.size ≤ bt
/-- what Parse answers -/
def PzA (src : Bs) (w : World) (e : Ending) (w' : World) : Prop :=
  Fr (fun _ => False) w w' ∧ match treeP src with
    | .inl y => e = .returned (.tuple #[.pointer none, .int .i64 y.1, .int .i64 y.2])
    | .inr x => ∃ bt nd, e = .returned (.tuple #[.pointer (some ⟨bt, 0, none⟩), .int .i64 0, .int .i64 0]) ∧ PzT w w' x.1 x.2 bt nd
/-- the model's parser reads what the real one reads -/
theorem parM_tree (src : Bs) : parM (scanP src) (9 * (100 * ((scanP src).length + 20))) 9 12 [] ⟨0, 0, 0, 0, [nd0]⟩ = parN (scanP src) (100 * ((scanP src).length + 20)) 9 12 [] ⟨0, 0, 0, 0, [nd0]⟩ ∧ parM (scanP src) (9 * (100 * ((scanP src).length + 20))) 9 12 [] ⟨0, 0, 0, 0, [nd0]⟩ ≠ x99 := by
  have c9 : cT 9 ≤ 100 := by decide
  have nf := par_nf (T := scanP src) (scan_tka src).e14 (100 * ((scanP src).length + 20)) 9 12 [] ⟨0, 0, 0, 0, [nd0]⟩ (by show 12 * ((scanP src).length - 0) + cT 9 ≤ _; omega)
  have h := ((parM_ge (T := scanP src) (100 * ((scanP src).length + 20))).1 9 12 [] ⟨0, 0, 0, 0, [nd0]⟩ (by decide) (by decide)).resolve_left nf
  exact ⟨h.symm, by rw [← h]; exact nf⟩
section
variable {w W : World} {A : PzP} {T : List Tok} {s : PSt} {y : Nat × Nat}
theorem Stp.zero {w W : World} {o : Nat → Nat} (h : Stp (fun l => 1 ≤ l) w (fun _ => 0) W o) : Fr (fun _ => False) w W := h.fr.weaken (fun k _ z => absurd z (by decide))
theorem PzK.nds (h : PzK w A T s W) (hA : A.o = fun _ => 0) : ∃ nd : Sl, W.cell? ⟨A.b, 8, none⟩ = some (nd.v s.nodes.length) ∧ W.ownsRow 0 134 8 (nd.v s.nodes.length) s.nodes.length (s.nodes.flatMap mdV) ∧ (∀ g, (nd.v s.nodes.length).ownBlock = some g → w.heap.size ≤ g ∧ g < W.heap.size) ∧ Fr (fun _ => False) w W := by
  obtain ⟨A', q, g, S⟩ := h
  refine ⟨A'.nd, by rw [← S.b]; exact g.m.c 8, g.m.nod.own, fun k hk => ?_, ?_⟩
  · have h1 : A'.o k = 2 := g.m.nod.lb k (by rw [ownBlock_any _ _ _ s.nodes.length A'.nd.c]; exact hk)
    refine ⟨?_, g.m.nod.lt (by rw [ownBlock_any _ _ _ s.nodes.length A'.nd.c]; exact hk)⟩
    apply Decidable.byContradiction
    intro z
    have := S.s.ext k (by omega)
    rw [h1, hA] at this
    cases this
  · have := S.s
    rw [hA] at this
    exact this.zero
theorem PzB.fr0 (h : PzB w A y W) (hA : A.o = fun _ => 0) : Fr (fun _ => False) w W := by
  obtain ⟨h0, A', d, m, h1, h2, S⟩ := h
  have := S.s
  rw [hA] at this
  exact this.zero
theorem PzB.c10 (h : PzB w A y W) : W.cell? ⟨A.b, 10, none⟩ = some (.int .i64 y.2) := by
  obtain ⟨h0, A', d, m, h1, h2, S⟩ := h
  rw [← S.b, ← h2]
  exact m.c 10
set_option maxRecDepth 100000
set_option maxHeartbeats 2000000
theorem parse_long {src : Bs} {bs : Nat} (h : 2048 < src.length) : Calls Tryz.prog 71 #[.pointer (some ⟨bs, 0, none⟩), sv src] w (PzA src w) := by
  have ht : treeP src = .inl (1, 0) := by unfold treeP; rw [if_pos h]
  obtain ⟨Q, HQ⟩ : ∃ Q : Ending → World → Prop, Hid (PzA src w = Q) := ⟨_, rfl⟩
  rw [HQ.out]
  have FIN : Hid (Q (.returned (.tuple #[.pointer none, .int .i64 1, .int .i64 0])) w) := by
    show Q _ _
    rw [← HQ.out]
    unfold PzA
    rw [ht]
    exact ⟨Fr.refl _ _, rfl⟩
  have hsz : (⟨src.toArray⟩ : ByteArray).size = src.length := by simp [ByteArray.size]
  obtain ⟨LN, HLN⟩ : ∃ LN : Nat, Hid (src.length = LN) := ⟨_, rfl⟩
  rw [HLN.out] at hsz h
  have hsz2 : src.toArray.size = LN := hsz
  clear ht HQ
  go_enter Tryz.func71, Tryz.ntmps71
  go_wp2_with fail
  go_ret3
  exact FIN.out
theorem parse_z {src : Bs} {bs bn : Nat} (hb : Has w bs #[.pointer (some ⟨bn, 0, none⟩)] 167) (h : src.length ≤ 2048) : Calls Tryz.prog 71 #[.pointer (some ⟨bs, 0, none⟩), sv src] w (PzA src w) := by
  obtain ⟨Q, HQ⟩ : ∃ Q : Ending → World → Prop, Hid (PzA src w = Q) := ⟨_, rfl⟩
  rw [HQ.out]
  obtain ⟨A, HA⟩ : ∃ A : PzP, Hid ((⟨w.heap.size, bn, src, sl0, fun _ => 0⟩ : PzP) = A) := ⟨_, rfl⟩
  have cb := hb.cell 0
  simp only [List.getElem?_toArray, List.getElem?_cons_zero] at cb
  have lbs := hb.lt
  obtain ⟨W1, HW1⟩ : ∃ W1, Hid (w.alloc (.cells #[.pointer (some ⟨bn, 0, none⟩), sv src, .int .i64 0, .int .i64 0, sv [], .int .u64 0, .int .i64 0, .int .i64 0, .slice none 0 0, .int .i64 0, .int .i64 0, .int .i64 0, .int .i64 0, .int .i64 0] 213) = W1) := ⟨_, rfl⟩
  obtain ⟨A1, HA1⟩ : ∃ A1 : PzP, Hid ((⟨w.heap.size, bn, src, sl0, upd (fun _ => 0) w.heap.size 1⟩ : PzP) = A1) := ⟨_, rfl⟩
  have st : Stp (fun l => 1 ≤ l) w (fun _ => 0) W1 (upd (fun _ => 0) w.heap.size 1) := by rw [← HW1.out]; exact Stp.lab _ _ _
  have HS1 : Hid (PzS w A W1 A1) := by
    show PzS w A W1 A1
    rw [← HA.out, ← HA1.out]
    exact ⟨st, rfl, rfl, rfl⟩
  have HM1 : Hid (PzM W1 A1 ⟨0, ⟨0, [], 0, 0, 0⟩, [], 0, 0, 0, 0, 0⟩) := by
    show PzM _ _ _
    rw [← HA1.out]
    refine ⟨⟨?_, ?_⟩, Row.nil _ _ _ _ _, st.hi (fun _ _ => rfl), Nat.zero_le _, h⟩
    · rw [← HW1.out]
      exact Has.new _ _ _
    · dsimp only
      exact upd_self _ _ _
  have hsz : (⟨src.toArray⟩ : ByteArray).size = src.length := by simp [ByteArray.size]
  have hb1 : A1.b = w.heap.size := by rw [← HA1.out]
  have hab : A.b = w.heap.size := by rw [← HA.out]
  have has : A.s = src := by rw [← HA.out]
  have HAO : Hid (A.o = fun _ => 0) := by show _ = _; rw [← HA.out]
  have has1 : A1.s = src := by rw [← HA1.out]
  have hnd1 : A1.nd = sl0 := by rw [← HA1.out]
  obtain ⟨bp, HBP⟩ : ∃ bp, Hid (w.heap.size = bp) := ⟨_, rfl⟩
  rw [HBP.out] at hb1 hab
  have HNW : Hid (Has (W1.alloc (.cells (mdV nd0).toArray 134)) (bp + 1) (mdV nd0).toArray 134) := by
    show Has _ _ _ _
    have hz : W1.heap.size = bp + 1 := by rw [← HW1.out, ← HBP.out]; simp
    have := Has.new W1 (mdV nd0).toArray 134
    rw [hz] at this
    exact this
  have c8 : W1.cell? ⟨bp, 8, none⟩ = some (.slice none 0 0) := by rw [← hb1]; refine (HM1.out.c 8).trans ?_; simp [pzV, hnd1, sl0, Sl.v]
  have f8 : W1.frozen? ⟨bp, 8, none⟩ = false := by rw [← hb1]; exact HM1.out.fz 8
  have lb1 : bp < W1.heap.size := by rw [← hb1]; exact HM1.out.lt
  have HAB := hid hab
  have HAB1 := hid hb1
  have HAS := hid has
  have HAS1 := hid has1
  have HND1 := hid hnd1
  have HHS := hid h
  obtain ⟨LN, HLN⟩ : ∃ LN : Nat, Hid (src.length = LN) := ⟨_, rfl⟩
  rw [HLN.out] at hsz h
  have hsz2 : src.toArray.size = LN := hsz
  have bl : ¬ ((2048 : Int) < (LN : Int)) := by omega
  clear hb st hb1 hab has has1 hnd1 HA HA1
  go_enter Tryz.func71, Tryz.ntmps71
  go_wp2_with (at_builtin; go_must (rw [HW1.out, HBP.out]; refine wpList_app rowNodeZ _ rfl (.tmp 23) (.tmp 25) rfl (.slice none 0 0) 0 [] rfl (Row.nil _ A1.o 2 _ _).own _ (mdV nd0) rfl HNW.out rfl ?one ?bd ?go))
  case one => intro u hu; simp [mdV] at hu; rcases hu with rfl | rfl | rfl | rfl | rfl | rfl | rfl | rfl <;> rfl
  case go =>
  intro g5 cap5 w5 q1 q2 q3 q4
  obtain ⟨hh, A2, m2, s2⟩ := HM1.out.addN nd0 (w1 := W1.alloc (.cells (mdV nd0).toArray 134)) (w2 := w5) (g := g5) (cap := cap5) ((Fr.refl _ _).alloc _) q1 (by rw [HND1.out]; exact q2) (q3.imp (fun z => by rw [HND1.out]; exact z) (fun z => by rw [z]; simp)) q4
  rw [HAB1.out] at hh m2 s2
  obtain ⟨W2, HW2⟩ : ∃ W2, Hid (w5.setCell ⟨bp, 8, none⟩ (.slice (some ⟨g5, 0, none⟩) (0 + 1) cap5) = W2) := ⟨_, rfl⟩
  have HW2' : Hid (w5.setCell ⟨bp, 8, none⟩ (.slice (some ⟨g5, 0, none⟩) 1 cap5) = W2) := HW2
  have HM2 : Hid (PzM W2 A2 ⟨0, ⟨0, [], 0, 0, 0⟩, [nd0], 0, 0, 0, 0, 0⟩) := by
    show PzM _ _ _
    rw [← HW2.out]
    exact m2
  have HS2 : Hid (PzS w A W2 A2) := by
    show PzS _ _ _ _
    rw [← HW2.out]
    exact HS1.out.trans s2
  have d8 := hh.cell 8
  simp only [pzV, List.getElem?_toArray, List.getElem?_cons_succ, List.getElem?_cons_zero] at d8
  have fz8 := hh.frozen 8
  have lb8 := hh.lt
  have hA2b : A2.b = bp := by rw [HS2.out.b, HAB.out]
  have hA2s : A2.s = src := by rw [HS2.out.sr, HAS.out]
  have HNX : Hid (Calls Tryz.prog 105 #[.pointer (some ⟨bp, 0, none⟩)] W2 fun e w' => e = .returned (.tuple #[]) ∧ PzK w A (scanP src) ⟨0, 0, 0, 0, [nd0]⟩ w') := by
    have C := next_z HM2.out
    rw [hA2b, hA2s] at C
    refine C.mono ?_
    rintro e3 w3 ⟨c1, c2, c3⟩
    refine ⟨c1, ?_⟩
    have X : LxT A2.s (scanP src) 0 (lexM src 0).1 (lexM src 0).2 := by rw [hA2s]; exact LxT.start
    have G : PzG w3 A2 (scanP src) ⟨0, 0, 0, 0, [nd0]⟩ (lexM src 0).1 (lexM src 0).2 := ⟨c2, X, by rw [hA2s]; exact scan_tka src⟩
    exact G.k (HS2.out.trans c3)
  clear q1 q2 q3 q4 hh m2 s2 c8 f8 lb1 hA2b hA2s
  go_wp2_with fail
  simp only [HW2'.out]
  obtain ⟨HPM, HPX⟩ : Hid (parM (scanP src) (9 * (100 * ((scanP src).length + 20))) 9 12 [] ⟨0, 0, 0, 0, [nd0]⟩ = parN (scanP src) (100 * ((scanP src).length + 20)) 9 12 [] ⟨0, 0, 0, 0, [nd0]⟩) ∧ Hid (parM (scanP src) (9 * (100 * ((scanP src).length + 20))) 9 12 [] ⟨0, 0, 0, 0, [nd0]⟩ ≠ x99) := ⟨(parM_tree src).1, (parM_tree src).2⟩
  refine HNX.out.mono ?_
  rintro e2 w2 ⟨rfl, k2⟩
  have HN0 : PzN ⟨0, 0, 0, 0, [nd0]⟩ 0 := ⟨⟨Nat.le_refl _, fun i hi => by
    have : i = 0 := by simp at hi; exact hi
    subst this
    exact ⟨Nat.le_refl _, Nat.le_refl _, Nat.le_refl _, .inl rfl⟩⟩, Nat.le_refl _, Nat.zero_le _, Nat.zero_le _, Nat.zero_le _⟩
  have HBK : Hid (Calls Tryz.prog 106 #[.pointer (some ⟨bp, 0, none⟩), .int .i64 1] w2 (PzR (scanP src) w A (parM (scanP src) (9 * (100 * ((scanP src).length + 20))) 9 12 [] ⟨0, 0, 0, 0, [nd0]⟩))) := by
    have C := (PCz.all (scanP src) (9 * (100 * ((scanP src).length + 20)))).b (room := 12) (lv := 1) k2 HN0 (by decide) HPX.out
    rw [HAB.out] at C
    exact C
  have HTR : Hid (treeP src = match parM (scanP src) (9 * (100 * ((scanP src).length + 20))) 9 12 [] ⟨0, 0, 0, 0, [nd0]⟩ with | .inl e => .inl e | .inr x => if (curT (scanP src) x.2).k ≠ 0 then failP (scanP src) x.2 15 |>.elim .inl (fun _ => .inl (0, 0)) else if 300 < x.2.nodes.length - 1 then .inl (17, src.length) else .inr (x.2.nodes, x.1.getD 0 0)) := by
    show treeP src = _
    unfold treeP
    rw [if_neg (by have := HHS.out; omega)]
    dsimp only
    rw [HPM.out]
    cases parN (scanP src) (100 * ((scanP src).length + 20)) 9 12 [] ⟨0, 0, 0, 0, [nd0]⟩ <;> rfl
  have HPN : Hid (∀ v s', parM (scanP src) (9 * (100 * ((scanP src).length + 20))) 9 12 [] ⟨0, 0, 0, 0, [nd0]⟩ = .inr (v, s') → s'.nodes.length ≤ s'.i + 1 ∧ v.getD 0 0 < s'.nodes.length) := fun v s' h => by
    have := HN0.p9 h
    exact ⟨this.1.l, this.2.1⟩
  clear HPM HPX HN0 k2
  generalize parM (scanP src) (9 * (100 * ((scanP src).length + 20))) 9 12 [] ⟨0, 0, 0, 0, [nd0]⟩ = r at *
  -- the way of an error
  have ERR : Hid (∀ w4 er pl, PzB w A (er, pl) w4 → treeP src = .inl (er, pl) → Q (.returned (.tuple #[.pointer none, .int .i64 (er : Nat), .int .i64 (pl : Nat)])) w4.drew) := fun w4 er pl b t => by
    rw [← HQ.out]
    unfold PzA
    rw [t]
    exact ⟨(b.fr0 HAO.out).drew, rfl⟩
  clear HNX HM2 HS2 HW2 HW2' HW1 HM1 HS1 HNW HND1 d8 fz8 lb8
  go_wp2_with fail
  refine HBK.out.mono ?_
  rintro e3 w3 (⟨v, s', hy, rfl, K⟩ | ⟨y, z, hy, rfl, B⟩)
  · have HTR2 : Hid (treeP src = if (curT (scanP src) s').k ≠ 0 then failP (scanP src) s' 15 |>.elim .inl (fun _ => .inl (0, 0)) else if 300 < s'.nodes.length - 1 then .inl (17, src.length) else .inr (s'.nodes, v.getD 0 0)) := by
      show treeP src = _
      rw [HTR.out, hy]
    obtain ⟨hnl, hv0⟩ := HPN.out v s' hy
    have hil := K.il
    obtain ⟨c3, _, _, _, c9, _⟩ := K.c
    rw [HAB.out] at c3 c9
    have lb3 := K.lt
    rw [HAB.out] at lb3
    have HK := hid K
    clear hy K HTR HPN HBK
    by_cases h00 : (curT (scanP src) s').k = 0
    · rw [if_neg (by omega)] at HTR2
      have e2 : (((tkc (curT (scanP src) s')).k : Int) != 0) = false := by rw [(tk_zero _).2 h00]; rfl
      obtain ⟨nd, n1, n2, n3, n4⟩ := HK.out.nds HAO.out
      rw [HAB.out, Sl.v] at n1
      have HN2 := hid n2
      have HN3 := hid n3
      have HN4 := hid n4
      obtain ⟨NL, HNL⟩ : ∃ NL : Nat, Hid (s'.nodes.length = NL) := ⟨_, rfl⟩
      obtain ⟨VL, HVL⟩ : ∃ VL : Nat, Hid (v.getD 0 0 = VL) := ⟨_, rfl⟩
      have HV0 := hid hv0
      have hn1 : 1 ≤ NL := by rw [← HNL.out]; omega
      rw [HNL.out] at n1 hnl HTR2 hv0
      rw [HVL.out]
      clear n2 n3 n4 h00
      by_cases h3 : 300 < NL - 1
      · rw [if_pos h3] at HTR2
        have FIN : Hid (Q (.returned (.tuple #[.pointer none, .int .i64 17, .int .i64 (LN : Nat)])) w3) := by
          show Q _ _
          rw [← HQ.out]
          unfold PzA
          rw [HTR2.out, HLN.out]
          exact ⟨HN4.out, rfl⟩
        have h4 : (300 : Int) < (NL : Int) - 1 := by omega
        go_wp2_with fail
        go_ret3
        exact FIN.out
      · rw [if_neg h3] at HTR2
        have h4 : ¬ ((300 : Int) < (NL : Int) - 1) := by omega
        have FIN : Hid (Q (.returned (.tuple #[.pointer (some ⟨w3.heap.size, 0, none⟩), .int .i64 0, .int .i64 0])) (w3.alloc (.cells #[.slice nd.a NL nd.c, .int .i64 VL] 111))) := by
          show Q _ _
          rw [← HQ.out]
          unfold PzA
          rw [HTR2.out]
          refine ⟨HN4.out.alloc _, _, nd, rfl, ⟨?_, ?_, ?_, HN4.out.size⟩⟩
          · dsimp only
            rw [HNL.out, HVL.out]
            exact Has.new _ _ _
          · exact owns_alloc HN2.out _
          · intro g hg
            have := HN3.out g hg
            exact ⟨this.1, by omega⟩
        go_wp2_with fail
        go_ret3
        exact FIN.out
    · rw [if_pos h00] at HTR2
      have e2 : (((tkc (curT (scanP src) s')).k : Int) != 0) = true := by
        rw [bne_iff_ne]
        intro z
        exact h00 ((tk_zero _).1 (by omega))
      obtain ⟨y, hy⟩ : ∃ y, failP (scanP src) s' 15 = .inl y := ⟨_, rfl⟩
      have HY : Hid (treeP src = .inl y) := by
        show treeP src = _
        rw [HTR2.out, hy]
        rfl
      have HFA : Hid (Calls Tryz.prog 107 #[.pointer (some ⟨bp, 0, none⟩), .int .i64 15] w3 fun e w' => e = .returned (.tuple #[]) ∧ PzB w A y w') := by
        have C := HK.out.fail (e := 15) (by decide) hy (e' := 15) rfl
        rw [HAB.out] at C
        exact C
      clear hy h00 HTR2
      go_wp2_with fail
      refine HFA.out.mono ?_
      rintro e4 w4 ⟨rfl, B⟩
      obtain ⟨b1, b2, b3⟩ := B.c
      have b4 := B.c10
      have b5 := B.lt
      rw [HAB.out] at b1 b4 b5
      have HB := hid B
      obtain ⟨er, pl⟩ := y
      dsimp only at b1 b2 b3 b4
      clear B c3 c9 lb3
      go_wp2_with fail
      refine wp_region_all 11 rfl (by kernel_rfl) (by kernel_rfl) (fun _ _ _ _ _ h => h) ?_
      repeat go_big_quiet_step (fail)
      refine wpQuiet_nil ?_
      go_wp2_with fail
      go_ret3
      exact ERR.out _ _ _ HB.out HY.out
  · have HY : Hid (treeP src = .inl y) := by
      show treeP src = _
      rw [HTR.out, hy]
    obtain ⟨b1, b2, b3⟩ := B.c
    have b4 := B.c10
    have b5 := B.lt
    rw [HAB.out] at b1 b4 b5
    have HB := hid B
    obtain ⟨er, pl⟩ := y
    dsimp only at b1 b2 b3 b4
    clear B hy HTR HPN HBK
    go_wp2_with fail
    refine wp_region_all 11 rfl (by kernel_rfl) (by kernel_rfl) (fun _ _ _ _ _ h => h) ?_
    repeat go_big_quiet_step (fail)
    refine wpQuiet_nil ?_
    go_wp2_with fail
    go_ret3
    exact ERR.out _ _ _ HB.out HY.out
end
end Go.Proofs.Qxb6500574aGreatDoor
