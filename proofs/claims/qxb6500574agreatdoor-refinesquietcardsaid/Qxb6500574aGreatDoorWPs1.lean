/-
  THE WALK of the parser layer: Parse.
-/
import Derived.Test.Qxb6500574aGreatDoorWPs0
namespace Go.Proofs.Qxb6500574aGreatDoor
open Go Go.RowKit
set_option linter.unusedVariables false
set_option linter.unusedSimpArgs false
open Go.Lib
section
set_option maxRecDepth 100000
set_option maxHeartbeats 2000000
variable {w : World} {o : Nat → Nat} {sx : Nat} {num : Value} {T0 : List Tok} {A0 : List Nd}
/-- the tree in memory: fresh, in two blocks -/
structure TreeAt (w : World) (o : Nat → Nat) (a b : Nat) (tb : Nat) (N : List Nd) (root : Nat) : Prop where
  ex : ∃ g, Has w tb #[.slice (some ⟨g, 0, none⟩) N.length N.length, .int .i64 (root : Nat)] 111 ∧ w.ownsRow 0 134 8 (.slice (some ⟨g, 0, none⟩) N.length N.length) N.length (N.flatMap ndV) ∧ a ≤ g ∧ g < b ∧ a ≤ tb ∧ tb < b ∧ o g = 0 ∧ o tb = 0
/-- what Parse comes to -/
def PaQ (w : World) (o : Nat → Nat) (sx : Nat) (num : Value) (src : Bs) (e : Ending) (w' : World) : Prop :=
  ∃ o' T A, SyRep w' o' sx num T A ∧ SyOk T A ∧ Stp QS w o w' o' ∧ ((∃ y, treeP src = .inl y ∧ e = .returned (.tuple #[.pointer none, .int .i64 (y.1 : Nat), .int .i64 (y.2 : Nat)])) ∨ (∃ N root tb, treeP src = .inr (N, root) ∧ e = .returned (.tuple #[.pointer (some ⟨tb, 0, none⟩), .int .i64 0, .int .i64 0]) ∧ TreeAt w' o' w.heap.size w'.heap.size tb N root))
theorem SyRep.st {Q : Nat → Prop} {w' : World} {o' : Nat → Nat} {T : List Tok} {A : List Nd} (h : SyRep w o sx num T A) (t : Stp Q w o w' o') (h0 : ¬ Q 1039) (h1 : ¬ Q 1040) (h2 : ¬ Q 1041) (h3 : ¬ Q 1042) : SyRep w' o' sx num T A := by
  obtain ⟨sl, sn, a1, a2, a3⟩ := h.ex
  exact ⟨⟨sl, sn, a1.st t h1, a2.st t h2, a3.st t h3⟩, h.k.st t h0, h.g.st t h0, h.b.st t h0, t.hi h.ow⟩
theorem sparse_any (S : SyRep w o sx num T0 A0) (K : SyOk T0 A0) (src : Bs) : Calls Tryz.prog 38 #[.pointer (some ⟨sx, 0, none⟩), sv src] w (PaQ w o sx num src) := by
  have hlen : (⟨src.toArray⟩ : ByteArray).size = src.length := by simp [ByteArray.size]
  by_cases h0 : 2048 < src.length
  · have HT : Hid (treeP src = .inl (1, 0)) := by
      show treeP src = _
      unfold treeP
      rw [if_pos h0]
    have e1 : decide ((2048 : Int) < (src.length : Int)) = true := decide_eq_true (by omega)
    have e1' : decide (2048 < src.length) = true := decide_eq_true h0
    have HS : Hid (SyRep w o sx num T0 A0) := S
    have HK : Hid (SyOk T0 A0) := K
    clear S K
    go_enter Tryz.func38, Tryz.ntmps38
    go_wp2_with fail
    go_ret3
    exact ⟨o, T0, A0, HS.out, HK.out, Stp.refl _ _ _, .inl ⟨_, HT.out, rfl⟩⟩
  have e1 : decide ((2048 : Int) < (src.length : Int)) = false := decide_eq_false (by omega)
  have e1' : decide (2048 < src.length) = false := decide_eq_false h0
  obtain ⟨sl0', sn, hB, hR, hN⟩ := S.ex
  have HSC : Hid (Calls Tryz.prog 60 #[.pointer (some ⟨sx, 0, none⟩), sv src] w fun e' w' => e' = .returned (.tuple #[]) ∧ ∃ o' sl, Blk w' o' 1040 sx #[num, sl.v (scanP src).length, sn.v A0.length] 81 ∧ Row w' o' 1041 132 5 sl (scanP src).length ((scanP src).flatMap tokC) ∧ Stp (fun l => l = 1040 ∨ l = 1041 ∨ l = 1045 ∨ l = 1046) w o w' o') := scan_any src (by omega) hB hR S.k S.g S.ow
  have HS : Hid (SyRep w o sx num T0 A0) := S
  have HK : Hid (SyOk T0 A0) := K
  have HN : Hid (Row w o 1042 134 8 sn A0.length (A0.flatMap ndV)) := hN
  have HTG : Hid (TG (scanP src)) := scan_tg (by omega)
  have HTK : Hid (TkA (scanP src) src.length 0) := scan_tka src
  obtain ⟨T, HT⟩ : ∃ T, Hid (scanP src = T) := ⟨_, rfl⟩
  rw [HT.out] at HSC HTG HTK
  have hTl := HTG.out.len
  have hT1 := HTK.out.n1
  clear S K hB hR hN
  go_enter Tryz.func38, Tryz.ntmps38
  go_wp2_with fail
  refine HSC.out.mono ?_
  rintro e2 w1 ⟨rfl, o1, sl, hB1, hR1, hS1⟩
  have HB1 : Hid (Blk w1 o1 1040 sx #[num, sl.v T.length, sn.v A0.length] 81) := hB1
  have HR1 : Hid (Row w1 o1 1041 132 5 sl T.length (T.flatMap tokC)) := hR1
  have HS1 : Hid (Stp (fun l => l = 1040 ∨ l = 1041 ∨ l = 1045 ∨ l = 1046) w o w1 o1) := hS1
  obtain ⟨t0, ht0⟩ : ∃ t0, T[0]? = some t0 := ⟨_, List.getElem?_eq_getElem (by omega)⟩
  obtain ⟨g, g1, g2, g3, g4, g5, g6⟩ := hR1.at tokC_len ht0
  have f0 := g5 0 (by decide)
  have f1 := g5 1 (by decide)
  have f2 := g5 2 (by decide)
  have f3 := g5 3 (by decide)
  have f4 := g5 4 (by decide)
  simp only [tokC, List.getElem?_cons_succ, List.getElem?_cons_zero, Nat.add_zero, Nat.zero_mul] at f0 f1 f2 f3 f4
  have c1 := hB1.has.cell 1
  have hl1 := hB1.has.lt
  simp only [List.getElem?_toArray, List.getElem?_cons_succ, List.getElem?_cons_zero, Sl.v, g1] at c1
  clear hB1 hR1 hS1 HSC g5 g6
  go_wp2_with fail
  refine wp_region_tail 11 (by kernel_rfl) (by kernel_rfl) (fun _ _ _ _ _ h => h) ?_
  simp only [List.take_succ_cons, List.take_zero, List.drop_succ_cons, List.drop_zero]
  repeat go_big_quiet_step (fail)
  refine wpQuiet_nil ?_
  go_wp2_with fail
  obtain ⟨w2, HW2⟩ : ∃ w2, Hid ((w1.alloc (.cells #[.slice (some ⟨g, 0, none⟩) T.length sl.c, .int .i64 0, .int .i64 t0.k, .int .i64 t0.p, sv t0.s, .int .u64 t0.n, .int .i64 t0.e, .int .i64 0, .int .i64 0, .int .i64 0, .int .i64 0, .int .i64 0] 146)).drew = w2) := ⟨_, rfl⟩
  rw [HW2.out]
  obtain ⟨bp, HBP⟩ : ∃ bp, Hid (w1.heap.size = bp) := ⟨_, rfl⟩
  obtain ⟨o2, HO2⟩ : ∃ o2, Hid (upd o1 w1.heap.size 1043 = o2) := ⟨_, rfl⟩
  have hS2 : Stp (fun _ => False) w1 o1 w2 o2 := by
    rw [← HW2.out, ← HO2.out]
    exact (Stp.label _ _ _).drew
  have hS12 : Stp QS w o w1 o1 := HS1.out.imp (fun l h => by unfold QS; omega)
  have HS2 : Hid (Stp QS w o w2 o2) := hS12.trans (hS2.imp (fun l h => h.elim))
  have hY1 : SyRep w1 o1 sx num T A0 := ⟨⟨sl, sn, HB1.out, HR1.out, HN.out.st HS1.out (by omega)⟩, HS.out.k.st HS1.out (by omega), HS.out.g.st HS1.out (by omega), HS.out.b.st HS1.out (by omega), HS1.out.hi HS.out.ow⟩
  have HY2 : Hid (SyRep w2 o2 sx num T A0) := hY1.st hS2 (fun h => h) (fun h => h) (fun h => h) (fun h => h)
  have HOK : Hid (SyOk T A0) := ⟨.inr (HTK.out.wide (by omega)), HK.out.a, HK.out.la⟩
  have hcur : curT T ⟨0, 0, 0, 0, [nd0]⟩ = t0 := by
    unfold curT
    rw [List.getD_eq_getElem?_getD]
    show (T[0]?).getD tok0 = t0
    rw [ht0]
    rfl
  have HG2 : Hid (PGd w2 o2 bp T sl ⟨0, 0, 0, 0, [nd0]⟩) := by
    refine ⟨HTG.out, ⟨⟨?_, ?_⟩, HR1.out.st hS2 (fun h => h), by show 0 < T.length; omega, hS2.hi hY1.ow⟩, ⟨Nat.le_refl _, Nat.zero_le _, Nat.zero_le _⟩, hY1.b.st hS2 (fun h => h)⟩
    · rw [hcur, ← HW2.out, ← HBP.out]
      unfold pC
      have := (Has.new w1 #[.slice (some ⟨g, 0, none⟩) T.length sl.c, .int .i64 0, .int .i64 t0.k, .int .i64 t0.p, sv t0.s, .int .u64 t0.n, .int .i64 t0.e, .int .i64 0, .int .i64 0, .int .i64 0, .int .i64 0, .int .i64 0] 146).drew
      show Has _ _ #[.slice sl.a T.length sl.c, _, _, _, _, _, _, _, _, _, _, _] _
      rw [g1]
      exact this
    · rw [← HO2.out, ← HBP.out]
      exact upd_self _ _ _
  rw [HBP.out]
  have hnf : parN T (100 * (T.length + 20)) 9 12 [] ⟨0, 0, 0, 0, [nd0]⟩ ≠ x99 := par_nf HTG.out.e14 _ _ _ _ _ (by
    have : cT 9 ≤ 100 := by decide
    show 12 * (T.length - 0) + cT 9 ≤ _
    omega)
  have BL : Hid (Calls Tryz.prog 61 #[.pointer (some ⟨bp, 0, none⟩), .int .i64 12] w2 (LsQ w2 o2 bp T sl ⟨0, 0, 0, 0, [nd0]⟩ (parN T (100 * (T.length + 20)) 9 12 [] ⟨0, 0, 0, 0, [nd0]⟩))) := (PCs.all T _).c9 (room := 12) HG2.out (by show 0 + 12 ≤ 12; omega) hnf
  have HTR : Hid (treeP src = match parN T (100 * (T.length + 20)) 9 12 [] ⟨0, 0, 0, 0, [nd0]⟩ with | .inl e => .inl e | .inr x => if (curT T x.2).k ≠ 0 then failP T x.2 15 |>.elim .inl (fun _ => .inl (0, 0)) else if 300 < x.2.nodes.length - 1 then .inl (17, src.length) else .inr (x.2.nodes, x.1.getD 0 0)) := by
    show treeP src = _
    unfold treeP
    rw [if_neg h0]
    dsimp only
    rw [HT.out]
    cases parN T (100 * (T.length + 20)) 9 12 [] ⟨0, 0, 0, 0, [nd0]⟩ <;> rfl
  have HEO : Hid (EO (parN T (100 * (T.length + 20)) 9 12 [] ⟨0, 0, 0, 0, [nd0]⟩)) := par_eo HTK.out.etk _ _ _ _ _
  have HPN : Hid (∀ v s', parN T (100 * (T.length + 20)) 9 12 [] ⟨0, 0, 0, 0, [nd0]⟩ = .inr (v, s') → NR ⟨0, 0, 0, 0, [nd0]⟩ s' 0 ∧ v.getD 0 0 < s'.nodes.length) := fun v s' h => (NA.all T _).p9 (s := ⟨0, 0, 0, 0, [nd0]⟩) ⟨Nat.le_refl _, fun i hi => by
    have : i = 0 := by simp at hi; exact hi
    subst this
    exact ⟨Nat.le_refl _, Nat.le_refl _, Nat.le_refl _, .inl rfl⟩⟩ h
  have HPB : Hid (∀ v s', parN T (100 * (T.length + 20)) 9 12 [] ⟨0, 0, 0, 0, [nd0]⟩ = .inr (v, s') → BlP ⟨0, 0, 0, 0, [nd0]⟩ s' 0 (decide (0 < 0)) (v.getD 0 0)) := fun v s' h => (PA.all HTG.out.tok _).p9 12 [] ⟨0, 0, 0, 0, [nd0]⟩ (v, s') ⟨Nat.le_refl _, Nat.zero_le _, Nat.zero_le _⟩ h (by decide)
  generalize parN T (100 * (T.length + 20)) 9 12 [] ⟨0, 0, 0, 0, [nd0]⟩ = r at *
  -- the way of an error
  have ERR : Hid (∀ w4 er pl, PErr w4 o2 bp er pl → Stp (fun l => l = 1043) w2 o2 w4 o2 → treeP src = .inl (er, pl) → PaQ w o sx num src (.returned (.tuple #[.pointer none, .int .i64 (er : Nat), .int .i64 (pl : Nat)])) w4.drew) := fun w4 er pl _ t ht =>
    ⟨o2, T, A0, HY2.out.st t.drew (by omega) (by omega) (by omega) (by omega), HOK.out, HS2.out.trans (t.drew.imp (fun l h => by unfold QS; omega)), .inl ⟨_, ht, rfl⟩⟩
  clear hS2 hS12 hY1 hcur hnf c1 f0 f1 f2 f3 f4 g1 g2 g3 g4 hl1 HB1 HR1 HN HW2 HBP HO2
  refine BL.out.mono ?_
  rintro e3 w3 ⟨q1, q2⟩
  have HS3 : Hid (Stp (fun l => l = 1043) w2 o2 w3 o2) := q1
  clear q1 BL
  rcases q2 with ⟨y, hy, rfl, hpe⟩ | ⟨v, s', sa, ln, cp, ms, m, hy, rfl, X⟩
  · have HPE : Hid (PErr w3 o2 bp y.1 y.2) := hpe
    have HY : Hid (treeP src = .inl y) := by
      show treeP src = _
      rw [HTR.out, hy]
    have hne := HEO.out y hy
    obtain ⟨er, pl⟩ := y
    dsimp only at hne
    obtain ⟨cs, k1, k2, k3⟩ := hpe
    have d10 := k1.has.cell 10
    have d11 := k1.has.cell 11
    have dl := k1.has.lt
    rw [k2] at d10
    rw [k3] at d11
    have e10 : ((er : Int) != 0) = true := by simp; omega
    clear hy k1 k2 k3
    go_wp2_with fail
    refine wp_region_all 11 rfl (by kernel_rfl) (by kernel_rfl) (fun _ _ _ _ _ h => h) ?_
    repeat go_big_quiet_step (fail)
    refine wpQuiet_nil ?_
    go_wp2_with fail
    go_ret3
    exact ERR.out _ _ _ HPE.out HS3.out HY.out
  have HX : Hid (LsS w2 o2 bp T sl ⟨0, 0, 0, 0, [nd0]⟩ s' (v.getD 0 0) w3 (.slice sa ln cp) ms m) := X
  have HTR2 : Hid (treeP src = if (curT T s').k ≠ 0 then failP T s' 15 |>.elim .inl (fun _ => .inl (0, 0)) else if 300 < s'.nodes.length - 1 then .inl (17, src.length) else .inr (s'.nodes, v.getD 0 0)) := by
    show treeP src = _
    rw [HTR.out, hy]
  obtain ⟨hNR, hv0⟩ := HPN.out v s' hy
  have HBL : Hid (BlP ⟨0, 0, 0, 0, [nd0]⟩ s' 0 (decide (0 < 0)) (v.getD 0 0)) := HPB.out v s' hy
  have HNK : Hid (NK s'.nodes) := hNR.k
  have hnl : s'.nodes.length ≤ 2049 := by
    have h1 := hNR.bk
    have h2 := X.r.lt
    have h3 : ((0 : Nat) : Int) - ((1 : Nat) : Int) + 0 ≤ (s'.i : Int) - (s'.nodes.length : Int) := h1
    omega
  obtain ⟨hb3, f2, _, _, _, _⟩ := X.r.cells
  have f10 := X.r.blk.has.cell 10
  simp only [pC, List.getElem?_toArray, List.getElem?_cons_succ, List.getElem?_cons_zero] at f10
  have HRR : Hid (PRep w3 o2 bp T sl s') := X.r
  clear X hy hNR HTR HEO HPN HPB
  by_cases h00 : (curT T s').k = 0
  · rw [if_neg (by omega)] at HTR2
    have e2 : (((curT T s').k : Int) != 0) = false := by rw [h00]; rfl
    have hY3 := HY2.out.st HS3.out (by omega) (by omega) (by omega) (by omega)
    obtain ⟨slx, snx, hB3, hR3, hN3⟩ := hY3.ex
    have c2 := hB3.has.cell 2
    have cl := hB3.has.lt
    have cz := hB3.has.frozen 2
    simp only [List.getElem?_toArray, List.getElem?_cons_succ, List.getElem?_cons_zero, Sl.v] at c2
    have hcap : A0.length ≤ snx.c ∨ snx.a = none := by
      rcases hN3.form with ⟨h1, _⟩ | ⟨g, h1, h2⟩
      · exact .inr h1
      · exact .inl h2
    have HB3 : Hid (Blk w3 o2 1040 sx #[num, slx.v T.length, snx.v A0.length] 81) := hB3
    have HR3 : Hid (Row w3 o2 1041 132 5 slx T.length (T.flatMap tokC)) := hR3
    have HN3 : Hid (Row w3 o2 1042 134 8 snx 0 []) := hN3.take 0 (Nat.zero_le _) (by simp)
    have HY3 : Hid (SyRep w3 o2 sx num T A0) := hY3
    have OWN : Hid (w3.ownsRow 0 134 8 (.slice snx.a 0 snx.c) 0 []) := HN3.out.own
    clear h00 hB3 hR3 hN3 hY3
    go_wp2_with (at_builtin; go_must (refine wpList_app rowNode _ rfl (.tmp 64) (.tmp 66) rfl _ _ _ rfl (owns_alloc OWN.out _) _ (ndV nd0) rfl (Has.new _ _ _) rfl ?one ?bd ?go))
    case one => intro u hu; simp [ndV] at hu; rcases hu with rfl | rfl | rfl | rfl | rfl | rfl | rfl | rfl <;> rfl
    case bd => omega
    case go =>
      intro g5 cap5 w5 q1 q2 q3 q4
      obtain ⟨r1, r2⟩ := HN3.out.app (w1 := w3.alloc (.cells (ndV nd0).toArray 134)) ((Fr.refl _ _).alloc _) q1 q2 (q3.imp_right (fun h => by
        omega)) q4
      have blk5 := HB3.out.st r2 (by decide)
      obtain ⟨p1, p2⟩ := blk5.put 2 (.slice (some ⟨g5, 0, none⟩) (0 + 1) cap5) rfl
      have d2 := blk5.has.cell 2
      have dz := blk5.has.frozen 2
      have dl := blk5.has.lt
      simp only [List.getElem?_toArray, List.getElem?_cons_succ, List.getElem?_cons_zero, Sl.v] at d2
      have hS56 : Stp QF w3 o2 (w5.setCell ⟨sx, 2, none⟩ (.slice (some ⟨g5, 0, none⟩) (0 + 1) cap5)) (upd o2 g5 1042) := (r2.weaken (fun l h => .inr h)).trans (p2.weaken (fun l h => .inl h))
      have HS6 : Hid (Stp QF w3 o2 (w5.setCell ⟨sx, 2, none⟩ (.slice (some ⟨g5, 0, none⟩) (0 + 1) cap5)) (upd o2 g5 1042)) := hS56
      have HF6 : Hid (FRep (w5.setCell ⟨sx, 2, none⟩ (.slice (some ⟨g5, 0, none⟩) (0 + 1) cap5)) (upd o2 g5 1042) sx num (slx.v T.length) ⟨some ⟨g5, 0, none⟩, cap5⟩ [nd0]) := ⟨p1, r1.st p2 (by decide), hS56.hi HY3.out.ow⟩
      have hP3 : ∀ k, Fz w2.heap.size w3.heap.size k → k < w3.heap.size ∧ o2 k = 0 := fun k hk => ⟨hk.2, HG2.out.r.ow k hk.1⟩
      obtain ⟨hold0, hlen0⟩ : s'.nodes.getD 0 nd0 = nd0 ∧ 1 ≤ s'.nodes.length := ⟨HBL.out.kp.old 0 (by decide), HBL.out.kp.le⟩
      have hcho : ChOk s'.nodes (v.getD 0 0) := by
        obtain ⟨l, al', hc, hs⟩ := HBL.out.ex
        exact ChOk.of hc (SeqS.ok hs)
      have hLst : Lst s'.nodes 0 (s'.nodes.length - 1) (v.getD 0 0) ms := HX.out.l
      have CH : Hid (Calls Tryz.prog 63 #[.pointer (some ⟨sx, 0, none⟩), .slice sa ln cp] (w5.setCell ⟨sx, 2, none⟩ (.slice (some ⟨g5, 0, none⟩) (0 + 1) cap5)) (ChQ (w5.setCell ⟨sx, 2, none⟩ (.slice (some ⟨g5, 0, none⟩) (0 + 1) cap5)) (upd o2 g5 1042) sx num (slx.v T.length) [nd0] s'.nodes 0 (s'.nodes.length - 1) (v.getD 0 0))) :=
        chain_any (lay_all (by omega) s'.nodes.length) (by omega) hLst (fun x hx => (HX.out.t x hx).st hP3 hS56 qf0) (hcho.mem hLst) (by omega) HX.out.v (HX.out.m.st hP3 hS56 qf0) (pst hP3 hS56) HF6.out rfl
      have HN0 : Hid (s'.nodes.getD 0 nd0 = nd0) := hold0
      obtain ⟨nl, HNL⟩ : ∃ nl, Hid (s'.nodes.length = nl) := ⟨_, rfl⟩
      rw [HNL.out] at hnl hlen0 HTR2
      clear q1 q2 q3 q4 r1 r2 p1 p2 blk5 hS56 OWN hP3 hcho hLst hold0
      go_wp2_with fail
      refine CH.out.mono ?_
      rintro e7 w7 ⟨rfl, o7, sn7, hF7, hS7⟩
      rw [ful_all (by rw [HNL.out]; exact hlen0) HN0.out] at hF7
      have HF7 : Hid (FRep w7 o7 sx num (slx.v T.length) sn7 s'.nodes) := hF7
      have HS7 : Hid (Stp QF w3 o2 w7 o7) := HS6.out.trans hS7
      have HSW : Hid (Stp QS w o w7 o7) := (HS2.out.trans (HS3.out.weaken (fun l h => by unfold QS; omega))).trans (HS7.out.weaken (fun l h => by unfold QF at h; unfold QS; omega))
      have HY7 : Hid (SyRep w7 o7 sx num T s'.nodes) := ⟨⟨slx, sn7, hF7.blk, HR3.out.st HS7.out (by unfold QF; omega), hF7.row⟩, HY3.out.k.st HS7.out (by unfold QF; omega), HY3.out.g.st HS7.out (by unfold QF; omega), HY3.out.b.st HS7.out (by unfold QF; omega), hF7.ow⟩
      have HOK7 : Hid (SyOk T s'.nodes) := ⟨HOK.out.t, .inr ⟨HNK.out, HN0.out⟩, by rw [HNL.out]; exact hnl⟩
      have b2 := hF7.blk.has.cell 2
      have bl := hF7.blk.has.lt
      rw [HNL.out] at b2
      simp only [List.getElem?_toArray, List.getElem?_cons_succ, List.getElem?_cons_zero, Sl.v] at b2
      obtain ⟨g7, r1, r2, _, _, _, _⟩ := hF7.row.cells (by rw [HNL.out]; omega)
      have OWN7 : Hid (w7.ownsRow 0 134 8 (.slice sn7.a nl sn7.c) nl (s'.nodes.flatMap ndV)) := by
        have := hF7.row.own
        rw [HNL.out] at this
        exact this
      clear hF7 hS7 CH
      by_cases h300 : 300 < nl - 1
      · rw [if_pos h300] at HTR2
        have e3 : decide ((300 : Int) < (nl : Int) - 1) = true := decide_eq_true (by omega)
        clear h300
        go_wp2_with fail
        go_ret3
        exact ⟨o7, T, s'.nodes, HY7.out, HOK7.out, HSW.out, .inl ⟨_, HTR2.out, rfl⟩⟩
      · rw [if_neg h300] at HTR2
        have e3 : decide ((300 : Int) < (nl : Int) - 1) = false := decide_eq_false (by omega)
        have hnl2 : nl ≤ 301 := by omega
        obtain ⟨ti, hti, hz, htsz, hby⟩ := info_parts rowNode.hi
        clear h300
        go_wp2_with (at_make; go_must (refine wpList_make_full _ rfl _ _ 48 rfl 0 134 ti (.agg #[.int .i64 0, .int .i64 0, .int .i64 0, .int .i64 0, .int .i64 0, .int .u64 0, .string ⟨#[]⟩, .int .i64 0]) 8 rowNode.ht hti hz htsz .i64 .i64 _ _ nl rfl rfl rfl rfl (by rw [hby]; omega) (by unfold maxLen; omega) (Nat.zero_le _) ?mk))
        case mk =>
          intro w8 hown hgrow
          have hF8 : Fr (fun _ => False) w7 w8 := (Fr.of_grown hgrow).weaken (fun k _ h => by cases h)
          have hz8 := hF8.size
          obtain ⟨w9, hrun, hown9, hF9⟩ := run_copy_full (P := Tryz.prog) w8 48 48 3 134 8 w7.heap.size nl (.slice sn7.a nl sn7.c) nl _ (s'.nodes.flatMap ndV) rowNode.ht (by kernel_rfl) hown (owns_fr OWN7.out hF8 (fun _ _ h => h)) (by omega) (fun u hu => by
            obtain ⟨d, _, hd⟩ := List.mem_flatMap.1 hu
            simp [ndV] at hd
            rcases hd with rfl | rfl | rfl | rfl | rfl | rfl | rfl | rfl <;> rfl)
          have hF79 : Fr (fun _ => False) w7 w9 := hF8.trans hF9 (fun j hj e => by omega)
          have HS9 : Hid (Stp (fun _ => False) w7 o7 w9 o7) := ⟨hF79, fun _ _ => rfl, fun h k hk => h k (Nat.le_trans hF79.size hk)⟩
          have HO9 : Hid (w9.ownsRow 0 134 8 (.slice (some ⟨w7.heap.size, 0, none⟩) nl nl) nl (s'.nodes.flatMap ndV)) := hown9
          have b82 : w8.cell? ⟨sx, 2, none⟩ = some (.slice sn7.a nl sn7.c) := by
            have := (HF7.out.blk.has.fr hF8 (fun h => h)).cell 2
            rw [HNL.out] at this
            exact this
          have bl8 : sx < w8.heap.size := by omega
          have hz7 := HSW.out.fr.size
          obtain ⟨gn, HGN⟩ : ∃ gn, Hid (w7.heap.size = gn) := ⟨_, rfl⟩
          rw [r1] at hrun b82
          rw [HGN.out] at hrun HO9 ⊢
          clear hown hgrow hown9 hF9 hF8 hF79 OWN7
          go_wp2_with fail
          go_ret3
          have hY9 := HY7.out.st HS9.out (fun h => h) (fun h => h) (fun h => h) (fun h => h)
          have hs9 : Stp QS w o w9 o7 := HSW.out.trans (HS9.out.weaken (fun l h => h.elim))
          have hzz := HS9.out.fr.size
          have hgl := owns_lt HO9.out gn rfl
          have hal : ∀ b, Stp (fun _ => False) w9 o7 (w9.alloc b) o7 := fun b => (Stp.refl _ _ _).alloc b
          refine ⟨o7, T, s'.nodes, hY9.st (hal _) (fun h => h) (fun h => h) (fun h => h) (fun h => h), HOK7.out, hs9.alloc _, .inr ⟨_, _, _, HTR2.out, rfl, ⟨gn, ?_, ?_, ?_, ?_, ?_, ?_, ?_, ?_⟩⟩⟩
          · rw [HNL.out]
            exact Has.new _ _ _
          · rw [HNL.out]
            exact owns_alloc HO9.out _
          · rw [← HGN.out]
            exact hz7
          · simp
            omega
          · have := HGN.out
            omega
          · simp
          · exact HY7.out.ow _ (by rw [HGN.out]; exact Nat.le_refl _)
          · exact HY7.out.ow _ hzz
  · rw [if_pos h00] at HTR2
    have e2 : (((curT T s').k : Int) != 0) = true := by simp; omega
    obtain ⟨y, hy⟩ : ∃ y, failP T s' 15 = .inl y := ⟨_, rfl⟩
    have HY : Hid (treeP src = .inl y) := by
      show treeP src = _
      rw [HTR2.out, hy]
      rfl
    have hne := EO.fail HTK.out.etk s' (e := 15) (by decide) y hy
    have HFA : Hid (Calls Tryz.prog 62 #[.pointer (some ⟨bp, 0, none⟩), .int .i64 15] w3 fun e w' => e = .returned (.tuple #[]) ∧ PErr w' o2 bp y.1 y.2 ∧ Stp (fun l => l = 1043) w3 o2 w' o2) := HRR.out.fail hy
    obtain ⟨er, pl⟩ := y
    dsimp only at hne HFA
    clear hy h00 HTR2 HBL HNK
    go_wp2_with fail
    refine HFA.out.mono ?_
    rintro e4 w4 ⟨rfl, hpe, q2⟩
    have HPE : Hid (PErr w4 o2 bp er pl) := hpe
    have HS4 : Hid (Stp (fun l => l = 1043) w3 o2 w4 o2) := q2
    obtain ⟨cs, k1, k2, k3⟩ := hpe
    have d10 := k1.has.cell 10
    have d11 := k1.has.cell 11
    have dl := k1.has.lt
    rw [k2] at d10
    rw [k3] at d11
    have e10 : ((er : Int) != 0) = true := by simp; omega
    clear k1 k2 k3 q2
    go_wp2_with fail
    refine wp_region_all 11 rfl (by kernel_rfl) (by kernel_rfl) (fun _ _ _ _ _ h => h) ?_
    repeat go_big_quiet_step (fail)
    refine wpQuiet_nil ?_
    go_wp2_with fail
    go_ret3
    exact ERR.out _ _ _ HPE.out (HS3.out.trans HS4.out) HY.out
end
end Go.Proofs.Qxb6500574aGreatDoor
