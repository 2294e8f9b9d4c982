/-
  THE WALK of the parser layer: flat.go: stmt. (Written by tools/gen_flat.py.)
-/
import Derived.Test.Qxb6500574aGreatDoorWFlO
namespace Go.Proofs.Qxb6500574aGreatDoor
open Go Go.RowKit
set_option linter.unusedVariables false
set_option linter.unusedSimpArgs false
open Go.Lib
section
set_option maxRecDepth 100000
set_option maxHeartbeats 2000000
variable {w : World} {o : Nat → Nat} {sb : Nat} {nm tk : Value} {sn : Sl} {A N : List Nd} {P : Nat → Prop} {lo n : Nat} {v : Value}
theorem stmt_lay (CE : ExC N n) (CL : LayC N n) (hN : N.length ≤ 3000) (h : TrA w P N lo n v) (hg : GoodS N n) (hP : ∀ k, P k → k < w.heap.size ∧ o k = 0) (F : FRep w o sb nm tk sn A) (hA : A.length = lo + 1) : Calls Tryz.prog 163 #[.pointer (some ⟨sb, 0, none⟩), v] w (LayQ w o sb nm tk A N lo n) := by
  have hin := h.in_
  cases h using TrA.on with
  | mk _ _ _ d kids mem ls hd hm hl hk hb hz hn sh =>
    have hkd : (N.getD n nd0).k = d.k := by rw [← hd]; rfl
    have hda : (N.getD n nd0).a = d.a := by rw [← hd]; rfl
    have hdb : (N.getD n nd0).b = d.b := by rw [← hd]; rfl
    have hdc : (N.getD n nd0).c = d.c := by rw [← hd]; rfl
    have hHP : Hid (∀ k, P k → k < w.heap.size ∧ o k = 0) := hP
    have HF : Hid (FRep w o sb nm tk sn A) := F
    have HA : Hid (A.length = lo + 1) := hA
    have HD : Hid ((N.getD n nd0).cut = d) := hd
    obtain ⟨dn, HDN⟩ : ∃ dn, Hid ((N.getD n nd0).next = dn) := ⟨_, rfl⟩
    have HD' : Hid (N.getD n nd0 = { d with next := dn }) := by
      show N.getD n nd0 = _
      rw [← hd, ← HDN.out]
      rfl
    cases sh using Shp.on with
    | @local1 s x y p b c _ a hi _ m hs ho =>
      rcases hs with ⟨h1, _⟩ | ⟨g0b, cq, gcs, rfl, _, hq, hcs, rfl⟩
      · cases h1
      have hGb : P g0b ∧ Has w g0b gcs 206 := hm (g0b, gcs, 206) (by simp)
      have gb0 : w.cell? ⟨g0b, 0, none⟩ = some (.iface 296 (.pointer (some ⟨c, 0, none⟩))) := by
        rw [hGb.2.cell]
        exact hcs 0 _ rfl
      have gbl := hGb.2.lt
      simp only [List.length_cons, List.length_nil] at hq
      have HGB : Hid (P g0b ∧ Has w g0b gcs 206) := hGb
      have hB : P b ∧ Has w b #[.slice (some ⟨g0b, 0, none⟩) 1 cq, x] 364 := hm (b, #[.slice (some ⟨g0b, 0, none⟩) 1 cq, x], 364) (by simp)
      have b0 := hB.2.cell 0
      have b1 := hB.2.cell 1
      have bl := hB.2.lt
      simp only [List.getElem?_toArray, List.getElem?_cons_succ, List.getElem?_cons_zero] at b0 b1
      have HB : Hid (P b ∧ Has w b #[.slice (some ⟨g0b, 0, none⟩) 1 cq, x] 364) := hB
      have hc : P c ∧ Has w c #[.int .i64 p, sv s] 357 := hm (c, #[.int .i64 p, sv s], 357) (by simp)
      have c0 := hc.2.cell 0
      have c1 := hc.2.cell 1
      have cl := hc.2.lt
      simp only [List.getElem?_toArray, List.getElem?_cons_succ, List.getElem?_cons_zero] at c0 c1
      have HCX : Hid (P c ∧ Has w c #[.int .i64 p, sv s] 357) := hc
      have hst := hg.out
      rw [HD'.out] at hst
      have TO0 : Hid (∀ y ∈ kids, TrA w P N y.1 y.2.1 y.2.2) := fun y hy => hk y (by first | exact hy | simp [hy])
      have ZO0 : Hid (∀ y ∈ kids, (N.getD y.2.1 nd0).next = 0) := fun y hy => by
        rcases hz y (by first | exact hy | simp [hy]) with h | ⟨z, h1, h2⟩
        · exact h
        · cases h1
      have HO0 : Hid (OpM (lo) (hi) (a) (x) kids) := ho
      have GO0 : Hid (a = 0 ∨ GoodE N (a)) := (hst.k1 rfl)
      have LX0 : (lo : Nat) ≤ hi := HO0.out.le
      have t0 := isLocal
      have t9 := asName
      clear hP F hA hd hm hl hk hb hz hg hkd hB
      clear hc
      clear hst ho hGb hcs
      go_enter Tryz.func163, Tryz.ntmps163
      go_wp2_with fail
      refine (posLocal bl gbl cl (by omega) (by omega) b0 gb0 c0).mono ?_
      rintro e0 w0 ⟨rfl, hw⟩
      rw [hw]
      clear hw w0
      go_wp2_with fail
      refine ((FSt.start HF.out _).op CE HO0.out TO0.out GO0.out ZO0.out hHP.out (by omega) HA.out).mono ?_
      rintro e1 w1 ⟨rfl, o1, fs1⟩
      have H1 : Hid (FSt w o sb nm tk w1 o1 (A ++ fulN N lo (hi)) w.heap.size _) := fs1
      have nbl := fs1.b.lt
      have nbz := fs1.b.frozen
      have n0 := fs1.b.cell 0
      have n1 := fs1.b.cell 1
      have n2 := fs1.b.cell 2
      have n3 := fs1.b.cell 3
      have n4 := fs1.b.cell 4
      have n5 := fs1.b.cell 5
      have n6 := fs1.b.cell 6
      have n7 := fs1.b.cell 7
      have bH := fs1.has hHP.out HB.out
      have b0 := bH.cell 0
      have b1 := bH.cell 1
      have bl := bH.lt
      simp only [Array.setIfInBounds, List.set_toArray, List.getElem?_toArray, List.getElem?_cons_succ, List.getElem?_cons_zero, List.set_cons_succ, List.set_cons_zero, List.size_toArray, List.length_cons, List.length_nil] at n0 n1 n2 n3 n4 n5 n6 n7 b0 b1
      clear fs1 bH
      go_wp2_with fail
      refine ((H1.out.put 1 _ rfl).add (m := hi + 1) (by rw [List.length_append, fulN_len, HA.out]; omega) (by omega) ⟨1, a, 0, 0, 0, 0, s, p⟩).mono ?_
      rintro e9 w9 ⟨rfl, o9, sn9, q1, q2⟩
      have HQ1 : Hid (FRep w9 o9 sb nm tk sn9 _) := q1
      have HQ2 : Hid (Stp QF w o w9 o9) := q2
      clear q1 q2
      go_wp2_with fail
      go_ret
      exact LayQ.fin HA.out (by omega) HD.out HQ1.out HQ2.out
    | @local2 s x y z p b c _ a m hs =>
      have hs0 := hs
      rcases hs with ⟨h1, _⟩ | ⟨g0b, cq, gcs, rfl, _, hq, hcs, rfl⟩
      · cases h1
      have hGb : P g0b ∧ Has w g0b gcs 206 := hm (g0b, gcs, 206) (by simp)
      have gb0 : w.cell? ⟨g0b, 0, none⟩ = some (.iface 296 (.pointer (some ⟨c, 0, none⟩))) := by
        rw [hGb.2.cell]
        exact hcs 0 _ rfl
      have gbl := hGb.2.lt
      simp only [List.length_cons, List.length_nil] at hq
      have HGB : Hid (P g0b ∧ Has w g0b gcs 206) := hGb
      have hB : P b ∧ Has w b #[.slice (some ⟨g0b, 0, none⟩) 2 cq, x] 364 := hm (b, #[.slice (some ⟨g0b, 0, none⟩) 2 cq, x], 364) (by simp)
      have b0 := hB.2.cell 0
      have b1 := hB.2.cell 1
      have bl := hB.2.lt
      simp only [List.getElem?_toArray, List.getElem?_cons_succ, List.getElem?_cons_zero] at b0 b1
      have HB : Hid (P b ∧ Has w b #[.slice (some ⟨g0b, 0, none⟩) 2 cq, x] 364) := hB
      have hc : P c ∧ Has w c #[.int .i64 p, sv s] 357 := hm (c, #[.int .i64 p, sv s], 357) (by simp)
      have c0 := hc.2.cell 0
      have c1 := hc.2.cell 1
      have cl := hc.2.lt
      simp only [List.getElem?_toArray, List.getElem?_cons_succ, List.getElem?_cons_zero] at c0 c1
      have HCX : Hid (P c ∧ Has w c #[.int .i64 p, sv s] 357) := hc
      have hst := hg.out
      rw [HD'.out] at hst
      have hge := hst.k2 rfl
      dsimp only at hge
      have LS0 : Hid (Lst N (lo) (lo + 2) (lo + 1) [(lo, lo + 1, .iface 296 (.pointer (some ⟨c, 0, none⟩))), (lo + 1, lo + 2, z)]) := (hl (lo, lo + 2, lo + 1, [(lo, lo + 1, .iface 296 (.pointer (some ⟨c, 0, none⟩))), (lo + 1, lo + 2, z)]) (by simp)).1
      have TS0 : Hid (∀ x ∈ ([(lo, lo + 1, .iface 296 (.pointer (some ⟨c, 0, none⟩))), (lo + 1, lo + 2, z)] : List Mb), TrA w P N x.1 x.2.1 x.2.2) := fun x hx => hk x (by first | exact hx | (simp [hx]; done) | (simp at hx ⊢; rcases hx with h | h <;> simp [h]))
      have OS0 : Hid (∀ x ∈ ([(lo, lo + 1, .iface 296 (.pointer (some ⟨c, 0, none⟩))), (lo + 1, lo + 2, z)] : List Mb), Ok3 N x.2.1) := (fun x hx => .inr (.inr (by simp at hx; rcases hx with rfl | rfl; exact hge.1 _ (.inl rfl); exact hge.1 _ (.inr rfl))))
      have MS0 : Hid (Mm w P [(g0b, gcs, 206)]) := fun x hx => hm x (by first | exact List.mem_cons_of_mem _ hx | (simp at hx ⊢; simp [hx]))
      have LX0 : (lo : Nat) ≤ lo + 2 := (LS0.out).le
      have BX0 : (lo + 2 : Nat) < a + 1 := (hl (lo, lo + 2, lo + 1, [(lo, lo + 1, .iface 296 (.pointer (some ⟨c, 0, none⟩))), (lo + 1, lo + 2, z)]) (by simp)).2.2
      have TX1 : Hid (TrA w P N (lo + 2) (a) (x)) := hk (lo + 2, a, x) (by simp)
      have ZX1 : Hid ((N.getD (a) nd0).next = 0) := by
        rcases hz (lo + 2, a, x) (by simp) with h | ⟨y, h1, h2⟩
        · exact h
        · simp at h1
          subst h1
          simp at h2
      have GX1 : Hid (GoodE N (a) ∨ (N.getD (a) nd0).k = 17) := .inl (hge.2)
      have LX1 : (lo + 2 : Nat) < a := (TX1.out).lt
      have BX1 : (a : Nat) < a + 1 := (hb (lo + 2, a, x) (by simp)).2
      have t0 := isLocal
      clear hP F hA hd hm hl hk hb hz hg hkd hB
      clear hc
      clear hst hge hGb hcs
      go_enter Tryz.func163, Tryz.ntmps163
      go_wp2_with fail
      refine (posLocal bl gbl cl (by omega) (by omega) b0 gb0 c0).mono ?_
      rintro e0 w0 ⟨rfl, hw⟩
      rw [hw]
      clear hw w0
      go_wp2_with fail
      refine ((FSt.start HF.out _).ch CL hN LS0.out TS0.out OS0.out (by omega) (hs0) MS0.out hHP.out HA.out).mono ?_
      rintro e1 w1 ⟨rfl, o1, fs1⟩
      have H1 : Hid (FSt w o sb nm tk w1 o1 (A ++ fulN N lo (lo + 2)) w.heap.size _) := fs1
      have nbl := fs1.b.lt
      have nbz := fs1.b.frozen
      have n0 := fs1.b.cell 0
      have n1 := fs1.b.cell 1
      have n2 := fs1.b.cell 2
      have n3 := fs1.b.cell 3
      have n4 := fs1.b.cell 4
      have n5 := fs1.b.cell 5
      have n6 := fs1.b.cell 6
      have n7 := fs1.b.cell 7
      have bH := fs1.has hHP.out HB.out
      have b0 := bH.cell 0
      have b1 := bH.cell 1
      have bl := bH.lt
      simp only [Array.setIfInBounds, List.set_toArray, List.getElem?_toArray, List.getElem?_cons_succ, List.getElem?_cons_zero, List.set_cons_succ, List.set_cons_zero, List.size_toArray, List.length_cons, List.length_nil] at n0 n1 n2 n3 n4 n5 n6 n7 b0 b1
      clear fs1 bH
      go_wp2_with fail
      refine ((H1.out.put 1 _ rfl).ex CE TX1.out GX1.out hHP.out (by omega) (by rw [List.length_append, fulN_len, HA.out]; omega) ZX1.out).mono ?_
      rintro e2 w2 ⟨rfl, o2, fs2⟩
      rw [List.append_assoc, ful_app (by omega) (by omega)] at fs2
      have H2 : Hid (FSt w o sb nm tk w2 o2 (A ++ fulN N lo (a)) w.heap.size _) := fs2
      have nbl := fs2.b.lt
      have nbz := fs2.b.frozen
      have n0 := fs2.b.cell 0
      have n1 := fs2.b.cell 1
      have n2 := fs2.b.cell 2
      have n3 := fs2.b.cell 3
      have n4 := fs2.b.cell 4
      have n5 := fs2.b.cell 5
      have n6 := fs2.b.cell 6
      have n7 := fs2.b.cell 7
      have bH := fs2.has hHP.out HB.out
      have b0 := bH.cell 0
      have b1 := bH.cell 1
      have bl := bH.lt
      simp only [Array.setIfInBounds, List.set_toArray, List.getElem?_toArray, List.getElem?_cons_succ, List.getElem?_cons_zero, List.set_cons_succ, List.set_cons_zero, List.size_toArray, List.length_cons, List.length_nil] at n0 n1 n2 n3 n4 n5 n6 n7 b0 b1
      clear fs2 bH
      go_wp2_with fail
      refine ((H2.out.put 2 _ rfl).add (m := a + 1) (by rw [List.length_append, fulN_len, HA.out]; omega) (by omega) ⟨2, lo + 1, a, 0, 0, 0, [], p⟩).mono ?_
      rintro e9 w9 ⟨rfl, o9, sn9, q1, q2⟩
      have HQ1 : Hid (FRep w9 o9 sb nm tk sn9 _) := q1
      have HQ2 : Hid (Stp QF w o w9 o9) := q2
      clear q1 q2
      go_wp2_with fail
      go_ret
      exact LayQ.fin HA.out (by omega) HD.out HQ1.out HQ2.out
    | @localfn s p b c d _ a =>
      have hB : P b ∧ Has w b #[.pointer (some ⟨c, 0, none⟩), .pointer (some ⟨d, 0, none⟩)] 360 := hm (b, #[.pointer (some ⟨c, 0, none⟩), .pointer (some ⟨d, 0, none⟩)], 360) (by simp)
      have b0 := hB.2.cell 0
      have b1 := hB.2.cell 1
      have bl := hB.2.lt
      simp only [List.getElem?_toArray, List.getElem?_cons_succ, List.getElem?_cons_zero] at b0 b1
      have HB : Hid (P b ∧ Has w b #[.pointer (some ⟨c, 0, none⟩), .pointer (some ⟨d, 0, none⟩)] 360) := hB
      have hc : P c ∧ Has w c #[.int .i64 p, sv s] 357 := hm (c, #[.int .i64 p, sv s], 357) (by simp)
      have c0 := hc.2.cell 0
      have c1 := hc.2.cell 1
      have cl := hc.2.lt
      simp only [List.getElem?_toArray, List.getElem?_cons_succ, List.getElem?_cons_zero] at c0 c1
      have HCX : Hid (P c ∧ Has w c #[.int .i64 p, sv s] 357) := hc
      have hst := hg.out
      rw [HD'.out] at hst
      have hge := hst.k3 (.inl rfl)
      dsimp only at hge
      have TX0 : Hid (TrA w P N (lo) (a) (.iface 354 (.pointer (some ⟨d, 0, none⟩)))) := hk (lo, a, .iface 354 (.pointer (some ⟨d, 0, none⟩))) (by simp)
      have ZX0 : Hid ((N.getD (a) nd0).next = 0) := by
        rcases hz (lo, a, .iface 354 (.pointer (some ⟨d, 0, none⟩))) (by simp) with h | ⟨y, h1, h2⟩
        · exact h
        · simp at h1
      have GX0 : Hid (GoodE N (a) ∨ (N.getD (a) nd0).k = 17) := .inl (hge)
      have LX0 : (lo : Nat) < a := (TX0.out).lt
      have BX0 : (a : Nat) < a + 1 := (hb (lo, a, .iface 354 (.pointer (some ⟨d, 0, none⟩))) (by simp)).2
      have t0 := @noLocal 358 rfl
      have t1 := isLocalFn
      clear hP F hA hd hm hl hk hb hz hg hkd hB
      clear hc
      clear hst hge
      go_enter Tryz.func163, Tryz.ntmps163
      go_wp2_with fail
      refine (posLocalFn bl cl b0 c0).mono ?_
      rintro e0 w0 ⟨rfl, hw⟩
      rw [hw]
      clear hw w0
      go_wp2_with fail
      refine ((FSt.start HF.out _).ex CE TX0.out GX0.out hHP.out (by omega) HA.out ZX0.out).mono ?_
      rintro e1 w1 ⟨rfl, o1, fs1⟩
      have H1 : Hid (FSt w o sb nm tk w1 o1 (A ++ fulN N lo (a)) w.heap.size _) := fs1
      have nbl := fs1.b.lt
      have nbz := fs1.b.frozen
      have n0 := fs1.b.cell 0
      have n1 := fs1.b.cell 1
      have n2 := fs1.b.cell 2
      have n3 := fs1.b.cell 3
      have n4 := fs1.b.cell 4
      have n5 := fs1.b.cell 5
      have n6 := fs1.b.cell 6
      have n7 := fs1.b.cell 7
      have bH := fs1.has hHP.out HB.out
      have b0 := bH.cell 0
      have b1 := bH.cell 1
      have bl := bH.lt
      simp only [Array.setIfInBounds, List.set_toArray, List.getElem?_toArray, List.getElem?_cons_succ, List.getElem?_cons_zero, List.set_cons_succ, List.set_cons_zero, List.size_toArray, List.length_cons, List.length_nil] at n0 n1 n2 n3 n4 n5 n6 n7 b0 b1
      clear fs1 bH
      go_wp2_with fail
      refine ((H1.out.put 1 _ rfl).add (m := a + 1) (by rw [List.length_append, fulN_len, HA.out]; omega) (by omega) ⟨3, a, 0, 0, 0, 0, s, p⟩).mono ?_
      rintro e9 w9 ⟨rfl, o9, sn9, q1, q2⟩
      have HQ1 : Hid (FRep w9 o9 sb nm tk sn9 _) := q1
      have HQ2 : Hid (Stp QF w o w9 o9) := q2
      clear q1 q2
      go_wp2_with fail
      go_ret
      exact LayQ.fin HA.out (by omega) HD.out HQ1.out HQ2.out
    | @assign x y p b _ a c =>
      have hB : P b ∧ Has w b #[.int .i64 p, x, y] 300 := hm (b, #[.int .i64 p, x, y], 300) (by simp)
      have b0 := hB.2.cell 0
      have b1 := hB.2.cell 1
      have b2 := hB.2.cell 2
      have bl := hB.2.lt
      simp only [List.getElem?_toArray, List.getElem?_cons_succ, List.getElem?_cons_zero] at b0 b1 b2
      have HB : Hid (P b ∧ Has w b #[.int .i64 p, x, y] 300) := hB
      have hst := hg.out
      rw [HD'.out] at hst
      have hge := hst.k4 rfl
      dsimp only at hge
      have TX0 : Hid (TrA w P N (lo) (a) (x)) := hk (lo, a, x) (by simp)
      have ZX0 : Hid ((N.getD (a) nd0).next = 0) := by
        rcases hz (lo, a, x) (by simp) with h | ⟨y, h1, h2⟩
        · exact h
        · simp at h1
      have GX0 : Hid (GoodE N (a) ∨ (N.getD (a) nd0).k = 17) := .inl (hge.1)
      have LX0 : (lo : Nat) < a := (TX0.out).lt
      have BX0 : (a : Nat) < c + 1 := (hb (lo, a, x) (by simp)).2
      have TX1 : Hid (TrA w P N (a) (c) (y)) := hk (a, c, y) (by simp)
      have ZX1 : Hid ((N.getD (c) nd0).next = 0) := by
        rcases hz (a, c, y) (by simp) with h | ⟨y, h1, h2⟩
        · exact h
        · simp at h1
      have GX1 : Hid (GoodE N (c) ∨ (N.getD (c) nd0).k = 17) := .inl (hge.2)
      have LX1 : (a : Nat) < c := (TX1.out).lt
      have BX1 : (c : Nat) < c + 1 := (hb (a, c, y) (by simp)).2
      have t0 := @noLocal 298 rfl
      have t1 := @noLocalFn 298 rfl
      have t2 := isAssign
      clear hP F hA hd hm hl hk hb hz hg hkd hB
      clear hst hge
      go_enter Tryz.func163, Tryz.ntmps163
      go_wp2_with fail
      refine (posAssign bl b0).mono ?_
      rintro e0 w0 ⟨rfl, hw⟩
      rw [hw]
      clear hw w0
      go_wp2_with fail
      refine ((FSt.start HF.out _).ex CE TX0.out GX0.out hHP.out (by omega) HA.out ZX0.out).mono ?_
      rintro e1 w1 ⟨rfl, o1, fs1⟩
      have H1 : Hid (FSt w o sb nm tk w1 o1 (A ++ fulN N lo (a)) w.heap.size _) := fs1
      have nbl := fs1.b.lt
      have nbz := fs1.b.frozen
      have n0 := fs1.b.cell 0
      have n1 := fs1.b.cell 1
      have n2 := fs1.b.cell 2
      have n3 := fs1.b.cell 3
      have n4 := fs1.b.cell 4
      have n5 := fs1.b.cell 5
      have n6 := fs1.b.cell 6
      have n7 := fs1.b.cell 7
      have bH := fs1.has hHP.out HB.out
      have b0 := bH.cell 0
      have b1 := bH.cell 1
      have b2 := bH.cell 2
      have bl := bH.lt
      simp only [Array.setIfInBounds, List.set_toArray, List.getElem?_toArray, List.getElem?_cons_succ, List.getElem?_cons_zero, List.set_cons_succ, List.set_cons_zero, List.size_toArray, List.length_cons, List.length_nil] at n0 n1 n2 n3 n4 n5 n6 n7 b0 b1 b2
      clear fs1 bH
      go_wp2_with fail
      refine ((H1.out.put 1 _ rfl).ex CE TX1.out GX1.out hHP.out (by omega) (by rw [List.length_append, fulN_len, HA.out]; omega) ZX1.out).mono ?_
      rintro e2 w2 ⟨rfl, o2, fs2⟩
      rw [List.append_assoc, ful_app (by omega) (by omega)] at fs2
      have H2 : Hid (FSt w o sb nm tk w2 o2 (A ++ fulN N lo (c)) w.heap.size _) := fs2
      have nbl := fs2.b.lt
      have nbz := fs2.b.frozen
      have n0 := fs2.b.cell 0
      have n1 := fs2.b.cell 1
      have n2 := fs2.b.cell 2
      have n3 := fs2.b.cell 3
      have n4 := fs2.b.cell 4
      have n5 := fs2.b.cell 5
      have n6 := fs2.b.cell 6
      have n7 := fs2.b.cell 7
      have bH := fs2.has hHP.out HB.out
      have b0 := bH.cell 0
      have b1 := bH.cell 1
      have b2 := bH.cell 2
      have bl := bH.lt
      simp only [Array.setIfInBounds, List.set_toArray, List.getElem?_toArray, List.getElem?_cons_succ, List.getElem?_cons_zero, List.set_cons_succ, List.set_cons_zero, List.size_toArray, List.length_cons, List.length_nil] at n0 n1 n2 n3 n4 n5 n6 n7 b0 b1 b2
      clear fs2 bH
      go_wp2_with fail
      refine ((H2.out.put 2 _ rfl).add (m := c + 1) (by rw [List.length_append, fulN_len, HA.out]; omega) (by omega) ⟨4, a, c, 0, 0, 0, [], p⟩).mono ?_
      rintro e9 w9 ⟨rfl, o9, sn9, q1, q2⟩
      have HQ1 : Hid (FRep w9 o9 sb nm tk sn9 _) := q1
      have HQ2 : Hid (Stp QF w o w9 o9) := q2
      clear q1 q2
      go_wp2_with fail
      go_ret
      exact LayQ.fin HA.out (by omega) HD.out HQ1.out HQ2.out
    | @callst p b d cs _ a hp =>
      have hGd : P d ∧ Has w d cs 388 := hm (d, cs, 388) (by simp)
      have d0 : w.cell? ⟨d, 0, none⟩ = some (.int .i64 (p : Nat)) := by
        rw [hGd.2.cell]
        exact hp
      have dl := hGd.2.lt
      have hB : P b ∧ Has w b #[.pointer (some ⟨d, 0, none⟩)] 295 := hm (b, #[.pointer (some ⟨d, 0, none⟩)], 295) (by simp)
      have b0 := hB.2.cell 0
      have bl := hB.2.lt
      simp only [List.getElem?_toArray, List.getElem?_cons_succ, List.getElem?_cons_zero] at b0
      have HB : Hid (P b ∧ Has w b #[.pointer (some ⟨d, 0, none⟩)] 295) := hB
      have hst := hg.out
      rw [HD'.out] at hst
      have hge := hst.k3 (.inr rfl)
      dsimp only at hge
      have TX0 : Hid (TrA w P N (lo) (a) (.iface 291 (.pointer (some ⟨d, 0, none⟩)))) := hk (lo, a, .iface 291 (.pointer (some ⟨d, 0, none⟩))) (by simp)
      have ZX0 : Hid ((N.getD (a) nd0).next = 0) := by
        rcases hz (lo, a, .iface 291 (.pointer (some ⟨d, 0, none⟩))) (by simp) with h | ⟨y, h1, h2⟩
        · exact h
        · simp at h1
      have GX0 : Hid (GoodE N (a) ∨ (N.getD (a) nd0).k = 17) := .inl (hge)
      have LX0 : (lo : Nat) < a := (TX0.out).lt
      have BX0 : (a : Nat) < a + 1 := (hb (lo, a, .iface 291 (.pointer (some ⟨d, 0, none⟩))) (by simp)).2
      have t0 := @noLocal 293 rfl
      have t1 := @noLocalFn 293 rfl
      have t2 := @noAssign 293 rfl
      have t3 := isCallStmt
      clear hP F hA hd hm hl hk hb hz hg hkd hB
      clear hst hge hGd
      go_enter Tryz.func163, Tryz.ntmps163
      go_wp2_with fail
      refine (posCallStmt bl dl b0 d0).mono ?_
      rintro e0 w0 ⟨rfl, hw⟩
      rw [hw]
      clear hw w0
      go_wp2_with fail
      refine ((FSt.start HF.out _).ex CE TX0.out GX0.out hHP.out (by omega) HA.out ZX0.out).mono ?_
      rintro e1 w1 ⟨rfl, o1, fs1⟩
      have H1 : Hid (FSt w o sb nm tk w1 o1 (A ++ fulN N lo (a)) w.heap.size _) := fs1
      have nbl := fs1.b.lt
      have nbz := fs1.b.frozen
      have n0 := fs1.b.cell 0
      have n1 := fs1.b.cell 1
      have n2 := fs1.b.cell 2
      have n3 := fs1.b.cell 3
      have n4 := fs1.b.cell 4
      have n5 := fs1.b.cell 5
      have n6 := fs1.b.cell 6
      have n7 := fs1.b.cell 7
      have bH := fs1.has hHP.out HB.out
      have b0 := bH.cell 0
      have bl := bH.lt
      simp only [Array.setIfInBounds, List.set_toArray, List.getElem?_toArray, List.getElem?_cons_succ, List.getElem?_cons_zero, List.set_cons_succ, List.set_cons_zero, List.size_toArray, List.length_cons, List.length_nil] at n0 n1 n2 n3 n4 n5 n6 n7 b0
      clear fs1 bH
      go_wp2_with fail
      refine ((H1.out.put 1 _ rfl).add (m := a + 1) (by rw [List.length_append, fulN_len, HA.out]; omega) (by omega) ⟨5, a, 0, 0, 0, 0, [], p⟩).mono ?_
      rintro e9 w9 ⟨rfl, o9, sn9, q1, q2⟩
      have HQ1 : Hid (FRep w9 o9 sb nm tk sn9 _) := q1
      have HQ2 : Hid (Stp QF w o w9 o9) := q2
      clear q1 q2
      go_wp2_with fail
      go_ret
      exact LayQ.fin HA.out (by omega) HD.out HQ1.out HQ2.out
    | @ifs x y z p b _ a f g h1 hi ms ns m m' hs hb' =>
      have hB : P b ∧ Has w b #[.int .i64 p, x, y, z] 367 := hm (b, #[.int .i64 p, x, y, z], 367) (by simp)
      have b0 := hB.2.cell 0
      have b1 := hB.2.cell 1
      have b2 := hB.2.cell 2
      have b3 := hB.2.cell 3
      have bl := hB.2.lt
      simp only [List.getElem?_toArray, List.getElem?_cons_succ, List.getElem?_cons_zero] at b0 b1 b2 b3
      have HB : Hid (P b ∧ Has w b #[.int .i64 p, x, y, z] 367) := hB
      have hst := hg.out
      rw [HD'.out] at hst
      have hge := hst.k6 rfl
      dsimp only at hge
      have HSL : Hid (SlM ms y m) := hs
      have HSB : Hid (SlM ns z m') := hb'
      have TX0 : Hid (TrA w P N (lo) (a) (x)) := hk (lo, a, x) (by simp)
      have ZX0 : Hid ((N.getD (a) nd0).next = 0) := by
        rcases hz (lo, a, x) (by simp) with h | ⟨y, h1, h2⟩
        · exact h
        · simp at h1
          rcases h1 with h1 | h1 <;> subst h1
          all_goals
            have l1 := (hl (a, h1, f, ms) (by simp)).1
            have l2 := (hl (h1, hi, g, ns) (by simp)).1
            first
            | (have := l1.mem _ h2; dsimp only at this; omega)
            | (have := l2.mem _ h2; have := l1.le; dsimp only at *; omega)
      have GX0 : Hid (GoodE N (a) ∨ (N.getD (a) nd0).k = 17) := .inl (hge.1)
      have LX0 : (lo : Nat) < a := (TX0.out).lt
      have BX0 : (a : Nat) < hi + 1 := (hb (lo, a, x) (by simp)).2
      have LS1 : Hid (Lst N (a) (h1) (f) ms) := (hl (a, h1, f, ms) (by simp)).1
      have TS1 : Hid (∀ x ∈ ms, TrA w P N x.1 x.2.1 x.2.2) := fun x hx => hk x (by first | exact hx | (simp [hx]; done) | (simp at hx ⊢; rcases hx with h | h <;> simp [h]))
      have OS1 : Hid (∀ x ∈ ms, Ok3 N x.2.1) := hge.2.1.mem LS1.out
      have MS1 : Hid (Mm w P m) := fun x hx => hm x (by first | exact List.mem_cons_of_mem _ hx | (simp at hx ⊢; simp [hx]))
      have LX1 : (a : Nat) ≤ h1 := (LS1.out).le
      have BX1 : (h1 : Nat) < hi + 1 := (hl (a, h1, f, ms) (by simp)).2.2
      have LS2 : Hid (Lst N (h1) (hi) (g) ns) := (hl (h1, hi, g, ns) (by simp)).1
      have TS2 : Hid (∀ x ∈ ns, TrA w P N x.1 x.2.1 x.2.2) := fun x hx => hk x (by first | exact hx | (simp [hx]; done) | (simp at hx ⊢; rcases hx with h | h <;> simp [h]))
      have OS2 : Hid (∀ x ∈ ns, Ok3 N x.2.1) := hge.2.2.mem LS2.out
      have MS2 : Hid (Mm w P m') := fun x hx => hm x (by first | exact List.mem_cons_of_mem _ hx | (simp at hx ⊢; simp [hx]))
      have LX2 : (h1 : Nat) ≤ hi := (LS2.out).le
      have BX2 : (hi : Nat) < hi + 1 := (hl (h1, hi, g, ns) (by simp)).2.2
      have t0 := @noLocal 365 rfl
      have t1 := @noLocalFn 365 rfl
      have t2 := @noAssign 365 rfl
      have t3 := @noCallStmt 365 rfl
      have t4 := isIf
      clear hP F hA hd hm hl hk hb hz hg hkd hB
      clear hst hge hs hb'
      go_enter Tryz.func163, Tryz.ntmps163
      go_wp2_with fail
      refine (posIf bl b0).mono ?_
      rintro e0 w0 ⟨rfl, hw⟩
      rw [hw]
      clear hw w0
      go_wp2_with fail
      refine ((FSt.start HF.out _).ex CE TX0.out GX0.out hHP.out (by omega) HA.out ZX0.out).mono ?_
      rintro e1 w1 ⟨rfl, o1, fs1⟩
      have H1 : Hid (FSt w o sb nm tk w1 o1 (A ++ fulN N lo (a)) w.heap.size _) := fs1
      have nbl := fs1.b.lt
      have nbz := fs1.b.frozen
      have n0 := fs1.b.cell 0
      have n1 := fs1.b.cell 1
      have n2 := fs1.b.cell 2
      have n3 := fs1.b.cell 3
      have n4 := fs1.b.cell 4
      have n5 := fs1.b.cell 5
      have n6 := fs1.b.cell 6
      have n7 := fs1.b.cell 7
      have bH := fs1.has hHP.out HB.out
      have b0 := bH.cell 0
      have b1 := bH.cell 1
      have b2 := bH.cell 2
      have b3 := bH.cell 3
      have bl := bH.lt
      simp only [Array.setIfInBounds, List.set_toArray, List.getElem?_toArray, List.getElem?_cons_succ, List.getElem?_cons_zero, List.set_cons_succ, List.set_cons_zero, List.size_toArray, List.length_cons, List.length_nil] at n0 n1 n2 n3 n4 n5 n6 n7 b0 b1 b2 b3
      clear fs1 bH
      go_wp2_with fail
      refine ((H1.out.put 1 _ rfl).ch CL hN LS1.out TS1.out OS1.out (by omega) (HSL.out) MS1.out hHP.out (by rw [List.length_append, fulN_len, HA.out]; omega)).mono ?_
      rintro e2 w2 ⟨rfl, o2, fs2⟩
      rw [List.append_assoc, ful_app (by omega) (by omega)] at fs2
      have H2 : Hid (FSt w o sb nm tk w2 o2 (A ++ fulN N lo (h1)) w.heap.size _) := fs2
      have nbl := fs2.b.lt
      have nbz := fs2.b.frozen
      have n0 := fs2.b.cell 0
      have n1 := fs2.b.cell 1
      have n2 := fs2.b.cell 2
      have n3 := fs2.b.cell 3
      have n4 := fs2.b.cell 4
      have n5 := fs2.b.cell 5
      have n6 := fs2.b.cell 6
      have n7 := fs2.b.cell 7
      have bH := fs2.has hHP.out HB.out
      have b0 := bH.cell 0
      have b1 := bH.cell 1
      have b2 := bH.cell 2
      have b3 := bH.cell 3
      have bl := bH.lt
      simp only [Array.setIfInBounds, List.set_toArray, List.getElem?_toArray, List.getElem?_cons_succ, List.getElem?_cons_zero, List.set_cons_succ, List.set_cons_zero, List.size_toArray, List.length_cons, List.length_nil] at n0 n1 n2 n3 n4 n5 n6 n7 b0 b1 b2 b3
      clear fs2 bH
      go_wp2_with fail
      refine ((H2.out.put 2 _ rfl).ch CL hN LS2.out TS2.out OS2.out (by omega) (HSB.out) MS2.out hHP.out (by rw [List.length_append, fulN_len, HA.out]; omega)).mono ?_
      rintro e3 w3 ⟨rfl, o3, fs3⟩
      rw [List.append_assoc, ful_app (by omega) (by omega)] at fs3
      have H3 : Hid (FSt w o sb nm tk w3 o3 (A ++ fulN N lo (hi)) w.heap.size _) := fs3
      have nbl := fs3.b.lt
      have nbz := fs3.b.frozen
      have n0 := fs3.b.cell 0
      have n1 := fs3.b.cell 1
      have n2 := fs3.b.cell 2
      have n3 := fs3.b.cell 3
      have n4 := fs3.b.cell 4
      have n5 := fs3.b.cell 5
      have n6 := fs3.b.cell 6
      have n7 := fs3.b.cell 7
      have bH := fs3.has hHP.out HB.out
      have b0 := bH.cell 0
      have b1 := bH.cell 1
      have b2 := bH.cell 2
      have b3 := bH.cell 3
      have bl := bH.lt
      simp only [Array.setIfInBounds, List.set_toArray, List.getElem?_toArray, List.getElem?_cons_succ, List.getElem?_cons_zero, List.set_cons_succ, List.set_cons_zero, List.size_toArray, List.length_cons, List.length_nil] at n0 n1 n2 n3 n4 n5 n6 n7 b0 b1 b2 b3
      clear fs3 bH
      go_wp2_with fail
      refine ((H3.out.put 3 _ rfl).add (m := hi + 1) (by rw [List.length_append, fulN_len, HA.out]; omega) (by omega) ⟨6, a, f, g, 0, 0, [], p⟩).mono ?_
      rintro e9 w9 ⟨rfl, o9, sn9, q1, q2⟩
      have HQ1 : Hid (FRep w9 o9 sb nm tk sn9 _) := q1
      have HQ2 : Hid (Stp QF w o w9 o9) := q2
      clear q1 q2
      go_wp2_with fail
      go_ret
      exact LayQ.fin HA.out (by omega) HD.out HQ1.out HQ2.out
    | @whiles x y p b _ a f hi ms m hs =>
      have hB : P b ∧ Has w b #[.int .i64 p, x, y] 286 := hm (b, #[.int .i64 p, x, y], 286) (by simp)
      have b0 := hB.2.cell 0
      have b1 := hB.2.cell 1
      have b2 := hB.2.cell 2
      have bl := hB.2.lt
      simp only [List.getElem?_toArray, List.getElem?_cons_succ, List.getElem?_cons_zero] at b0 b1 b2
      have HB : Hid (P b ∧ Has w b #[.int .i64 p, x, y] 286) := hB
      have hst := hg.out
      rw [HD'.out] at hst
      have hge := hst.k7 rfl
      dsimp only at hge
      have HSL : Hid (SlM ms y m) := hs
      have TX0 : Hid (TrA w P N (lo) (a) (x)) := hk (lo, a, x) (by simp)
      have ZX0 : Hid ((N.getD (a) nd0).next = 0) := by
        rcases hz (lo, a, x) (by simp) with h | ⟨y, h1, h2⟩
        · exact h
        · simp at h1
          subst h1
          have := (hl (a, hi, f, ms) (by simp)).1.mem _ h2
          dsimp only at this
          omega
      have GX0 : Hid (GoodE N (a) ∨ (N.getD (a) nd0).k = 17) := .inl (hge.1)
      have LX0 : (lo : Nat) < a := (TX0.out).lt
      have BX0 : (a : Nat) < hi + 1 := (hb (lo, a, x) (by simp)).2
      have LS1 : Hid (Lst N (a) (hi) (f) ms) := (hl (a, hi, f, ms) (by simp)).1
      have TS1 : Hid (∀ x ∈ ms, TrA w P N x.1 x.2.1 x.2.2) := fun x hx => hk x (by first | exact hx | (simp [hx]; done) | (simp at hx ⊢; rcases hx with h | h <;> simp [h]))
      have OS1 : Hid (∀ x ∈ ms, Ok3 N x.2.1) := hge.2.mem LS1.out
      have MS1 : Hid (Mm w P m) := fun x hx => hm x (by first | exact List.mem_cons_of_mem _ hx | (simp at hx ⊢; simp [hx]))
      have LX1 : (a : Nat) ≤ hi := (LS1.out).le
      have BX1 : (hi : Nat) < hi + 1 := (hl (a, hi, f, ms) (by simp)).2.2
      have t0 := @noLocal 284 rfl
      have t1 := @noLocalFn 284 rfl
      have t2 := @noAssign 284 rfl
      have t3 := @noCallStmt 284 rfl
      have t4 := @noIf 284 rfl
      have t5 := isWhile
      clear hP F hA hd hm hl hk hb hz hg hkd hB
      clear hst hge hs
      go_enter Tryz.func163, Tryz.ntmps163
      go_wp2_with fail
      refine (posWhile bl b0).mono ?_
      rintro e0 w0 ⟨rfl, hw⟩
      rw [hw]
      clear hw w0
      go_wp2_with fail
      refine ((FSt.start HF.out _).ex CE TX0.out GX0.out hHP.out (by omega) HA.out ZX0.out).mono ?_
      rintro e1 w1 ⟨rfl, o1, fs1⟩
      have H1 : Hid (FSt w o sb nm tk w1 o1 (A ++ fulN N lo (a)) w.heap.size _) := fs1
      have nbl := fs1.b.lt
      have nbz := fs1.b.frozen
      have n0 := fs1.b.cell 0
      have n1 := fs1.b.cell 1
      have n2 := fs1.b.cell 2
      have n3 := fs1.b.cell 3
      have n4 := fs1.b.cell 4
      have n5 := fs1.b.cell 5
      have n6 := fs1.b.cell 6
      have n7 := fs1.b.cell 7
      have bH := fs1.has hHP.out HB.out
      have b0 := bH.cell 0
      have b1 := bH.cell 1
      have b2 := bH.cell 2
      have bl := bH.lt
      simp only [Array.setIfInBounds, List.set_toArray, List.getElem?_toArray, List.getElem?_cons_succ, List.getElem?_cons_zero, List.set_cons_succ, List.set_cons_zero, List.size_toArray, List.length_cons, List.length_nil] at n0 n1 n2 n3 n4 n5 n6 n7 b0 b1 b2
      clear fs1 bH
      go_wp2_with fail
      refine ((H1.out.put 1 _ rfl).ch CL hN LS1.out TS1.out OS1.out (by omega) (HSL.out) MS1.out hHP.out (by rw [List.length_append, fulN_len, HA.out]; omega)).mono ?_
      rintro e2 w2 ⟨rfl, o2, fs2⟩
      rw [List.append_assoc, ful_app (by omega) (by omega)] at fs2
      have H2 : Hid (FSt w o sb nm tk w2 o2 (A ++ fulN N lo (hi)) w.heap.size _) := fs2
      have nbl := fs2.b.lt
      have nbz := fs2.b.frozen
      have n0 := fs2.b.cell 0
      have n1 := fs2.b.cell 1
      have n2 := fs2.b.cell 2
      have n3 := fs2.b.cell 3
      have n4 := fs2.b.cell 4
      have n5 := fs2.b.cell 5
      have n6 := fs2.b.cell 6
      have n7 := fs2.b.cell 7
      have bH := fs2.has hHP.out HB.out
      have b0 := bH.cell 0
      have b1 := bH.cell 1
      have b2 := bH.cell 2
      have bl := bH.lt
      simp only [Array.setIfInBounds, List.set_toArray, List.getElem?_toArray, List.getElem?_cons_succ, List.getElem?_cons_zero, List.set_cons_succ, List.set_cons_zero, List.size_toArray, List.length_cons, List.length_nil] at n0 n1 n2 n3 n4 n5 n6 n7 b0 b1 b2
      clear fs2 bH
      go_wp2_with fail
      refine ((H2.out.put 2 _ rfl).add (m := hi + 1) (by rw [List.length_append, fulN_len, HA.out]; omega) (by omega) ⟨7, a, f, 0, 0, 0, [], p⟩).mono ?_
      rintro e9 w9 ⟨rfl, o9, sn9, q1, q2⟩
      have HQ1 : Hid (FRep w9 o9 sb nm tk sn9 _) := q1
      have HQ2 : Hid (Stp QF w o w9 o9) := q2
      clear q1 q2
      go_wp2_with fail
      go_ret
      exact LayQ.fin HA.out (by omega) HD.out HQ1.out HQ2.out
    | @fors s x y p b c _ f g h1 hi ms ns m m' hs hb' =>
      have hB : P b ∧ Has w b #[.pointer (some ⟨c, 0, none⟩), x, y] 373 := hm (b, #[.pointer (some ⟨c, 0, none⟩), x, y], 373) (by simp)
      have b0 := hB.2.cell 0
      have b1 := hB.2.cell 1
      have b2 := hB.2.cell 2
      have bl := hB.2.lt
      simp only [List.getElem?_toArray, List.getElem?_cons_succ, List.getElem?_cons_zero] at b0 b1 b2
      have HB : Hid (P b ∧ Has w b #[.pointer (some ⟨c, 0, none⟩), x, y] 373) := hB
      have hc : P c ∧ Has w c #[.int .i64 p, sv s] 357 := hm (c, #[.int .i64 p, sv s], 357) (by simp)
      have c0 := hc.2.cell 0
      have c1 := hc.2.cell 1
      have cl := hc.2.lt
      simp only [List.getElem?_toArray, List.getElem?_cons_succ, List.getElem?_cons_zero] at c0 c1
      have HCX : Hid (P c ∧ Has w c #[.int .i64 p, sv s] 357) := hc
      have hst := hg.out
      rw [HD'.out] at hst
      have hge := hst.k8 rfl
      dsimp only at hge
      have HSL : Hid (SlM ms x m) := hs
      have HSB : Hid (SlM ns y m') := hb'
      have LS0 : Hid (Lst N (lo) (h1) (f) ms) := (hl (lo, h1, f, ms) (by simp)).1
      have TS0 : Hid (∀ x ∈ ms, TrA w P N x.1 x.2.1 x.2.2) := fun x hx => hk x (by first | exact hx | (simp [hx]; done) | (simp at hx ⊢; rcases hx with h | h <;> simp [h]))
      have OS0 : Hid (∀ x ∈ ms, Ok3 N x.2.1) := hge.1.mem LS0.out
      have MS0 : Hid (Mm w P m) := fun x hx => hm x (by first | exact List.mem_cons_of_mem _ hx | (simp at hx ⊢; simp [hx]))
      have LX0 : (lo : Nat) ≤ h1 := (LS0.out).le
      have BX0 : (h1 : Nat) < hi + 1 := (hl (lo, h1, f, ms) (by simp)).2.2
      have LS1 : Hid (Lst N (h1) (hi) (g) ns) := (hl (h1, hi, g, ns) (by simp)).1
      have TS1 : Hid (∀ x ∈ ns, TrA w P N x.1 x.2.1 x.2.2) := fun x hx => hk x (by first | exact hx | (simp [hx]; done) | (simp at hx ⊢; rcases hx with h | h <;> simp [h]))
      have OS1 : Hid (∀ x ∈ ns, Ok3 N x.2.1) := hge.2.mem LS1.out
      have MS1 : Hid (Mm w P m') := fun x hx => hm x (by first | exact List.mem_cons_of_mem _ hx | (simp at hx ⊢; simp [hx]))
      have LX1 : (h1 : Nat) ≤ hi := (LS1.out).le
      have BX1 : (hi : Nat) < hi + 1 := (hl (h1, hi, g, ns) (by simp)).2.2
      have t0 := @noLocal 371 rfl
      have t1 := @noLocalFn 371 rfl
      have t2 := @noAssign 371 rfl
      have t3 := @noCallStmt 371 rfl
      have t4 := @noIf 371 rfl
      have t5 := @noWhile 371 rfl
      have t6 := isFor
      clear hP F hA hd hm hl hk hb hz hg hkd hB
      clear hc
      clear hst hge hs hb'
      go_enter Tryz.func163, Tryz.ntmps163
      go_wp2_with fail
      refine (posFor bl cl b0 c0).mono ?_
      rintro e0 w0 ⟨rfl, hw⟩
      rw [hw]
      clear hw w0
      go_wp2_with fail
      refine ((FSt.start HF.out _).ch CL hN LS0.out TS0.out OS0.out (by omega) (HSL.out) MS0.out hHP.out HA.out).mono ?_
      rintro e1 w1 ⟨rfl, o1, fs1⟩
      have H1 : Hid (FSt w o sb nm tk w1 o1 (A ++ fulN N lo (h1)) w.heap.size _) := fs1
      have nbl := fs1.b.lt
      have nbz := fs1.b.frozen
      have n0 := fs1.b.cell 0
      have n1 := fs1.b.cell 1
      have n2 := fs1.b.cell 2
      have n3 := fs1.b.cell 3
      have n4 := fs1.b.cell 4
      have n5 := fs1.b.cell 5
      have n6 := fs1.b.cell 6
      have n7 := fs1.b.cell 7
      have bH := fs1.has hHP.out HB.out
      have b0 := bH.cell 0
      have b1 := bH.cell 1
      have b2 := bH.cell 2
      have bl := bH.lt
      simp only [Array.setIfInBounds, List.set_toArray, List.getElem?_toArray, List.getElem?_cons_succ, List.getElem?_cons_zero, List.set_cons_succ, List.set_cons_zero, List.size_toArray, List.length_cons, List.length_nil] at n0 n1 n2 n3 n4 n5 n6 n7 b0 b1 b2
      clear fs1 bH
      go_wp2_with fail
      refine ((H1.out.put 1 _ rfl).ch CL hN LS1.out TS1.out OS1.out (by omega) (HSB.out) MS1.out hHP.out (by rw [List.length_append, fulN_len, HA.out]; omega)).mono ?_
      rintro e2 w2 ⟨rfl, o2, fs2⟩
      rw [List.append_assoc, ful_app (by omega) (by omega)] at fs2
      have H2 : Hid (FSt w o sb nm tk w2 o2 (A ++ fulN N lo (hi)) w.heap.size _) := fs2
      have nbl := fs2.b.lt
      have nbz := fs2.b.frozen
      have n0 := fs2.b.cell 0
      have n1 := fs2.b.cell 1
      have n2 := fs2.b.cell 2
      have n3 := fs2.b.cell 3
      have n4 := fs2.b.cell 4
      have n5 := fs2.b.cell 5
      have n6 := fs2.b.cell 6
      have n7 := fs2.b.cell 7
      have bH := fs2.has hHP.out HB.out
      have b0 := bH.cell 0
      have b1 := bH.cell 1
      have b2 := bH.cell 2
      have bl := bH.lt
      simp only [Array.setIfInBounds, List.set_toArray, List.getElem?_toArray, List.getElem?_cons_succ, List.getElem?_cons_zero, List.set_cons_succ, List.set_cons_zero, List.size_toArray, List.length_cons, List.length_nil] at n0 n1 n2 n3 n4 n5 n6 n7 b0 b1 b2
      clear fs2 bH
      go_wp2_with fail
      refine ((H2.out.put 2 _ rfl).add (m := hi + 1) (by rw [List.length_append, fulN_len, HA.out]; omega) (by omega) ⟨8, f, g, 0, 0, 0, s, p⟩).mono ?_
      rintro e9 w9 ⟨rfl, o9, sn9, q1, q2⟩
      have HQ1 : Hid (FRep w9 o9 sb nm tk sn9 _) := q1
      have HQ2 : Hid (Stp QF w o w9 o9) := q2
      clear q1 q2
      go_wp2_with fail
      go_ret
      exact LayQ.fin HA.out (by omega) HD.out HQ1.out HQ2.out
    | @forin s x y u z p b c _ a g hi ns m m' hs hb' =>
      have hs0 := hs
      rcases hs with ⟨h1, _⟩ | ⟨g0b, cq, gcs, rfl, _, hq, hcs, rfl⟩
      · cases h1
      have hGb : P g0b ∧ Has w g0b gcs 206 := hm (g0b, gcs, 206) (by simp)
      have gb0 : w.cell? ⟨g0b, 0, none⟩ = some (.iface 296 (.pointer (some ⟨c, 0, none⟩))) := by
        rw [hGb.2.cell]
        exact hcs 0 _ rfl
      have gbl := hGb.2.lt
      simp only [List.length_cons, List.length_nil] at hq
      have HGB : Hid (P g0b ∧ Has w g0b gcs 206) := hGb
      have hB : P b ∧ Has w b #[.slice (some ⟨g0b, 0, none⟩) 2 cq, x, u] 370 := hm (b, #[.slice (some ⟨g0b, 0, none⟩) 2 cq, x, u], 370) (by simp)
      have b0 := hB.2.cell 0
      have b1 := hB.2.cell 1
      have b2 := hB.2.cell 2
      have bl := hB.2.lt
      simp only [List.getElem?_toArray, List.getElem?_cons_succ, List.getElem?_cons_zero] at b0 b1 b2
      have HB : Hid (P b ∧ Has w b #[.slice (some ⟨g0b, 0, none⟩) 2 cq, x, u] 370) := hB
      have hc : P c ∧ Has w c #[.int .i64 p, sv s] 357 := hm (c, #[.int .i64 p, sv s], 357) (by simp)
      have c0 := hc.2.cell 0
      have c1 := hc.2.cell 1
      have cl := hc.2.lt
      simp only [List.getElem?_toArray, List.getElem?_cons_succ, List.getElem?_cons_zero] at c0 c1
      have HCX : Hid (P c ∧ Has w c #[.int .i64 p, sv s] 357) := hc
      have hst := hg.out
      rw [HD'.out] at hst
      have hge := hst.k9 rfl
      dsimp only at hge
      have HSB : Hid (SlM ns u m') := hb'
      have LS0 : Hid (Lst N (lo) (lo + 2) (lo + 1) [(lo, lo + 1, .iface 296 (.pointer (some ⟨c, 0, none⟩))), (lo + 1, lo + 2, z)]) := (hl (lo, lo + 2, lo + 1, [(lo, lo + 1, .iface 296 (.pointer (some ⟨c, 0, none⟩))), (lo + 1, lo + 2, z)]) (by simp)).1
      have TS0 : Hid (∀ x ∈ ([(lo, lo + 1, .iface 296 (.pointer (some ⟨c, 0, none⟩))), (lo + 1, lo + 2, z)] : List Mb), TrA w P N x.1 x.2.1 x.2.2) := fun x hx => hk x (by first | exact hx | (simp [hx]; done) | (simp at hx ⊢; rcases hx with h | h <;> simp [h]))
      have OS0 : Hid (∀ x ∈ ([(lo, lo + 1, .iface 296 (.pointer (some ⟨c, 0, none⟩))), (lo + 1, lo + 2, z)] : List Mb), Ok3 N x.2.1) := (fun x hx => .inr (.inr (by simp at hx; rcases hx with rfl | rfl; exact hge.1 _ (.inl rfl); exact hge.1 _ (.inr rfl))))
      have MS0 : Hid (Mm w P [(g0b, gcs, 206)]) := fun x hx => hm x (by first | exact List.mem_cons_of_mem _ hx | (simp at hx ⊢; simp [hx]))
      have LX0 : (lo : Nat) ≤ lo + 2 := (LS0.out).le
      have BX0 : (lo + 2 : Nat) < hi + 1 := (hl (lo, lo + 2, lo + 1, [(lo, lo + 1, .iface 296 (.pointer (some ⟨c, 0, none⟩))), (lo + 1, lo + 2, z)]) (by simp)).2.2
      have TX1 : Hid (TrA w P N (lo + 2) (a) (x)) := hk (lo + 2, a, x) (by simp)
      have ZX1 : Hid ((N.getD (a) nd0).next = 0) := by
        rcases hz (lo + 2, a, x) (by simp) with h | ⟨y, h1, h2⟩
        · exact h
        · simp at h1
          have l2 := (hl (a, hi, g, ns) (by simp)).1
          have l3 := (hk (lo + 2, a, x) (by simp)).lt
          rcases h1 with h1 | h1 <;> subst h1
          · simp at h2
          · have := l2.mem _ h2
            dsimp only at this
            omega
      have GX1 : Hid (GoodE N (a) ∨ (N.getD (a) nd0).k = 17) := .inl (hge.2.1)
      have LX1 : (lo + 2 : Nat) < a := (TX1.out).lt
      have BX1 : (a : Nat) < hi + 1 := (hb (lo + 2, a, x) (by simp)).2
      have LS2 : Hid (Lst N (a) (hi) (g) ns) := (hl (a, hi, g, ns) (by simp)).1
      have TS2 : Hid (∀ x ∈ ns, TrA w P N x.1 x.2.1 x.2.2) := fun x hx => hk x (by first | exact hx | (simp [hx]; done) | (simp at hx ⊢; rcases hx with h | h <;> simp [h]))
      have OS2 : Hid (∀ x ∈ ns, Ok3 N x.2.1) := hge.2.2.mem LS2.out
      have MS2 : Hid (Mm w P m') := fun x hx => hm x (by first | exact List.mem_cons_of_mem _ hx | (simp at hx ⊢; simp [hx]))
      have LX2 : (a : Nat) ≤ hi := (LS2.out).le
      have BX2 : (hi : Nat) < hi + 1 := (hl (a, hi, g, ns) (by simp)).2.2
      have t0 := @noLocal 368 rfl
      have t1 := @noLocalFn 368 rfl
      have t2 := @noAssign 368 rfl
      have t3 := @noCallStmt 368 rfl
      have t4 := @noIf 368 rfl
      have t5 := @noWhile 368 rfl
      have t6 := @noFor 368 rfl
      have t7 := isForIn
      clear hP F hA hd hm hl hk hb hz hg hkd hB
      clear hc
      clear hst hge hb' hGb hcs
      go_enter Tryz.func163, Tryz.ntmps163
      go_wp2_with fail
      refine (posForIn bl gbl cl (by omega) (by omega) b0 gb0 c0).mono ?_
      rintro e0 w0 ⟨rfl, hw⟩
      rw [hw]
      clear hw w0
      go_wp2_with fail
      refine ((FSt.start HF.out _).ch CL hN LS0.out TS0.out OS0.out (by omega) (hs0) MS0.out hHP.out HA.out).mono ?_
      rintro e1 w1 ⟨rfl, o1, fs1⟩
      have H1 : Hid (FSt w o sb nm tk w1 o1 (A ++ fulN N lo (lo + 2)) w.heap.size _) := fs1
      have nbl := fs1.b.lt
      have nbz := fs1.b.frozen
      have n0 := fs1.b.cell 0
      have n1 := fs1.b.cell 1
      have n2 := fs1.b.cell 2
      have n3 := fs1.b.cell 3
      have n4 := fs1.b.cell 4
      have n5 := fs1.b.cell 5
      have n6 := fs1.b.cell 6
      have n7 := fs1.b.cell 7
      have bH := fs1.has hHP.out HB.out
      have b0 := bH.cell 0
      have b1 := bH.cell 1
      have b2 := bH.cell 2
      have bl := bH.lt
      simp only [Array.setIfInBounds, List.set_toArray, List.getElem?_toArray, List.getElem?_cons_succ, List.getElem?_cons_zero, List.set_cons_succ, List.set_cons_zero, List.size_toArray, List.length_cons, List.length_nil] at n0 n1 n2 n3 n4 n5 n6 n7 b0 b1 b2
      clear fs1 bH
      go_wp2_with fail
      refine ((H1.out.put 1 _ rfl).ex CE TX1.out GX1.out hHP.out (by omega) (by rw [List.length_append, fulN_len, HA.out]; omega) ZX1.out).mono ?_
      rintro e2 w2 ⟨rfl, o2, fs2⟩
      rw [List.append_assoc, ful_app (by omega) (by omega)] at fs2
      have H2 : Hid (FSt w o sb nm tk w2 o2 (A ++ fulN N lo (a)) w.heap.size _) := fs2
      have nbl := fs2.b.lt
      have nbz := fs2.b.frozen
      have n0 := fs2.b.cell 0
      have n1 := fs2.b.cell 1
      have n2 := fs2.b.cell 2
      have n3 := fs2.b.cell 3
      have n4 := fs2.b.cell 4
      have n5 := fs2.b.cell 5
      have n6 := fs2.b.cell 6
      have n7 := fs2.b.cell 7
      have bH := fs2.has hHP.out HB.out
      have b0 := bH.cell 0
      have b1 := bH.cell 1
      have b2 := bH.cell 2
      have bl := bH.lt
      simp only [Array.setIfInBounds, List.set_toArray, List.getElem?_toArray, List.getElem?_cons_succ, List.getElem?_cons_zero, List.set_cons_succ, List.set_cons_zero, List.size_toArray, List.length_cons, List.length_nil] at n0 n1 n2 n3 n4 n5 n6 n7 b0 b1 b2
      clear fs2 bH
      go_wp2_with fail
      refine ((H2.out.put 2 _ rfl).ch CL hN LS2.out TS2.out OS2.out (by omega) (HSB.out) MS2.out hHP.out (by rw [List.length_append, fulN_len, HA.out]; omega)).mono ?_
      rintro e3 w3 ⟨rfl, o3, fs3⟩
      rw [List.append_assoc, ful_app (by omega) (by omega)] at fs3
      have H3 : Hid (FSt w o sb nm tk w3 o3 (A ++ fulN N lo (hi)) w.heap.size _) := fs3
      have nbl := fs3.b.lt
      have nbz := fs3.b.frozen
      have n0 := fs3.b.cell 0
      have n1 := fs3.b.cell 1
      have n2 := fs3.b.cell 2
      have n3 := fs3.b.cell 3
      have n4 := fs3.b.cell 4
      have n5 := fs3.b.cell 5
      have n6 := fs3.b.cell 6
      have n7 := fs3.b.cell 7
      have bH := fs3.has hHP.out HB.out
      have b0 := bH.cell 0
      have b1 := bH.cell 1
      have b2 := bH.cell 2
      have bl := bH.lt
      simp only [Array.setIfInBounds, List.set_toArray, List.getElem?_toArray, List.getElem?_cons_succ, List.getElem?_cons_zero, List.set_cons_succ, List.set_cons_zero, List.size_toArray, List.length_cons, List.length_nil] at n0 n1 n2 n3 n4 n5 n6 n7 b0 b1 b2
      clear fs3 bH
      go_wp2_with fail
      refine ((H3.out.put 3 _ rfl).add (m := hi + 1) (by rw [List.length_append, fulN_len, HA.out]; omega) (by omega) ⟨9, lo + 1, a, g, 0, 0, [], p⟩).mono ?_
      rintro e9 w9 ⟨rfl, o9, sn9, q1, q2⟩
      have HQ1 : Hid (FRep w9 o9 sb nm tk sn9 _) := q1
      have HQ2 : Hid (Stp QF w o w9 o9) := q2
      clear q1 q2
      go_wp2_with fail
      go_ret
      exact LayQ.fin HA.out (by omega) HD.out HQ1.out HQ2.out
    | @ret x y p b _ a c h1 hi ks ks' hs hb' =>
      have hB : P b ∧ Has w b #[.int .i64 p, x, y] 381 := hm (b, #[.int .i64 p, x, y], 381) (by simp)
      have b0 := hB.2.cell 0
      have b1 := hB.2.cell 1
      have b2 := hB.2.cell 2
      have bl := hB.2.lt
      simp only [List.getElem?_toArray, List.getElem?_cons_succ, List.getElem?_cons_zero] at b0 b1 b2
      have HB : Hid (P b ∧ Has w b #[.int .i64 p, x, y] 381) := hB
      have hst := hg.out
      rw [HD'.out] at hst
      have hge := hst.k10 rfl
      dsimp only at hge
      have TO0 : Hid (∀ y ∈ ks, TrA w P N y.1 y.2.1 y.2.2) := fun y hy => hk y (by first | exact hy | simp [hy])
      have ZO0 : Hid (∀ y ∈ ks, (N.getD y.2.1 nd0).next = 0) := fun y hy => by
        rcases hz y (by first | exact hy | simp [hy]) with h | ⟨z, h1, h2⟩
        · exact h
        · cases h1
      have HO0 : Hid (OpM (lo) (h1) (a) (x) ks) := hs
      have GO0 : Hid (a = 0 ∨ GoodE N (a)) := hge.1
      have LX0 : (lo : Nat) ≤ h1 := HO0.out.le
      have BX0 : (h1 : Nat) ≤ hi := hb'.le
      have TO1 : Hid (∀ y ∈ ks', TrA w P N y.1 y.2.1 y.2.2) := fun y hy => hk y (by first | exact hy | simp [hy])
      have ZO1 : Hid (∀ y ∈ ks', (N.getD y.2.1 nd0).next = 0) := fun y hy => by
        rcases hz y (by first | exact hy | simp [hy]) with h | ⟨z, h1, h2⟩
        · exact h
        · cases h1
      have HO1 : Hid (OpM (h1) (hi) (c) (y) ks') := hb'
      have GO1 : Hid (c = 0 ∨ GoodE N (c)) := hge.2
      have LX1 : (h1 : Nat) ≤ hi := HO1.out.le
      have t0 := @noLocal 203 rfl
      have t1 := @noLocalFn 203 rfl
      have t2 := @noAssign 203 rfl
      have t3 := @noCallStmt 203 rfl
      have t4 := @noIf 203 rfl
      have t5 := @noWhile 203 rfl
      have t6 := @noFor 203 rfl
      have t7 := @noForIn 203 rfl
      have t8 := isReturn
      clear hP F hA hd hm hl hk hb hz hg hkd hB
      clear hst hge hs hb'
      go_enter Tryz.func163, Tryz.ntmps163
      go_wp2_with fail
      refine (posReturn bl b0).mono ?_
      rintro e0 w0 ⟨rfl, hw⟩
      rw [hw]
      clear hw w0
      go_wp2_with fail
      refine ((FSt.start HF.out _).op CE HO0.out TO0.out GO0.out ZO0.out hHP.out (by omega) HA.out).mono ?_
      rintro e1 w1 ⟨rfl, o1, fs1⟩
      have H1 : Hid (FSt w o sb nm tk w1 o1 (A ++ fulN N lo (h1)) w.heap.size _) := fs1
      have nbl := fs1.b.lt
      have nbz := fs1.b.frozen
      have n0 := fs1.b.cell 0
      have n1 := fs1.b.cell 1
      have n2 := fs1.b.cell 2
      have n3 := fs1.b.cell 3
      have n4 := fs1.b.cell 4
      have n5 := fs1.b.cell 5
      have n6 := fs1.b.cell 6
      have n7 := fs1.b.cell 7
      have bH := fs1.has hHP.out HB.out
      have b0 := bH.cell 0
      have b1 := bH.cell 1
      have b2 := bH.cell 2
      have bl := bH.lt
      simp only [Array.setIfInBounds, List.set_toArray, List.getElem?_toArray, List.getElem?_cons_succ, List.getElem?_cons_zero, List.set_cons_succ, List.set_cons_zero, List.size_toArray, List.length_cons, List.length_nil] at n0 n1 n2 n3 n4 n5 n6 n7 b0 b1 b2
      clear fs1 bH
      go_wp2_with fail
      refine ((H1.out.put 1 _ rfl).op CE HO1.out TO1.out GO1.out ZO1.out hHP.out (by omega) (by rw [List.length_append, fulN_len, HA.out]; omega)).mono ?_
      rintro e2 w2 ⟨rfl, o2, fs2⟩
      rw [List.append_assoc, ful_app (by omega) (by omega)] at fs2
      have H2 : Hid (FSt w o sb nm tk w2 o2 (A ++ fulN N lo (hi)) w.heap.size _) := fs2
      have nbl := fs2.b.lt
      have nbz := fs2.b.frozen
      have n0 := fs2.b.cell 0
      have n1 := fs2.b.cell 1
      have n2 := fs2.b.cell 2
      have n3 := fs2.b.cell 3
      have n4 := fs2.b.cell 4
      have n5 := fs2.b.cell 5
      have n6 := fs2.b.cell 6
      have n7 := fs2.b.cell 7
      have bH := fs2.has hHP.out HB.out
      have b0 := bH.cell 0
      have b1 := bH.cell 1
      have b2 := bH.cell 2
      have bl := bH.lt
      simp only [Array.setIfInBounds, List.set_toArray, List.getElem?_toArray, List.getElem?_cons_succ, List.getElem?_cons_zero, List.set_cons_succ, List.set_cons_zero, List.size_toArray, List.length_cons, List.length_nil] at n0 n1 n2 n3 n4 n5 n6 n7 b0 b1 b2
      clear fs2 bH
      go_wp2_with fail
      refine ((H2.out.put 2 _ rfl).add (m := hi + 1) (by rw [List.length_append, fulN_len, HA.out]; omega) (by omega) ⟨10, a, c, 0, 0, 0, [], p⟩).mono ?_
      rintro e9 w9 ⟨rfl, o9, sn9, q1, q2⟩
      have HQ1 : Hid (FRep w9 o9 sb nm tk sn9 _) := q1
      have HQ2 : Hid (Stp QF w o w9 o9) := q2
      clear q1 q2
      go_wp2_with fail
      go_ret
      exact LayQ.fin HA.out (by omega) HD.out HQ1.out HQ2.out
    | @brk p b _ =>
      have hB : P b ∧ Has w b #[.int .i64 p] 288 := hm (b, #[.int .i64 p], 288) (by simp)
      have b0 := hB.2.cell 0
      have bl := hB.2.lt
      simp only [List.getElem?_toArray, List.getElem?_cons_succ, List.getElem?_cons_zero] at b0
      have HB : Hid (P b ∧ Has w b #[.int .i64 p] 288) := hB
      have t0 := @noLocal 204 rfl
      have t1 := @noLocalFn 204 rfl
      have t2 := @noAssign 204 rfl
      have t3 := @noCallStmt 204 rfl
      have t4 := @noIf 204 rfl
      have t5 := @noWhile 204 rfl
      have t6 := @noFor 204 rfl
      have t7 := @noForIn 204 rfl
      have t8 := @noReturn 204 rfl
      have t9 := isBreak
      clear hP F hA hd hm hl hk hb hz hg hkd hB
      go_enter Tryz.func163, Tryz.ntmps163
      go_wp2_with fail
      refine (posBreak bl b0).mono ?_
      rintro e0 w0 ⟨rfl, hw⟩
      rw [hw]
      clear hw w0
      go_wp2_with fail
      refine ((FSt.start HF.out _).add (m := lo + 1) HA.out (by omega) ⟨11, 0, 0, 0, 0, 0, [], p⟩).mono ?_
      rintro e9 w9 ⟨rfl, o9, sn9, q1, q2⟩
      have HQ1 : Hid (FRep w9 o9 sb nm tk sn9 _) := q1
      have HQ2 : Hid (Stp QF w o w9 o9) := q2
      clear q1 q2
      go_wp2_with fail
      go_ret
      have q1 := HQ1.out
      have FI := LayQ.fin (n := lo) HA.out (Nat.le_refl _) HD.out (by rw [fulN_self, List.append_nil]; exact q1) HQ2.out
      exact FI
    | _ =>
      exfalso
      have := hg.out.k
      rw [hkd] at this
      dsimp only at this
      omega
end
end Go.Proofs.Qxb6500574aGreatDoor
