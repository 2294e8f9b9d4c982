/-
  THE WALK of the parser layer: Check.
-/
import Derived.Test.Qxb6500574aGreatDoorWPs1
namespace Go.Proofs.Qxb6500574aGreatDoor
open Go Go.RowKit
set_option linter.unusedVariables false
set_option linter.unusedSimpArgs false
open Go.Lib
section
set_option maxRecDepth 100000
set_option maxHeartbeats 2000000
variable {w : World} {o : Nat → Nat} {sx : Nat} {num : Value} {T : List Tok} {A : List Nd}
theorem max4 {P : Program} {ts : Array TypeId} {t : TypeId} (w : World) (a b c : Nat) : (Builtin.max_ ts t #[.int .i64 (a : Nat), .int .i64 (b : Nat), .int .i64 (c : Nat), .int .i64 0]).run P w = .ok (.int .i64 ((max (max a b) c : Nat) : Int)) w := by
  have e : (if (0 : Int) > (if (c : Int) > (if (b : Int) > (a : Int) then (b : Int) else a) then (c : Int) else (if (b : Int) > (a : Int) then (b : Int) else a)) then (0 : Int) else (if (c : Int) > (if (b : Int) > (a : Int) then (b : Int) else a) then (c : Int) else (if (b : Int) > (a : Int) then (b : Int) else a))) = ((max (max a b) c : Nat) : Int) := by
    split <;> split <;> (try split) <;> omega
  rw [← e]
  simp [Builtin.max_, Builtin.max2]
theorem max2q {P : Program} {ts : Array TypeId} {t : TypeId} (w : World) (q : Nat) : (Builtin.max_ ts t #[.int .i64 ((q : Int) - 1), .int .i64 0]).run P w = .ok (.int .i64 ((q - 1 : Nat) : Int)) w := by
  have e : (if (0 : Int) > (q : Int) - 1 then (0 : Int) else (q : Int) - 1) = ((q - 1 : Nat) : Int) := by split <;> omega
  rw [← e]
  simp [Builtin.max_, Builtin.max2]
/-- a round's state: nothing has turned -/
def ScI (w : World) (o : Nat → Nat) (L g : Nat) (v : Value) (w1 : World) : Prop := ∃ i, i + g = L ∧ v = .int .i64 (i : Nat) ∧ Stp (fun _ => False) w o w1 o
theorem scheck_any (S : SyRep w o sx num T A) (K : SyOk T A) : Calls Tryz.prog 34 #[.pointer (some ⟨sx, 0, none⟩)] w fun e w' => e = .returned (.bool true) ∧ Stp (fun _ => False) w o w' o := by
  obtain ⟨sl, sn, hB, hR, hN⟩ := S.ex
  have HK : Hid (SyOk T A) := K
  have HB : Hid (Blk w o 1040 sx #[num, sl.v T.length, sn.v A.length] 81) := hB
  have HR : Hid (Row w o 1041 132 5 sl T.length (T.flatMap tokC)) := hR
  have HN : Hid (Row w o 1042 134 8 sn A.length (A.flatMap ndV)) := hN
  have hTl : T.length ≤ 2049 := by
    rcases K.t with h | h
    · rw [h]; exact Nat.zero_le _
    · exact h.len
  have hAl := K.la
  have hl := hB.has.lt
  have c1 := hB.has.cell 1
  have c2 := hB.has.cell 2
  simp only [List.getElem?_toArray, List.getElem?_cons_succ, List.getElem?_cons_zero, Sl.v] at c1 c2
  obtain ⟨tl, HTL⟩ : ∃ tl, Hid (T.length = tl) := ⟨_, rfl⟩
  obtain ⟨al, HAL⟩ : ∃ al, Hid (A.length = al) := ⟨_, rfl⟩
  rw [HTL.out] at hTl c1
  rw [HAL.out] at hAl c2
  have e1 : decide ((2049 : Int) < (tl : Int)) = false := decide_eq_false (by omega)
  have e1' : decide (2049 < tl) = false := decide_eq_false (by omega)
  have e2 : decide ((2049 : Int) < (al : Int)) = false := decide_eq_false (by omega)
  have e2' : decide (2049 < al) = false := decide_eq_false (by omega)
  have HS0 : Hid (ScI w o tl tl (.int .i64 0) w) := ⟨0, by omega, rfl, Stp.refl _ _ _⟩
  clear hB hR hN S K
  go_enter Tryz.func34, Tryz.ntmps34
  go_wp2_with fail
  go_loopg [27] tl (fun g v27 w1 => Hid (ScI w o tl g v27 w1))
  case atStart => exact HS0
  case round =>
    obtain ⟨i, hi, rfl, hst⟩ := hrel.out
    have HST : Hid (Stp (fun _ => False) w o wr o) := hst
    have hB1 := HB.out.st hst (fun h => h)
    have d1 := hB1.has.cell 1
    have d2 := hB1.has.cell 2
    have dl := hB1.has.lt
    rw [HTL.out] at d1
    rw [HAL.out] at d2
    simp only [List.getElem?_toArray, List.getElem?_cons_succ, List.getElem?_cons_zero, Sl.v] at d1 d2
    clear hrel hst HS0 hB1
    by_cases hlt : i < tl
    · have e3 : decide (i < tl) = true := decide_eq_true hlt
      obtain ⟨t, ht⟩ : ∃ t, T[i]? = some t := ⟨_, List.getElem?_eq_getElem (by rw [HTL.out]; exact hlt)⟩
      obtain ⟨g, g1, g2, g3, g4, g5, g6⟩ := (HR.out.st HST.out (fun h => h)).at tokC_len ht
      have f0 := g5 0 (by decide)
      have f1 := g5 1 (by decide)
      have f2 := g5 2 (by decide)
      have f3 := g5 3 (by decide)
      have f4 := g5 4 (by decide)
      simp only [tokC, List.getElem?_cons_succ, List.getElem?_cons_zero, Nat.add_zero] at f0 f1 f2 f3 f4
      rw [HTL.out] at g2
      simp only [g1] at d1
      have hTK : TkA T 2048 0 := by
        rcases HK.out.t with h | h
        · rw [h] at ht; simp at ht
        · exact h
      have htd : T.getD i tok0 = t := by rw [List.getD_eq_getElem?_getD, ht]; rfl
      obtain ⟨k1, k2, k3, k4, k5, k6, k7⟩ := hTK.all i (by rw [HTL.out]; exact hlt)
      rw [htd] at k1 k2 k3 k4 k5 k6 k7
      rw [HTL.out] at k1
      have h9 : decide ((t.k : Int) < 0) = false := decide_eq_false (by omega)
      have h10 : decide ((46 : Int) < (t.k : Int)) = false := decide_eq_false (by omega)
      have h11 : decide ((t.p : Int) < (i : Int)) = false := decide_eq_false (by omega)
      have h11' : decide (t.p < i) = false := decide_eq_false (by omega)
      have h12 : decide ((2048 : Int) < (t.p : Int)) = false := decide_eq_false (by omega)
      have HPR : Hid (0 < i → ∃ t', T[i - 1]? = some t' ∧ t'.p < t.p) := fun h => by
        have h1 := k7 h
        refine ⟨_, List.getElem?_eq_getElem (by rw [HTL.out]; omega), ?_⟩
        rw [List.getD_eq_getElem?_getD, List.getElem?_eq_getElem (by rw [HTL.out]; omega)] at h1
        exact h1
      have HROW : Hid (Row wr o 1041 132 5 sl T.length (T.flatMap tokC)) := HR.out.st HST.out (fun h => h)
      have hg1 : Hid (sl.a = some ⟨g, 0, none⟩) := g1
      have cases3 : (i + 1 < tl ∧ t.k ≠ 0 ∧ t.k ≠ 1 ∧ t.e = 0) ∨ (i + 1 = tl ∧ t.k = 0 ∧ t.e = 0) ∨ (i + 1 = tl ∧ t.k = 1 ∧ t.e ≠ 0) := by omega
      have H3 : Hid ((i + 1 < tl ∧ t.k ≠ 0 ∧ t.k ≠ 1 ∧ t.e = 0) ∨ (i + 1 = tl ∧ t.k = 0 ∧ t.e = 0) ∨ (i + 1 = tl ∧ t.k = 1 ∧ t.e ≠ 0)) := cases3
      clear g5 g6 k1 k5 k7 cases3 htd ht hTK
      have ha0 : ((i : Int) == (tl : Int) - 1) = decide (i + 1 = tl) := by
        rw [Bool.eq_iff_iff]
        simp
        omega
      have ha1 : ((t.k : Int) == 0) = decide (t.k = 0) := by
        rw [Bool.eq_iff_iff]
        simp
      have ha2 : ((t.k : Int) == 1) = decide (t.k = 1) := by
        rw [Bool.eq_iff_iff]
        simp
        omega
      have ha3 : ((t.e : Int) != 0) = decide (t.e ≠ 0) := by
        rw [Bool.eq_iff_iff]
        simp
      have hN0 : ((tl : Int) - 1 = ((tl - 1 : Nat) : Int)) := by omega
      by_cases hi0 : i = 0
      · have hip : decide (0 < i) = false := decide_eq_false (by omega)
        have HI0 : Hid (i = 0) := hi0
        clear hi0 hN0
        rcases H3.out with ⟨x1, x2, x3, x4⟩ | ⟨x1, x2, x3⟩ | ⟨x1, x2, x3⟩
        case' inl =>
          rw [show decide (i + 1 = tl) = false from decide_eq_false (by omega)] at ha0
          rw [show decide (t.k = 0) = false from decide_eq_false x2] at ha1
          rw [show decide (t.k = 1) = false from decide_eq_false x3] at ha2
          rw [show decide (t.e ≠ 0) = false from decide_eq_false (by omega)] at ha3
          clear x1 x2 x3 x4
        case' inr.inl =>
          rw [show decide (t.k = 0) = true from decide_eq_true x2] at ha1
          rw [show decide (t.k = 1) = false from decide_eq_false (by omega)] at ha2
          rw [show decide (t.e ≠ 0) = false from decide_eq_false (by omega)] at ha3
          have hxx : (tl : Int) - 1 = ((i : Nat) : Int) := by omega
          clear x1 x2 x3 ha0
        case' inr.inr =>
          rw [show decide (t.k = 0) = false from decide_eq_false (by omega)] at ha1
          rw [show decide (t.k = 1) = true from decide_eq_true x2] at ha2
          rw [show decide (t.e ≠ 0) = true from decide_eq_true x3] at ha3
          have hxx : (tl : Int) - 1 = ((i : Nat) : Int) := by omega
          clear x1 x2 x3 ha0
        all_goals
          go_wp2_with fail
          refine wp_region_all 16 rfl (by kernel_rfl) (by kernel_rfl) (fun _ _ _ _ _ h => h) ?_
          repeat go_big_quiet_step (fail)
          refine wpQuiet_nil ?_
          go_wp2_with fail
          obtain ⟨g0, HG0⟩ : ∃ g0, Hid (gk = g0 + 1) := ⟨gk - 1, by show gk = _; omega⟩
          go_roundg g0
          case measure => have := HG0.out; omega
          case rel =>
            have := HG0.out
            exact ⟨i + 1, by omega, by simp, (HST.out.alloc _).drew⟩
      · have hip : decide (0 < i) = true := decide_eq_true (by omega)
        obtain ⟨t', ht', hp'⟩ := HPR.out (by omega)
        obtain ⟨g', g1', _, _, _, g5', _⟩ := HROW.out.at tokC_len ht'
        have hgg : g' = g := by
          have := g1'.symm.trans hg1.out
          simpa using this
        subst hgg
        have f1' := g5' 1 (by decide)
        simp only [tokC, List.getElem?_cons_succ, List.getElem?_cons_zero, Nat.add_zero] at f1'
        have h13 : decide ((t.p : Int) ≤ (t'.p : Int)) = false := decide_eq_false (by omega)
        have h13' : decide (t.p ≤ t'.p) = false := decide_eq_false (by omega)
        obtain ⟨i', rfl⟩ : ∃ i', i = i' + 1 := ⟨i - 1, by omega⟩
        simp only [Nat.add_sub_cancel] at f1'
        clear g5' ht' hp' hi0 hN0
        rcases H3.out with ⟨x1, x2, x3, x4⟩ | ⟨x1, x2, x3⟩ | ⟨x1, x2, x3⟩
        case' inl =>
          rw [show decide (i' + 1 + 1 = tl) = false from decide_eq_false (by omega)] at ha0
          have ha0'' : (((i' : Int) + 1) == (tl : Int) - 1) = false := by
            rw [← ha0]
            simp
          rw [show decide (t.k = 0) = false from decide_eq_false x2] at ha1
          rw [show decide (t.k = 1) = false from decide_eq_false x3] at ha2
          rw [show decide (t.e ≠ 0) = false from decide_eq_false (by omega)] at ha3
          clear x1 x2 x3 x4
        case' inr.inl =>
          rw [show decide (t.k = 0) = true from decide_eq_true x2] at ha1
          rw [show decide (t.k = 1) = false from decide_eq_false (by omega)] at ha2
          rw [show decide (t.e ≠ 0) = false from decide_eq_false (by omega)] at ha3
          have hxx : (tl : Int) - 1 = ((i' + 1 : Nat) : Int) := by omega
          clear x1 x2 x3 ha0
        case' inr.inr =>
          rw [show decide (t.k = 0) = false from decide_eq_false (by omega)] at ha1
          rw [show decide (t.k = 1) = true from decide_eq_true x2] at ha2
          rw [show decide (t.e ≠ 0) = true from decide_eq_true x3] at ha3
          have hxx : (tl : Int) - 1 = ((i' + 1 : Nat) : Int) := by omega
          clear x1 x2 x3 ha0
        all_goals
          go_wp2_with fail
          refine wp_region_all 16 rfl (by kernel_rfl) (by kernel_rfl) (fun _ _ _ _ _ h => h) ?_
          repeat go_big_quiet_step (fail)
          refine wpQuiet_nil ?_
          go_wp2_with fail
          obtain ⟨g0, HG0⟩ : ∃ g0, Hid (gk = g0 + 1) := ⟨gk - 1, by show gk = _; omega⟩
          rw [← g1]
          go_roundg g0
          case measure => have := HG0.out; omega
          case rel =>
            have := HG0.out
            exact ⟨i' + 1 + 1, by omega, by simp, (HST.out.alloc _).drew⟩
    · have e3 : decide (i < tl) = false := decide_eq_false hlt
      clear hlt
      have HS1 : Hid (ScI w o al al (.int .i64 0) wr) := ⟨0, by omega, rfl, HST.out⟩
      go_wp2_with fail
      clear HST
      go_loopg [100] al (fun g v100 w1 => Hid (ScI w o al g v100 w1))
      case atStart => exact HS1
      case round =>
        obtain ⟨q, hq, rfl, hst2⟩ := hrel.out
        have HST : Hid (Stp (fun _ => False) w o wr o) := hst2
        have hB2 := HB.out.st hst2 (fun h => h)
        have p2 := hB2.has.cell 2
        have pl := hB2.has.lt
        rw [HAL.out] at p2
        simp only [List.getElem?_toArray, List.getElem?_cons_succ, List.getElem?_cons_zero, Sl.v] at p2
        clear hrel hst2 HS1 hB2
        by_cases hlt : q < al
        · have e5 : decide (q < al) = true := decide_eq_true hlt
          obtain ⟨d, hd⟩ : ∃ d, A[q]? = some d := ⟨_, List.getElem?_eq_getElem (by rw [HAL.out]; exact hlt)⟩
          obtain ⟨g, g1, g2, g3, g4, g5, g6⟩ := (HN.out.st HST.out (fun h => h)).at ndV_len hd
          have f0 := g5 0 (by decide)
          have f1 := g5 1 (by decide)
          have f2 := g5 2 (by decide)
          have f3 := g5 3 (by decide)
          have f4 := g5 4 (by decide)
          have f5 := g5 5 (by decide)
          have f6 := g5 6 (by decide)
          have f7 := g5 7 (by decide)
          simp only [ndV, List.getElem?_cons_succ, List.getElem?_cons_zero, Nat.add_zero] at f0 f1 f2 f3 f4 f5 f6 f7
          rw [HAL.out] at g2
          simp only [g1] at p2
          have hAK : NK A ∧ A.getD 0 nd0 = nd0 := by
            rcases HK.out.a with h | h
            · rw [h] at hd; simp at hd
            · exact h
          have hdd : A.getD q nd0 = d := by rw [List.getD_eq_getElem?_getD, hd]; rfl
          obtain ⟨k1, k2, k3, k4⟩ := hAK.1.all q (by rw [HAL.out]; exact hlt)
          rw [hdd] at k1 k2 k3 k4
          rw [HAL.out] at k4
          have HK4 : Hid (d.next = 0 ∨ (q < d.next ∧ d.next < al)) := k4
          have HD0 : Hid (q = 0 → d = nd0) := fun h => by
            rw [← hdd, h]
            exact hAK.2
          clear g5 g6 k4 hdd hd hAK
          have hm4 : ∀ W, (Builtin.max_ #[3, 3, 3, 3] 3 #[.int .i64 (d.a : Nat), .int .i64 (d.b : Nat), .int .i64 (d.c : Nat), .int .i64 0]).run Tryz.prog W = .ok (.int .i64 ((max (max d.a d.b) d.c : Nat) : Int)) W := fun W => max4 W d.a d.b d.c
          have hm2 : ∀ W, (Builtin.max_ #[3, 3] 3 #[.int .i64 ((q : Int) - 1), .int .i64 0]).run Tryz.prog W = .ok (.int .i64 ((q - 1 : Nat) : Int)) W := fun W => max2q W q
          obtain ⟨mx, HMX⟩ : ∃ mx, Hid (max (max d.a d.b) d.c = mx) := ⟨_, rfl⟩
          have hmx : mx ≤ q - 1 := by rw [← HMX.out]; omega
          rw [HMX.out] at hm4
          have e6 : decide (((q - 1 : Nat) : Int) < (mx : Int)) = false := decide_eq_false (by omega)
          have e6' : decide (q - 1 < mx) = false := decide_eq_false (by omega)
          by_cases hq0 : q = 0
          · have HQ0 : Hid (q = 0) := hq0
            have hd0 := HD0.out hq0
            subst hd0
            have hn0 : ((nd0.next : Int) != 0) = false := by decide
            have hqe : ((q : Int) == 0) = true := by simp; omega
            have hqe' : decide (q = 0) = true := decide_eq_true hq0
            have hne : ∀ W, (binOp .neq 134 (.agg #[.int .i64 (nd0.k : Nat), .int .i64 (nd0.a : Nat), .int .i64 (nd0.b : Nat), .int .i64 (nd0.c : Nat), .int .i64 (nd0.next : Nat), .int .u64 (nd0.n : Nat), sv nd0.s, .int .i64 (nd0.p : Nat)]) (.agg #[.int .i64 0, .int .i64 0, .int .i64 0, .int .i64 0, .int .i64 0, .int .u64 0, .string ⟨#[]⟩, .int .i64 0])).run Tryz.prog W = .ok (.bool false) W := fun W => by kernel_rfl
            clear hq0
            go_wp2_with fail
            refine wp_region_all 19 rfl (by kernel_rfl) (by kernel_rfl) (fun _ _ _ _ _ h => h) ?_
            repeat go_big_quiet_step (fail)
            refine wpQuiet_nil ?_
            go_wp2_with fail
            obtain ⟨g0, HG0⟩ : ∃ g0, Hid (gk = g0 + 1) := ⟨gk - 1, by show gk = _; omega⟩
            rw [← g1]
            go_roundg g0
            case measure => have := HG0.out; omega
            case rel =>
              have := HG0.out
              exact ⟨q + 1, by omega, by simp, (HST.out.alloc _).drew⟩
          · have hqe : ((q : Int) == 0) = false := by simp; omega
            have hqe' : decide (q = 0) = false := decide_eq_false hq0
            rcases HK4.out with hn0 | ⟨hn1, hn2⟩
            case' inl =>
              have hne0 : ((d.next : Int) != 0) = false := by rw [hn0]; rfl
              clear hn0
            case' inr =>
              have hne0 : ((d.next : Int) != 0) = true := by simp; omega
              have hle0 : decide ((d.next : Int) ≤ (q : Int)) = false := decide_eq_false (by omega)
              have hle0' : decide (d.next ≤ q) = false := decide_eq_false (by omega)
              have hge0 : decide ((al : Int) ≤ (d.next : Int)) = false := decide_eq_false (by omega)
              have hge0' : decide (al ≤ d.next) = false := decide_eq_false (by omega)
              clear hn1 hn2
            all_goals
              go_wp2_with fail
              refine wp_region_all 19 rfl (by kernel_rfl) (by kernel_rfl) (fun _ _ _ _ _ h => h) ?_
              repeat go_big_quiet_step (fail)
              refine wpQuiet_nil ?_
              go_wp2_with fail
              obtain ⟨g0, HG0⟩ : ∃ g0, Hid (gk = g0 + 1) := ⟨gk - 1, by show gk = _; omega⟩
              rw [← g1]
              go_roundg g0
              case measure => have := HG0.out; omega
              case rel =>
                have := HG0.out
                exact ⟨q + 1, by omega, by simp, (HST.out.alloc _).drew⟩
        · have e5 : decide (q < al) = false := decide_eq_false hlt
          clear hlt
          go_wp2_with fail
          go_ret
          exact ⟨rfl, HST.out⟩
end
end Go.Proofs.Qxb6500574aGreatDoor
