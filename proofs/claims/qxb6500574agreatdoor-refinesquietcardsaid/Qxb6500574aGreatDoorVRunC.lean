/-
  THE WALKS of co: Left, Run; of vm: Out.
-/
import Derived.Test.Qxb6500574aGreatDoorVCo2
import Derived.Test.Qxb6500574aGreatDoorVCoD
import Derived.Test.Qxb6500574aGreatDoorVLoad
import Derived.Test.Qxb6500574aGreatDoorVUtoa
namespace Go.Proofs.Qxb6500574aGreatDoor
open Go Go.RowKit
set_option linter.unusedVariables false
set_option linter.unusedSimpArgs false
theorem drew_set (w : World) (p : Addr) (u : Value) : (w.setCell p u).drew = w.drew.setCell p u := rfl
theorem coRun_all (bc : Nat) (n : Nat) : CoW bc n := by
  induction n using Nat.strongRecOn with
  | _ n ih => exact coRun_any ih
abbrev anCells (a : AnD) : Array Value := #[.int .i64 a.e, .int .i64 a.n, .int .i64 a.m, sv a.s, sv a.t]
/-- between two runs -/
structure Idle (bc : Nat) (w : World) (A : VL) : Prop where
  st : ∃ m f e s, VRep w A m f e ∧ Has w bc #[.pointer (some ⟨A.b, 0, none⟩), .int .i64 s, .int .i64 0] 93 ∧ DI ⟨m, f, e⟩ ∧ 0 ≤ s ∧ s < 5
  o : A.o bc = 0
section
variable {w : World} {A : VL} {m : VMD} {f e bc : Nat}
set_option maxRecDepth 100000
set_option maxHeartbeats 1000000
theorem out_any (h : VRep w A m f e) : Calls Tryz.prog 56 #[.pointer (some ⟨A.b, 0, none⟩)] w fun e' w' => e' = .returned (sv m.out) ∧ w' = w := by
  have d := h.cell0 11
  have dl := h.bl
  simp only [vmCells, List.getElem?_toArray, List.getElem?_cons_succ, List.getElem?_cons_zero, Sl.v] at d
  have hcv : (convert 49 9 (.slice A.C.out.a m.out.length A.C.out.c)).run Tryz.prog w = .ok (sv m.out) w := by
    refine conv_text A.C.out.a A.C.out.c m.out (fun h0 => ?_)
    obtain ⟨g, u1, _, _, _, u5, _⟩ := h.core.out.at bCells_len (j := 0) (List.getElem?_eq_getElem h0)
    refine ⟨_, u1, fun j hj => ?_⟩
    obtain ⟨g2, v1, _, _, _, v5, _⟩ := h.core.out.at bCells_len (j := j) (List.getElem?_eq_getElem hj)
    rw [u1] at v1
    cases v1
    have := v5 0 (by omega)
    rw [addr_lit, Nat.zero_add]
    rw [Nat.mul_one, Nat.add_zero] at this
    rw [this]
    rfl
  clear h
  go_enter Tryz.func56, Tryz.ntmps56
  go_wp2_with fail
  go_ret
  exact ⟨rfl, rfl⟩
theorem left_any {v : Value} {s : Int} (h : Has w bc #[v, .int .i64 s, .int .i64 0] 93) : Calls Tryz.prog 33 #[.pointer (some ⟨bc, 0, none⟩)] w fun e' w' => e' = .returned (.int .i64 0) ∧ w' = w := by
  have d := h.cell 2
  have dl := h.lt
  simp only [List.getElem?_toArray, List.getElem?_cons_succ, List.getElem?_cons_zero] at d
  clear h
  go_enter Tryz.func33, Tryz.ntmps33
  go_wp2_with fail
  go_ret
  exact ⟨rfl, rfl⟩
/-- a run's end -/
def RnPost (bc : Nat) (w : World) (A : VL) (an : AnD) (e' : Ending) (w' : World) : Prop := e' = .returned (.agg (anCells an)) ∧ ∃ A', Idle bc w' A' ∧ CSt bc w A w' A'
theorem runC_any (I : Idle bc w A) {s : Bs} {fuel : Int} (hf1 : fuel ≤ 9223372036854775807) {n : Nat} {an : AnD} (hr : runN n s fuel = some an) :
    Calls Tryz.prog 32 #[.pointer (some ⟨bc, 0, none⟩), sv s, .int .i64 fuel] w (RnPost bc w A an) := by
  obtain ⟨⟨m, f, e, s0, R, hc, _, _, _⟩, oc⟩ := I
  have c0 := hc.cell 0
  have c1 := hc.cell 1
  have z1 := hc.frozen 1
  have cl := hc.lt
  simp only [List.getElem?_toArray, List.getElem?_cons_succ, List.getElem?_cons_zero] at c0 c1
  obtain ⟨W1, HW1⟩ : ∃ W, Hid ((w.alloc (.cells #[.int .i64 0, .int .i64 0, .int .i64 0, sv [], sv []] 54)).setCell ⟨bc, 1, none⟩ (.int .i64 0) = W) := ⟨_, Eq.refl _⟩
  have e1 : (w.alloc (.cells #[.int .i64 0, .int .i64 0, .int .i64 0, sv [], sv []] 54)).setCell ⟨bc, 1, none⟩ (.int .i64 0) = W1 := HW1.out
  obtain ⟨ba, HBA⟩ : ∃ b, Hid (w.heap.size = b) := ⟨_, rfl⟩
  have hb : w.heap.size = ba := HBA.out
  have nab : ba ≠ bc := by omega
  have fa : Fr (fun _ => False) w (w.alloc (.cells #[.int .i64 0, .int .i64 0, .int .i64 0, sv [], sv []] 54)) := (Fr.refl _ _).alloc _
  have z : Stp (fun l => l = 0) _ A.o _ A.o := (Stp.refl _ (w.alloc (.cells #[.int .i64 0, .int .i64 0, .int .i64 0, sv [], sv []] 54)) A.o).setCell (p := ⟨bc, 1, none⟩) oc (.int .i64 0)
  have R1 := (R.fresh fa).zero z
  have C1 := (CSt.fresh (bc := bc) (A := A) fa).set (p := ⟨bc, 1, none⟩) (.inl rfl) (.int .i64 0)
  have hc1 := (hc.fr fa (fun x => x)).put 1 (.int .i64 0)
  simp only [List.setIfInBounds_toArray, List.set_cons_succ, List.set_cons_zero] at hc1
  have ha1 : Has _ ba #[.int .i64 0, .int .i64 0, .int .i64 0, sv [], sv []] 54 := (Has.newC w _ _ hb.symm).other (p := ⟨bc, 1, none⟩) nab (.int .i64 0)
  have oa : A.o ba = 0 := R.own _ (by omega)
  rw [HW1.out] at R1 C1 hc1 ha1
  have LD := load_any (s := s) R1 fuel hf1
  have k0 := hc1.cell 0
  have kl := hc1.lt
  simp only [List.getElem?_toArray, List.getElem?_cons_zero] at k0
  have H1 : Hid (CSt bc w A W1 A ∧ Has W1 bc #[.pointer (some ⟨A.b, 0, none⟩), .int .i64 0, .int .i64 0] 93 ∧ Has W1 ba #[.int .i64 0, .int .i64 0, .int .i64 0, sv [], sv []] 54) := ⟨C1, hc1, ha1⟩
  have HWA : Hid (w.heap.size ≤ ba) := by rw [← HBA.out]; exact Nat.le_refl _
  have HRN : Hid (runN n s fuel = some an) := hr
  clear R hc R1 C1 hc1 ha1 fa z hr hb
  go_enter Tryz.func32, Tryz.ntmps32
  go_wp2_with fail
  rw [HBA.out]
  refine LD.mono ?_
  rintro e' w2 ⟨A2, m2, f2, e2, R2, S2, hcase⟩
  clear LD c0 c1 z1 cl e1 HW1 k0 kl
  have b2 := S2.b
  obtain ⟨hc2, oc2⟩ := S2.keep0 notVM0 H1.out.2.1 oc
  obtain ⟨ha2, oa2⟩ := S2.keep0 notVM0 H1.out.2.2 oa
  have C2 := H1.out.1.trans (CSt.of (bc := bc) S2)
  -- the answer is written
  have PUT : Hid (∀ (w9 : World) (A9 : VL) m9 f9 e9 (st : Nat), DI ⟨m9, f9, e9⟩ ∧ st < 5 → VRep w9 A9 m9 f9 e9 → CSt bc w A w9 A9 → Has w9 bc #[.pointer (some ⟨A.b, 0, none⟩), .int .i64 st, .int .i64 0] 93 → A9.o bc = 0 → Has w9 ba #[.int .i64 0, .int .i64 0, .int .i64 0, sv [], sv []] 54 → A9.o ba = 0 → ∀ e1 n1 m1 : Nat, ∀ s1 t1 : Bs, an = ⟨e1, n1, m1, s1, t1⟩ →
      RnPost bc w A an (.returned (.agg #[.int .i64 e1, .int .i64 n1, .int .i64 m1, sv s1, sv t1])) (((((w9.setCell ⟨ba, 0, none⟩ (.int .i64 e1)).setCell ⟨ba, 1, none⟩ (.int .i64 n1)).setCell ⟨ba, 2, none⟩ (.int .i64 m1)).setCell ⟨ba, 3, none⟩ (sv s1)).setCell ⟨ba, 4, none⟩ (sv t1)) ∧
      Has (((((w9.setCell ⟨ba, 0, none⟩ (.int .i64 e1)).setCell ⟨ba, 1, none⟩ (.int .i64 n1)).setCell ⟨ba, 2, none⟩ (.int .i64 m1)).setCell ⟨ba, 3, none⟩ (sv s1)).setCell ⟨ba, 4, none⟩ (sv t1)) ba #[.int .i64 e1, .int .i64 n1, .int .i64 m1, sv s1, sv t1] 54) := by
    intro w9 A9 m9 f9 e9 st hdi r9 c9 hc9 oc9 ha9 oa9 e1 n1 m1 s1 t1 han
    subst han
    have kk : ∀ {w1 : World} {j : Nat} {u : Value}, Stp (fun l => l = 0) w9 A9.o w1 A9.o → Stp (fun l => l = 0) w9 A9.o (w1.setCell ⟨ba, j, none⟩ u) A9.o := fun s => s.setCell (p := ⟨ba, _, none⟩) oa9 _
    refine ⟨⟨rfl, A9, ⟨⟨m9, f9, e9, st, r9.zero (kk (kk (kk (kk (kk (Stp.refl _ _ _)))))), ?_, hdi.1, by omega, by have := hdi.2; omega⟩, oc9⟩, ?_⟩, ?_⟩
    · rw [c9.b]
      exact ((((hc9.other (p := ⟨ba, 0, none⟩) (Ne.symm nab) _).other (p := ⟨ba, 1, none⟩) (Ne.symm nab) _).other (p := ⟨ba, 2, none⟩) (Ne.symm nab) _).other (p := ⟨ba, 3, none⟩) (Ne.symm nab) _).other (p := ⟨ba, 4, none⟩) (Ne.symm nab) _
    · exact ((((c9.set (p := ⟨ba, 0, none⟩) (.inr HWA.out) _).set (p := ⟨ba, 1, none⟩) (.inr HWA.out) _).set (p := ⟨ba, 2, none⟩) (.inr HWA.out) _).set (p := ⟨ba, 3, none⟩) (.inr HWA.out) _).set (p := ⟨ba, 4, none⟩) (.inr HWA.out) _
    · have := ((((ha9.put 0 (.int .i64 e1)).put 1 (.int .i64 n1)).put 2 (.int .i64 m1)).put 3 (sv s1)).put 4 (sv t1)
      simpa using this
  rcases hcase with ⟨er, hlp, rfl, hm0, hf0, he0⟩ | ⟨hlp, hff, rfl, rfl⟩
  · have han : an = ⟨er, 0, 0, [], []⟩ := by
      have h := HRN.out
      unfold runN at h
      rw [hlp] at h
      exact (Option.some.inj h).symm
    have her : er ≠ 0 := by
      unfold loadP at hlp
      split at hlp
      · cases hlp; decide
      · split at hlp
        · cases hlp; decide
        · cases hlp
    have her' : ((er : Int) != 0) = true := by rw [bne_iff_ne]; omega
    have HF : Hid _ := PUT.out w2 A2 m2 f2 e2 0 ⟨by subst hm0 hf0 he0; exact DI.zero, by omega⟩ R2 C2 hc2 oc2 ha2 oa2 er 0 0 [] [] han
    have a0 := ha2.cell 0
    have a1 := ha2.cell 1
    have a2 := ha2.cell 2
    have a3 := ha2.cell 3
    have a4 := ha2.cell 4
    have az := ha2.frozen
    have az0 := az 0
    have az1 := az 1
    have az2 := az 2
    have az3 := az 3
    have az4 := az 4
    have al := ha2.lt
    simp only [List.getElem?_toArray, List.getElem?_cons_succ, List.getElem?_cons_zero] at a0 a1 a2 a3 a4
    have HF2 : Hid (RnPost bc w A an (.returned (.agg #[.int .i64 er, .int .i64 0, .int .i64 0, sv [], sv []])) (((((w2.setCell ⟨ba, 0, none⟩ (.int .i64 er)).setCell ⟨ba, 1, none⟩ (.int .i64 0)).setCell ⟨ba, 2, none⟩ (.int .i64 0)).setCell ⟨ba, 3, none⟩ (sv [])).setCell ⟨ba, 4, none⟩ (sv [])) ∧ Has (((((w2.setCell ⟨ba, 0, none⟩ (.int .i64 er)).setCell ⟨ba, 1, none⟩ (.int .i64 0)).setCell ⟨ba, 2, none⟩ (.int .i64 0)).setCell ⟨ba, 3, none⟩ (sv [])).setCell ⟨ba, 4, none⟩ (sv [])) ba #[.int .i64 er, .int .i64 0, .int .i64 0, sv [], sv []] 54) := HF.out
    clear HF R2 S2 C2 hc2 ha2 H1 PUT az hlp her hm0 hf0 he0
    go_wp2_with fail
    exact bodyPost_ret (res_cell isAns rfl rfl HF2.out.2 rfl) rfl HF2.out.1
  · obtain ⟨im, hdc, hlen, rfl⟩ : ∃ im, decodeP s = some im ∧ s.length ≤ 32768 ∧ m2 = loadM im := by
      unfold loadP at hlp
      split at hlp
      · cases hlp
      · split at hlp
        · cases hlp
        · rename_i im hd
          cases hlp
          exact ⟨im, hd, by omega, rfl⟩
    have S0 := load_ok hlen hdc
    have HRN2 : Hid ((match coP n 0 nilV nilV fuel.toNat (loadM im) 0 with
      | none => none
      | some (r, fu, m1, st) =>
        if r.how = 3 then some (⟨r.e, fu, st, m1.out, [45]⟩ : AnD)
        else some ⟨if r.how = 2 then 12 else 0, fu, st, m1.out, showV r.v⟩) = some an) := by
      have h := HRN.out
      unfold runN at h
      rw [hlp] at h
      exact h
    obtain ⟨rb, fu, m9, st, hco, HAN⟩ : ∃ rb fu m9 st, coP n 0 nilV nilV fuel.toNat (loadM im) 0 = some (rb, fu, m9, st) ∧ Hid ((if rb.how = 3 then some (⟨rb.e, fu, st, m9.out, [45]⟩ : AnD) else some ⟨if rb.how = 2 then 12 else 0, fu, st, m9.out, showV rb.v⟩) = some an) := by
      have h := HRN2.out
      split at h
      · cases h
      · rename_i rb fu m9 st he
        exact ⟨rb, fu, m9, st, he, h⟩
    subst hff
    have h0 : (loadM im).ths[0]? = some ⟨1, 0, [], [], []⟩ := rfl
    have CP := co_post S0 h0 (.inl rfl) (VOk.nil _) (VOk.nil _) hco
    have HDI : Hid (DI (afterC (rb, fu, m9, st)) ∧ st < 5) := by
      refine ⟨coP_di n S0 (loadM_di hlen hdc (by omega)) h0 (.inl rfl) (VOk.nil _) (VOk.nil _) hco, ?_⟩
      obtain ⟨K', _, V', _⟩ := CP.vi
      have h1 := CP.bs
      have h2 := busy_le V'
      have h3 : busy (loadM im) = 0 := rfl
      have h4 : ((loadM im).th 0).st = 1 := rfl
      rw [h3, h4] at h1
      simp only [if_true] at h1
      dsimp only at h1 h2
      omega
    have CW := coRun_all bc n w2 A2 (loadM im) fuel.toNat 0 0 0 ⟨1, 0, [], [], []⟩ nilV nilV (K0 im) (rb, fu, m9, st) R2 S0 (by omega) h0 (.inl rfl) (VOk.nil _) (VOk.nil _) (by rw [b2]; exact hc2) oc2 (by omega) (by omega) (Nat.zero_le _) hco
    have HCW : Hid (Calls Tryz.prog 55 #[.pointer (some ⟨bc, 0, none⟩), .int .i64 0, .agg #[.int .i64 0, .int .u64 0, sv []], .agg #[.int .i64 0, .int .u64 0, sv []]] w2 (CoRP bc 0 w2 A2 (rb, fu, m9, st))) := CW
    have HCP : Hid (CoPost (K0 im) (loadM im) 0 0 (rb, fu, m9, st)) := CP
    have H2 : Hid (CSt bc w A w2 A2 ∧ Has w2 ba #[.int .i64 0, .int .i64 0, .int .i64 0, sv [], sv []] 54 ∧ A2.o ba = 0) := ⟨C2, ha2, oa2⟩
    clear CW CP S0 R2 S2 C2 hc2 ha2 H1 hco HRN HRN2 hlp hdc
    go_wp2_with fail
    refine HCW.out.mono ?_
    rintro e' w6 ⟨A6, m6, e6, rfl, R6, ho6, hn6, hc6, oc6, C6⟩
    dsimp only at R6 ho6 hn6 hc6
    rw [b2] at hc6
    obtain ⟨ha6, oa6⟩ := C6.keep H2.out.2.1 H2.out.2.2 nab
    have C6 := H2.out.1.trans C6
    obtain ⟨rh, ⟨rvt, rvn, rvs⟩, re⟩ := rb
    obtain ⟨W7, HW7⟩ : ∃ W7, Hid (w6.alloc (.cells #[.int .i64 rh, .int .i64 rvt, .int .u64 rvn, sv rvs, .int .i64 re] 128) = W7) := ⟨_, Eq.refl _⟩
    have e7 : w6.alloc (.cells #[.int .i64 rh, .int .i64 rvt, .int .u64 rvn, sv rvs, .int .i64 re] 128) = W7 := HW7.out
    have f7 : Fr (fun _ => False) w6 W7 := by rw [← HW7.out]; exact (Fr.refl _ _).alloc _
    have hC : Has W7 w6.heap.size #[.int .i64 rh, .int .i64 rvt, .int .u64 rvn, sv rvs, .int .i64 re] 128 := by rw [← HW7.out]; exact Has.new _ _ _
    obtain ⟨CC, hcc⟩ : ∃ CC, w6.heap.size = CC := ⟨_, rfl⟩
    have ltc := hc6.lt
    have lta := ha6.lt
    have nC1 : CC ≠ bc := by omega
    have nC2 : CC ≠ ba := by omega
    rw [hcc] at hC
    have R7 := R6.fresh f7
    have C7 := C6.trans (CSt.fresh (bc := bc) f7)
    have hc7 := hc6.fr f7 (fun x => x)
    have ha7 := ha6.fr f7 (fun x => x)
    have OU := out_any R7
    have FU := fuel_any R7
    rw [C7.b] at OU FU
    have c0 := hc7.cell 0
    have c1 := hc7.cell 1
    have cl := hc7.lt
    simp only [List.getElem?_toArray, List.getElem?_cons_succ, List.getElem?_cons_zero] at c0 c1
    obtain ⟨q0, q1, q2, q3, q4⟩ := Has.bk (x := ⟨rh, ⟨rvt, rvn, rvs⟩, re⟩) hC
    dsimp only at q0 q1 q2 q3 q4
    have ql := hC.lt
    have a0 := ha7.cell 0
    have a1 := ha7.cell 1
    have a2 := ha7.cell 2
    have a3 := ha7.cell 3
    have a4 := ha7.cell 4
    have az := ha7.frozen
    have az0 := az 0
    have az1 := az 1
    have az2 := az 2
    have az3 := az 3
    have az4 := az 4
    have al := ha7.lt
    simp only [List.getElem?_toArray, List.getElem?_cons_succ, List.getElem?_cons_zero] at a0 a1 a2 a3 a4
    have HPT : Hid (∀ w9, Fr (fun _ => False) W7 w9 → ∀ e1 n1 m1 : Nat, ∀ s1 t1 : Bs, an = ⟨e1, n1, m1, s1, t1⟩ →
      RnPost bc w A an (.returned (.agg #[.int .i64 e1, .int .i64 n1, .int .i64 m1, sv s1, sv t1])) (((((w9.setCell ⟨ba, 0, none⟩ (.int .i64 e1)).setCell ⟨ba, 1, none⟩ (.int .i64 n1)).setCell ⟨ba, 2, none⟩ (.int .i64 m1)).setCell ⟨ba, 3, none⟩ (sv s1)).setCell ⟨ba, 4, none⟩ (sv t1)) ∧
      Has (((((w9.setCell ⟨ba, 0, none⟩ (.int .i64 e1)).setCell ⟨ba, 1, none⟩ (.int .i64 n1)).setCell ⟨ba, 2, none⟩ (.int .i64 m1)).setCell ⟨ba, 3, none⟩ (sv s1)).setCell ⟨ba, 4, none⟩ (sv t1)) ba #[.int .i64 e1, .int .i64 n1, .int .i64 m1, sv s1, sv t1] 54) := by
      intro w9 f9
      refine PUT.out w9 A6 m6 fu e6 st ⟨?_, HDI.out.2⟩ (R7.fresh f9) (C7.trans (CSt.fresh f9)) (hc7.fr f9 (fun x => x)) oc6 (ha7.fr f9 (fun x => x)) oa6
      have hd := HDI.out.1
      unfold afterC at hd
      dsimp only at hd
      by_cases h3 : rh = 3
      · rw [if_pos h3] at hd
        obtain ⟨g1, g2⟩ := ho6.2 h3
        rw [g1, g2]
        exact hd
      · rw [if_neg h3] at hd
        obtain ⟨g1, g2⟩ := hn6 h3
        rw [g1, g2]
        exact hd
    have HHW : Hid (rh = 1 ∨ rh = 2 ∨ rh = 3) := HCP.out.hw
    have HVO : Hid (rh ≠ 3 → ∃ K', VOk K' ⟨rvt, rvn, rvs⟩) := fun h => by
      obtain ⟨K', _, _, hx⟩ := HCP.out.vi
      exact ⟨K', (hx h).2⟩
    rw [ho6.1] at OU
    clear R6 R7 C6 C7 hc6 hc7 ha6 ha7 PUT H2 HCW HCP f7 hC az hn6 ho6 HDI
    obtain ⟨OO, HOO⟩ : ∃ OO, Hid (m9.out = OO) := ⟨_, rfl⟩
    rw [HOO.out] at OU HAN
    by_cases h3 : rh = 3
    · have han : an = ⟨re, fu, st, OO, [45]⟩ := by
        have h := HAN.out
        rw [if_pos h3] at h
        exact (Option.some.inj h).symm
      have h3' : ((rh : Int) == 3) = true := by simp [h3]
      have HF : Hid (RnPost bc w A an (.returned (.agg #[.int .i64 re, .int .i64 fu, .int .i64 st, sv OO, sv [45]])) (((((W7.setCell ⟨ba, 0, none⟩ (.int .i64 re)).setCell ⟨ba, 1, none⟩ (.int .i64 fu)).setCell ⟨ba, 2, none⟩ (.int .i64 st)).setCell ⟨ba, 3, none⟩ (sv OO)).setCell ⟨ba, 4, none⟩ (sv [45])).drew ∧ Has (((((W7.setCell ⟨ba, 0, none⟩ (.int .i64 re)).setCell ⟨ba, 1, none⟩ (.int .i64 fu)).setCell ⟨ba, 2, none⟩ (.int .i64 st)).setCell ⟨ba, 3, none⟩ (sv OO)).setCell ⟨ba, 4, none⟩ (sv [45])).drew ba #[.int .i64 re, .int .i64 fu, .int .i64 st, sv OO, sv [45]] 54) := by
        rw [drew_set, drew_set, drew_set, drew_set, drew_set]
        exact HPT.out _ ((Fr.refl _ _).drew) _ _ _ _ _ han
      clear h3 HPT HVO HHW HAN han
      go_wp2_with fail
      refine OU.mono ?_
      rintro e' w8 ⟨rfl, rfl⟩
      clear OU
      go_wp2_with fail
      refine FU.mono ?_
      rintro e' w8 ⟨rfl, rfl⟩
      clear FU
      go_wp2_with fail
      refine wp_region_tail 9 (by kernel_rfl) (by kernel_rfl) (fun _ _ _ _ _ h => h) ?_
      simp only [List.take_succ_cons, List.take_zero, List.drop_succ_cons, List.drop_zero]
      repeat go_big_quiet_step (fail)
      refine wpQuiet_nil ?_
      go_wp2_with fail
      exact bodyPost_ret (res_cell isAns rfl rfl HF.out.2 rfl) rfl HF.out.1
    · have h3' : ((rh : Int) == 3) = false := by rw [beq_eq_false_iff_ne]; omega
      obtain ⟨K', hvo⟩ := HVO.out h3
      obtain ⟨hv1, hv2, hv3⟩ := hvo.well
      have hv4 := hvo.b
      dsimp only at hv1 hv2 hv3 hv4
      obtain ⟨vt, rfl⟩ : ∃ vt : Nat, rvt = (vt : Int) := ⟨rvt.toNat, by omega⟩
      obtain ⟨SH, HSH⟩ : ∃ SH, Hid (showV ⟨(vt : Int), rvn, rvs⟩ = SH) := ⟨_, rfl⟩
      have SHW : Hid (∀ w, Calls Tryz.prog 27 #[.agg #[.int .i64 vt, .int .u64 rvn, sv rvs]] w fun e w' => e = .returned (sv SH) ∧ Fr (fun _ => False) w w') := fun w => by
        rw [← HSH.out]
        exact showVal_any (w := w) vt rvn rvs (by omega) hv4 hv3
      have hanE : an = ⟨if rh = 2 then 12 else 0, fu, st, OO, SH⟩ := by
        have h := HAN.out
        rw [if_neg h3] at h
        dsimp only at h
        rw [HSH.out] at h
        exact (Option.some.inj h).symm
      clear hvo HSH
      by_cases hx2 : rh = 2
      · have han : an = ⟨12, fu, st, OO, SH⟩ := by rw [hanE, if_pos hx2]
        have hx2' : ((rh : Int) == 2) = true := by simp [hx2]
        clear hanE
        have HF : Hid (∀ w9, Fr (fun _ => False) W7 w9 → RnPost bc w A an (.returned (.agg #[.int .i64 12, .int .i64 fu, .int .i64 st, sv OO, sv SH])) (((((w9.setCell ⟨ba, 0, none⟩ (.int .i64 12)).setCell ⟨ba, 1, none⟩ (.int .i64 fu)).setCell ⟨ba, 2, none⟩ (.int .i64 st)).setCell ⟨ba, 3, none⟩ (sv OO)).setCell ⟨ba, 4, none⟩ (sv SH)) ∧ Has (((((w9.setCell ⟨ba, 0, none⟩ (.int .i64 12)).setCell ⟨ba, 1, none⟩ (.int .i64 fu)).setCell ⟨ba, 2, none⟩ (.int .i64 st)).setCell ⟨ba, 3, none⟩ (sv OO)).setCell ⟨ba, 4, none⟩ (sv SH)) ba #[.int .i64 12, .int .i64 fu, .int .i64 st, sv OO, sv SH] 54) := fun w9 f9 => HPT.out w9 f9 _ _ _ _ _ han
        clear HPT HVO HHW HAN han hx2 h3
        go_wp2_with fail
        refine OU.mono ?_
        rintro e' w8 ⟨rfl, rfl⟩
        clear OU
        go_wp2_with fail
        refine FU.mono ?_
        rintro e' w8 ⟨rfl, rfl⟩
        clear FU
        go_wp2_with fail
        refine (SHW.out _).mono ?_
        rintro e' w9 ⟨rfl, f9⟩
        have q0 := f9.cell q0
        have ql : CC < w9.heap.size := Nat.lt_of_lt_of_le ql f9.size
        have c1 := f9.cell c1
        have cl : bc < w9.heap.size := Nat.lt_of_lt_of_le cl f9.size
        have a0 := f9.cell a0
        have a1 := f9.cell a1
        have a2 := f9.cell a2
        have a3 := f9.cell a3
        have a4 := f9.cell a4
        have az0 : w9.frozen? ⟨ba, 0, none⟩ = false := by rw [f9.frz al]; exact az0
        have az1 : w9.frozen? ⟨ba, 1, none⟩ = false := by rw [f9.frz al]; exact az1
        have az2 : w9.frozen? ⟨ba, 2, none⟩ = false := by rw [f9.frz al]; exact az2
        have az3 : w9.frozen? ⟨ba, 3, none⟩ = false := by rw [f9.frz al]; exact az3
        have az4 : w9.frozen? ⟨ba, 4, none⟩ = false := by rw [f9.frz al]; exact az4
        have al : ba < w9.heap.size := Nat.lt_of_lt_of_le al f9.size
        have HF2 := HF.out w9 f9
        have HF3 : Hid (_ ∧ _) := HF2
        clear HF HF2 SHW f9
        go_wp2_with fail
        exact bodyPost_ret (res_cell isAns rfl rfl HF3.out.2 rfl) rfl HF3.out.1
      · have han : an = ⟨0, fu, st, OO, SH⟩ := by rw [hanE, if_neg hx2]
        have hx2' : ((rh : Int) == 2) = false := by rw [beq_eq_false_iff_ne]; omega
        clear hanE
        have HF : Hid (∀ w9, Fr (fun _ => False) W7 w9 → RnPost bc w A an (.returned (.agg #[.int .i64 0, .int .i64 fu, .int .i64 st, sv OO, sv SH])) (((((w9.setCell ⟨ba, 0, none⟩ (.int .i64 0)).setCell ⟨ba, 1, none⟩ (.int .i64 fu)).setCell ⟨ba, 2, none⟩ (.int .i64 st)).setCell ⟨ba, 3, none⟩ (sv OO)).setCell ⟨ba, 4, none⟩ (sv SH)) ∧ Has (((((w9.setCell ⟨ba, 0, none⟩ (.int .i64 0)).setCell ⟨ba, 1, none⟩ (.int .i64 fu)).setCell ⟨ba, 2, none⟩ (.int .i64 st)).setCell ⟨ba, 3, none⟩ (sv OO)).setCell ⟨ba, 4, none⟩ (sv SH)) ba #[.int .i64 0, .int .i64 fu, .int .i64 st, sv OO, sv SH] 54) := fun w9 f9 => HPT.out w9 f9 _ _ _ _ _ han
        clear HPT HVO HHW HAN han hx2 h3
        go_wp2_with fail
        refine OU.mono ?_
        rintro e' w8 ⟨rfl, rfl⟩
        clear OU
        go_wp2_with fail
        refine FU.mono ?_
        rintro e' w8 ⟨rfl, rfl⟩
        clear FU
        go_wp2_with fail
        refine (SHW.out _).mono ?_
        rintro e' w9 ⟨rfl, f9⟩
        have q0 := f9.cell q0
        have ql : CC < w9.heap.size := Nat.lt_of_lt_of_le ql f9.size
        have c1 := f9.cell c1
        have cl : bc < w9.heap.size := Nat.lt_of_lt_of_le cl f9.size
        have a0 := f9.cell a0
        have a1 := f9.cell a1
        have a2 := f9.cell a2
        have a3 := f9.cell a3
        have a4 := f9.cell a4
        have az0 : w9.frozen? ⟨ba, 0, none⟩ = false := by rw [f9.frz al]; exact az0
        have az1 : w9.frozen? ⟨ba, 1, none⟩ = false := by rw [f9.frz al]; exact az1
        have az2 : w9.frozen? ⟨ba, 2, none⟩ = false := by rw [f9.frz al]; exact az2
        have az3 : w9.frozen? ⟨ba, 3, none⟩ = false := by rw [f9.frz al]; exact az3
        have az4 : w9.frozen? ⟨ba, 4, none⟩ = false := by rw [f9.frz al]; exact az4
        have al : ba < w9.heap.size := Nat.lt_of_lt_of_le al f9.size
        have HF2 := HF.out w9 f9
        have HF3 : Hid (_ ∧ _) := HF2
        clear HF HF2 SHW f9
        go_wp2_with fail
        exact bodyPost_ret (res_cell isAns rfl rfl HF3.out.2 rfl) rfl HF3.out.1
end
end Go.Proofs.Qxb6500574aGreatDoor
