/-
  THE WALKS of runlaw.Owed, Bounded.
-/
import Derived.Test.Qxb6500575aGreatDoorRArgs
namespace Go.Proofs.Qxb6500575aGreatDoor
open Go Go.RowKit
set_option linter.unusedVariables false
set_option linter.unusedSimpArgs false

set_option maxRecDepth 100000
set_option maxHeartbeats 1000000
def owedQ (u : FunD) (ok : Bool) (f ni : Int) (args : List BV) : Int :=
  if 3 < args.length then 1
  else if ok = false ∨ f < ni then 8
  else if args.length ≠ u.params.length then 7
  else if ((args.zip u.params).all fun q => fitsB q.1 q.2) = false then 7
  else 0
theorem owedP_Q (P : ProgD) (f : Int) (args : List BV) : owedP P f args = owedQ (P.sig f).1 (P.sig f).2 f P.nimp args := rfl
theorem zip_take_all {ps : List UInt8} {args : List BV} {j : Nat} {b : BV} {t : UInt8} (h1 : args[j]? = some b) (h2 : ps[j]? = some t) (h : ((args.zip ps).take j).all (fun q => fitsB q.1 q.2) = true) (hf : fitsB b t = true) : ((args.zip ps).take (j + 1)).all (fun q => fitsB q.1 q.2) = true := by
  have hz : (args.zip ps)[j]? = some (b, t) := by rw [List.getElem?_zip_eq_some]; exact ⟨h1, h2⟩
  rw [List.take_add_one, hz, List.all_append, h]
  simp [hf]
theorem zip_all_not {ps : List UInt8} {args : List BV} {j : Nat} {b : BV} {t : UInt8} (h1 : args[j]? = some b) (h2 : ps[j]? = some t) (hf : fitsB b t = false) : (args.zip ps).all (fun q => fitsB q.1 q.2) = false := by
  have hz : (args.zip ps)[j]? = some (b, t) := by rw [List.getElem?_zip_eq_some]; exact ⟨h1, h2⟩
  rw [List.all_eq_false]
  exact ⟨(b, t), List.mem_of_getElem? hz, by simp [hf]⟩
theorem w6432 (v : Int) : wrap64 (wrap32 v) = wrap32 v := by
  have h1 : -2147483648 ≤ wrap32 v ∧ wrap32 v < 2147483648 := by unfold wrap32; omega
  generalize wrap32 v = z at *
  unfold wrap64
  omega
theorem rowed_any {w : World} (f ni : Int) (ok : Bool) (u : FunD) (hu : TyL u.params) (args : List BV) (a : Option Addr) (c : Nat) (hl : args.length ≤ 1000) (hp : u.params.length ≤ 3) (hown : w.ownsRow 0 70 2 (.slice a args.length c) args.length (bvCells args)) :
    Calls Tryz.prog 21 #[.int .i64 f, .slice a args.length c, sv u.params, .bool ok, .int .i64 ni] w fun e w' => e = .returned (.int .i64 (owedQ u ok f ni args)) ∧ Fr (fun _ => False) w w' := by
  obtain ⟨ps, rs, ls⟩ := u
  unfold owedQ
  simp only at hu hp ⊢
  by_cases h1 : 3 < args.length
  · rw [if_pos h1]
    have g1 : (3 : Int) < (args.length : Int) := by omega
    generalize args.length = k at *
    clear hown
    go_enter Tryz.func21, Tryz.ntmps21
    go_wp2
    go_ret
    exact ⟨rfl, Fr.refl _ _⟩
  rw [if_neg h1]
  have g1 : decide ((3 : Int) < (args.length : Int)) = false := by simp; omega
  by_cases h2 : ok = false ∨ f < ni
  · rw [if_pos h2]
    generalize args.length = k at *
    cases ok with
    | false =>
      clear h2 hown
      go_enter Tryz.func21, Tryz.ntmps21
      go_wp2
      go_ret
      exact ⟨rfl, Fr.refl _ _⟩
    | true =>
      have g2 : f < ni := by simpa using h2
      clear h2 hown
      go_enter Tryz.func21, Tryz.ntmps21
      go_wp2
      go_ret
      exact ⟨rfl, Fr.refl _ _⟩
  rw [if_neg h2]
  obtain rfl : ok = true := by
    cases ok with
    | false => exact absurd (.inl rfl) h2
    | true => rfl
  have g2 : decide (f < ni) = false := by simp; simp at h2; omega
  by_cases h3 : args.length ≠ ps.length
  · rw [if_pos h3]
    have g3 : ((args.length : Int) == (ps.length : Int)) = false := by rw [beq_eq_false_iff_ne]; omega
    clear h1 h2 hown hu
    generalize args.length = k at *
    go_enter Tryz.func21, Tryz.ntmps21
    go_wp2
    go_ret
    exact ⟨rfl, Fr.refl _ _⟩
  rw [if_neg h3]
  obtain ⟨k, HK⟩ : ∃ k, Hid (args.length = k) := ⟨_, rfl⟩
  have HKP : Hid (ps.length = k) := by
    show _ = _
    rw [← HK.out]; omega
  have hpl : (ps.length : Int) = (k : Int) := by rw [HKP.out]
  have HO : Hid (World.ownsRow w 0 70 2 (.slice a k c) k (bvCells args)) := by
    show World.ownsRow _ _ _ _ _ _ _
    rw [← HK.out]
    exact hown
  have hk3 : k ≤ 3 := by rw [← HKP.out]; exact hp
  have HTY : Hid (TyL ps) := hu
  rw [HK.out] at g1 ⊢
  clear h1 h2 h3 hown hu hl hp
  obtain ⟨V, HV⟩ : ∃ V : Int, Hid (V = if ((args.zip ps).all fun q => fitsB q.1 q.2) = false then (7 : Int) else 0) := ⟨_, rfl⟩
  rw [← HV.out]
  go_enter Tryz.func21, Tryz.ntmps21
  go_wp2
  go_loopw [11] (fun t wr => ∃ j : Nat, j ≤ k ∧ t = .int .i64 j ∧ Hid (((args.zip ps).take j).all (fun q => fitsB q.1 q.2) = true) ∧ Hid (Fr (fun _ => False) w wr)) (fun t _ => k - (intOf t).toNat)
  case atStart => exact ⟨0, Nat.zero_le _, rfl, by show _ = _; simp, Fr.refl _ _⟩
  case round =>
    obtain ⟨j, hj, rfl, HA, G⟩ := hrel
    by_cases hjl : j < k
    · obtain ⟨g, rfl, hc⟩ := owns_some (owns_fr HO.out G.out (fun _ _ h => h)) (by omega)
      obtain ⟨b, hb⟩ : ∃ b, args[j]? = some b := ⟨_, List.getElem?_eq_getElem (by rw [HK.out]; exact hjl)⟩
      obtain ⟨t, ht⟩ : ∃ t, ps[j]? = some t := ⟨_, List.getElem?_eq_getElem (by rw [HKP.out]; exact hjl)⟩
      obtain ⟨b0, b1⟩ := bvCells_at args j b hb
      have c0 := hc (j * 2) (by omega)
      have c1 := hc (j * 2 + 1) (by omega)
      rw [b0] at c0
      rw [b1] at c1
      have hgl := owns_lt (owns_fr HO.out G.out (fun _ _ h => h)) g rfl
      have hcap : k ≤ c := by
        rcases owns_form HO.out with ⟨h, _⟩ | ⟨_, _, h⟩
        · cases h
        · exact h
      have hix := fun w => run_index_str ps j j rfl ht w
      have HB : Hid (args[j]? = some b) := hb
      have HT : Hid (ps[j]? = some t) := ht
      have ht2 : t = 105 ∨ t = 108 := HTY.out t (List.mem_of_getElem? ht)
      obtain ⟨bt, bv⟩ := b
      simp only at c0 c1
      clear hc b0 b1 hb ht
      have DOOR : Hid (fitsB ⟨bt, bv⟩ t = false → V = 7) := fun h => HV.out.trans (if_pos (zip_all_not HB.out HT.out h))
      have ON : Hid (fitsB ⟨bt, bv⟩ t = true → ((args.zip ps).take (j + 1)).all (fun q => fitsB q.1 q.2) = true) := fun h => zip_take_all HB.out HT.out HA.out h
      clear HA HB HT
      by_cases e1 : bt = t
      · subst e1
        rcases ht2 with rfl | rfl
        · by_cases e2 : bv = wrap32 bv
          · have hf : fitsB ⟨105, bv⟩ 105 = true := by simp [fitsB, ← e2]
            have HA := ON.out hf
            have HA1 : Hid (_ = true) := HA
            have n3 : (bv != wrap64 (wrap32 bv)) = false := by rw [w6432, ← e2]; simp
            clear DOOR ON hf e2 HA
            go_wp2
            refine wp_region_quiet_lit (by kernel_rfl) (by kernel_rfl) ?_
            repeat go_big_quiet_step (fail)
            refine wpQuiet_nil ?_
            rintro w' ⟨nq, rfl⟩
            go_wp2
            go_roundw
            case rel => exact ⟨j + 1, by omega, by go_num, HA1, G.out.drewN nq⟩
            case measure => simp [intOf]; omega
          · have hf : fitsB ⟨105, bv⟩ 105 = false := by simp [fitsB]; exact e2
            have HH7 : Hid (_ = (7 : Int)) := DOOR.out hf
            have n3 : (bv != wrap64 (wrap32 bv)) = true := by rw [w6432, bne_iff_ne]; exact e2
            clear DOOR ON hf e2
            go_wp2
            refine wp_region_quiet_lit (by kernel_rfl) (by kernel_rfl) ?_
            repeat go_big_quiet_step (fail)
            refine wpQuiet_nil ?_
            rintro w' ⟨nq, rfl⟩
            go_wp2
            go_ret
            exact ⟨(by show Ending.returned (.int .i64 7) = _; rw [HH7.out]), G.out.drewN nq⟩
        · have hf : fitsB ⟨108, bv⟩ 108 = true := by simp [fitsB]
          have HA1 : Hid (_ = true) := ON.out hf
          clear DOOR ON hf
          go_wp2
          refine wp_region_quiet_lit (by kernel_rfl) (by kernel_rfl) ?_
          repeat go_big_quiet_step (fail)
          refine wpQuiet_nil ?_
          rintro w' ⟨nq, rfl⟩
          go_wp2
          go_roundw
          case rel => exact ⟨j + 1, by omega, by go_num, HA1, G.out.drewN nq⟩
          case measure => simp [intOf]; omega
      · have n1 : ((bt.toNat : Int) != (t.toNat : Int)) = true := by
          have h3 : bt.toNat ≠ t.toNat := fun e => e1 (UInt8.toNat_inj.1 e)
          rw [bne_iff_ne]
          omega
        have hf : fitsB ⟨bt, bv⟩ t = false := by simp [fitsB, e1]
        have H7 := DOOR.out hf
        have HH7 : Hid (_ = (7 : Int)) := H7
        clear DOOR ON hf H7
        go_wp2
        refine wp_region_quiet_lit (by kernel_rfl) (by kernel_rfl) ?_
        repeat go_big_quiet_step (fail)
        refine wpQuiet_nil ?_
        rintro w' ⟨nq, rfl⟩
        go_wp2
        go_ret
        exact ⟨(by show Ending.returned (.int .i64 7) = _; rw [HH7.out]), G.out.drewN nq⟩
    · have hje : j = k := by omega
      have HE : Hid (V = 0) := by
        show _ = _
        rw [HV.out]
        have := HA.out
        rw [hje, List.take_of_length_le (by rw [List.length_zip, HK.out, HKP.out]; simp)] at this
        rw [this]; rfl
      clear HA
      subst hje
      go_wp2
      go_ret
      exact ⟨(by show Ending.returned (.int .i64 0) = _; rw [HE.out]), G.out⟩
end Go.Proofs.Qxb6500575aGreatDoor
