/-
  THE WALK of prep.Prog.Check.
-/
import Derived.Test.Qxb6500576aGreatDoorCheck
namespace Go.Proofs.Qxb6500576aGreatDoor
open Go Go.RowKit
set_option linter.unusedVariables false
set_option linter.unusedSimpArgs false

structure CheckOk (p : ProgD) (k : Nat) : Prop where
  nimp : p.nimp = k
  le : k ≤ p.funs.length
  nf : p.funs.length ≤ 1000
  nc : ∀ c ∈ p.codes, c.length ≤ 1000
  imp : ∀ (f : Nat) c, p.codes[f]? = some c → (f < k ↔ c.length = 0)
  ok : ∀ (f : Nat) c, p.codes[f]? = some c → ∀ (a : Nat) x, c[a]? = some x → SoundOk c.length a x

set_option maxRecDepth 100000 in
set_option maxHeartbeats 4000000 in
theorem check_any (S : Nat → Prop) (bp : Nat) (L : ProgL) (p : ProgD) (k : Nat) (w : World) (h : ProgRep S w bp L p) (ho : CheckOk p k) :
    Calls Tryz.prog 18 #[.pointer (some ⟨bp, 0, none⟩)] w fun e w' => e = .returned (.bool true) ∧ Fr (fun _ => False) w w' := by
  obtain ⟨fa, fc, cvs⟩ := L
  have c0 := h.funs.here.cell 0
  have c4 := h.funs.here.cell 4
  simp [ho.nimp] at c0 c4
  have hbl := h.funs.here.lt
  have H : Hid (ProgRep S w bp ⟨fa, fc, cvs⟩ p) := h
  have hnf := ho.nf
  have hle := ho.le
  have HO : Hid (CheckOk p k) := ho
  clear h ho
  go_enter Tryz.func18, Tryz.ntmps18
  go_wp2
  go_quiet (fail)
  go_wp2
  have e22 : decide (p.funs.length < k) = false := by simpa using hle
  have e11 : decide ((k : Int) < 0) = false := by simp
  simp only [e22, e11, Bool.or_false]
  clear hle e22 e11
  go_loopw [29] (fun t wr => ∃ (i : Nat), i ≤ p.funs.length ∧ t = .int .i64 i ∧ Hid (Fr (fun _ => False) w wr)) (fun t _ => p.funs.length - (intOf t).toNat)
  case atStart => exact ⟨0, Nat.zero_le _, rfl, (Fr.refl _ _).drewN _⟩
  case round =>
    obtain ⟨i, hi, rfl, G1⟩ := hrel
    by_cases hlt : i < p.funs.length
    · have R := H.out.fresh G1.out
      obtain ⟨u, hu⟩ : ∃ u, p.funs[i]? = some u := ⟨_, List.getElem?_eq_getElem hlt⟩
      have hclen := R.clen
      obtain ⟨c, hc⟩ : ∃ c, p.codes[i]? = some c := ⟨_, List.getElem?_eq_getElem (by omega)⟩
      obtain ⟨g, cv, hfa, hcv, d0, d1, d2, d3⟩ := R.funs.at hu
      have hco := R.codes i cv c hcv hc
      have hrow := R.funs.row
      rw [hfa] at hrow
      have hgl := owns_lt hrow g rfl
      have q4 := HO.out.nc c (List.mem_of_getElem? hc)
      have qi := HO.out.imp i c hc
      obtain ⟨ca, cc, hcs⟩ : ∃ ca cc, cv = .slice ca c.length cc := by
        rcases hco.2 with ⟨h1, h2⟩ | ⟨g, cap, cur, h1, _⟩
        · exact ⟨none, 0, by rw [h1, h2]⟩
        · exact ⟨_, _, h1⟩
      subst hcs
      have HCO : Hid (∀ x, Fr (fun _ => False) w x → x.ownsRow 0 97 4 (.slice ca c.length cc) c.length (flatCells c)) := fun x hx => (H.out.fresh hx).codes i _ c hcv hc
      have HSO : Hid (∀ (a : Nat) x, c[a]? = some x → SoundOk c.length a x) := HO.out.ok i c hc
      have b0 := R.funs.here.cell 0
      simp [HO.out.nimp] at b0
      have bl := R.funs.here.lt
      have bl1 : bp < wr.heap.size + 1 := by omega
      have bne : bp ≠ wr.heap.size := by omega
      obtain ⟨up, ur, ul⟩ := u
      simp only at d0 d1 d2 d3
      simp only at hfa
      subst hfa
      obtain ⟨m, hm⟩ : ∃ m, c.length = m := ⟨_, rfl⟩
      have HM : Hid (c.length = m) := hm
      have HB : Hid (∃ q : Bool, ((i : Int) < (k : Int)) = (q = true) ∧ ((m : Int) == 0) = q) := by
        by_cases hik : i < k
        · have := qi.1 hik
          exact ⟨true, by simp; omega, by rw [beq_iff_eq]; omega⟩
        · have : ¬ m = 0 := fun e => hik (qi.2 (by omega))
          exact ⟨false, by simp; omega, by rw [beq_eq_false_iff_ne]; omega⟩
      obtain ⟨q, hq1, hq2⟩ := HB.out
      rw [hm] at d3 HCO HSO q4
      clear R hu hc hcv hco hrow qi hm HB
      obtain ⟨wB, hwB⟩ : ∃ wB, wB = wr := ⟨_, rfl⟩
      subst hwB
      cases q with
      | true =>
        have hik : i < k := by simp at hq1; omega
        have hm0 : m = 0 := by rw [beq_iff_eq] at hq2; omega
        subst hm0
        clear hq1 hq2
        go_wp2
        go_quiet (fail)
        go_wp2
        refine wp_loop_rounds 1 ?_
        rw [rounds_succ]
        go_wp2
        go_roundw
        case rel => exact ⟨i + 1, by omega, by go_num, (G1.out.alloc _).drewN _⟩
        case measure => simp [intOf]; omega
      | false =>
        have hik : ¬ i < k := by simp at hq1; omega
        clear hq1
        go_wp2
        go_quiet (fail)
        go_wp2
        clear hq2 hik
        go_loopw [48] (fun t wr => ∃ (j : Nat), j ≤ m ∧ t = .int .i64 j ∧ Hid (Has wr wB.heap.size #[sv up, sv ur, sv ul, .slice ca m cc] 101) ∧ Hid (Fr (fun _ => False) w wr)) (fun t _ => m - (intOf t).toNat)
        case atStart => exact ⟨0, Nat.zero_le _, rfl, (Has.new wB _ _).drewN _, (G1.out.alloc _).drewN _⟩
        case round =>
          obtain ⟨j, hj, rfl, K1, G2⟩ := hrel
          by_cases hjl : j < m
          · obtain ⟨x, hx⟩ : ∃ x, c[j]? = some x := ⟨_, List.getElem?_eq_getElem (by rw [HM.out]; exact hjl)⟩
            have hrow2 := HCO.out wr G2.out
            obtain ⟨gc, hgc, hcc⟩ := owns_some hrow2 (by omega)
            have b0 := hcc (j * 4 + 0) (by omega)
            have b1 := hcc (j * 4 + 1) (by omega)
            have b2 := hcc (j * 4 + 2) (by omega)
            have b3 := hcc (j * 4 + 3) (by omega)
            rw [flatCells_at _ _ _ x hx (by omega)] at b0 b1 b2 b3
            simp [Flat.cells] at b0 b1 b2 b3
            have hgcl := owns_lt hrow2 gc (by rw [hgc]; rfl)
            have hso := HSO.out j x hx
            subst hgc
            have e3 := K1.out.cell 3
            simp at e3
            have el := K1.out.lt
            have el1 : wB.heap.size < wr.heap.size + 1 := by omega
            have ene : wB.heap.size ≠ wr.heap.size := by omega
            obtain ⟨xo, xi, xk, xc⟩ := x
            simp only at b0 b1 b2 b3
            obtain ⟨wC, hwC⟩ : ∃ wC, wC = wr := ⟨_, rfl⟩
            subst hwC
            have HS : Hid (Calls _ _ _ _ _) := sound_any ⟨xo, xi, xk, xc⟩ j m (by omega) hso (wC.alloc (.cells #[.int .i64 xo, .int .i64 xi, .int .i64 xk, .int .i64 xc] 97))
            clear hrow2 hcc hx hso
            go_wp2_with fail
            refine HS.out.mono ?_
            rintro e w5 ⟨rfl, hF5⟩
            have N1 : Hid (Has w5 wB.heap.size _ _) := (K1.out.alloc _).fr hF5 (fun h => h)
            have N2 : Hid (Fr (fun _ => False) w w5) := (G2.out.alloc _).trans hF5 (fun _ _ h => h)
            clear hF5 HS K1 G2
            go_wp2
            go_roundw
            case rel => exact ⟨j + 1, by omega, by go_num, N1, N2⟩
            case measure => simp [intOf]; omega
          · go_wp2
            go_roundw
            case rel => exact ⟨i + 1, by omega, by go_num, G2⟩
            case measure => simp [intOf]; omega
    · go_wp2
      go_ret
      exact ⟨rfl, G1.out⟩
end Go.Proofs.Qxb6500576aGreatDoor
