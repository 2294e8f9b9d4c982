/-
  THE WALK of num: lay.
-/
import Derived.Test.Qxb6500574aGreatDoorVLayP
import Derived.Test.Qxb6500574aGreatDoorVUtoa
namespace Go.Proofs.Qxb6500574aGreatDoor
open Go Go.RowKit
set_option linter.unusedVariables false
set_option linter.unusedSimpArgs false

/-- bytes in a buffer -/
def Buf (w : World) (b : Nat) (l : Bs) : Prop := Has w b (l.flatMap bCells).toArray 5
theorem bflat : ∀ l : Bs, l.flatMap bCells = l.map (fun b => Value.int .u8 (b.toNat : Int)) := by
  intro l
  induction l with
  | nil => rfl
  | cons a r ih => rw [List.flatMap_cons, ih]; rfl
theorem Buf.at {w : World} {b : Nat} {l : Bs} (h : Buf w b l) {j : Nat} (hj : j < l.length) : ∃ x : UInt8, w.cell? ⟨b, j, none⟩ = some (.int .u8 x.toNat) := by
  refine ⟨l[j], ?_⟩
  rw [Has.cell h, bflat]
  simp [hj]
theorem Buf.put {w : World} {b : Nat} {l : Bs} (h : Buf w b l) (j : Nat) (x : UInt8) : Buf (w.setCell ⟨b, j, none⟩ (.int .u8 x.toNat)) b (l.set j x) := by
  have := Has.put h j (.int .u8 x.toNat)
  unfold Buf
  rw [bflat] at this ⊢
  rw [List.map_set]
  simpa using this
structure LayR (w wr : World) (b i : Nat) (l : Bs) (D : Bs) (n m : Nat) : Prop where
  buf : Buf wr b (l.take i ++ D ++ l.drop (i + D.length))
  fr : Fr (fun j => j = b) w wr
  lt : m < 10 ^ n
theorem LayR.step {w wr : World} {b i n m : Nat} {l D : Bs} (h : LayR w wr b i l D (n + 1) m) (hi : i + D.length < l.length) : LayR w (wr.setCell ⟨b, i + D.length, none⟩ (.int .u8 (dg (m / 10 ^ n)).toNat)) b i l (D ++ [dg (m / 10 ^ n)]) n (m % 10 ^ n) := by
  have hp : 0 < 10 ^ n := Nat.pow_pos (by omega)
  refine ⟨?_, h.fr.setCell (p := ⟨b, i + D.length, none⟩) (.inl rfl) _, Nat.mod_lt _ hp⟩
  have := h.buf.put (i + D.length) (dg (m / 10 ^ n))
  have e : (l.take i ++ D ++ l.drop (i + D.length)).set (i + D.length) (dg (m / 10 ^ n)) = l.take i ++ (D ++ [dg (m / 10 ^ n)]) ++ l.drop (i + (D ++ [dg (m / 10 ^ n)]).length) := by
    have hl : (l.take i ++ D).length = i + D.length := by simp; omega
    rw [List.set_append_right _ _ (by omega), hl, Nat.sub_self, List.drop_eq_getElem_cons hi]
    simp [Nat.add_assoc]
  rw [e] at this
  exact this
theorem dg_nat {n : Nat} (h : n ≤ 9) : ((dg n).toNat : Int) = 48 + (n : Int) := u8_code n h
section
variable {w : World}
set_option maxRecDepth 100000
set_option maxHeartbeats 1000000
theorem lay_any {b i u : Nat} {l : Bs} (hB : Buf w b l) (hl : l.length = 24) (hu : u < 18446744073709551616) (hi : i + (decN u).length ≤ 24) :
    Calls Tryz.prog 70 #[.slice (some ⟨b, 0, none⟩) 24 24, .int .i64 i, .int .u64 u] w fun e w' => e = .returned (.int .i64 ((i + (decN u).length : Nat) : Int)) ∧ Buf w' b (l.take i ++ decN u ++ l.drop (i + (decN u).length)) ∧ Fr (fun j => j = b) w w' := by
  obtain ⟨Q, HQ⟩ : ∃ Q : Ending → World → Prop, Hid ((fun e w' => e = .returned (.int .i64 ((i + (decN u).length : Nat) : Int)) ∧ Buf w' b (l.take i ++ decN u ++ l.drop (i + (decN u).length)) ∧ Fr (fun j => j = b) w w') = Q) := ⟨_, rfl⟩
  rw [HQ.out]
  have HB : Hid (Buf w b l) := hB
  have HI : Hid (i + (decN u).length ≤ 24) := hi
  have hi24 : i ≤ 24 := by omega
  clear hB hi
  go_enter Tryz.func70, Tryz.ntmps70
  go_wp2_with fail
  go_loopw [7] (fun v wr => ∃ (k : Nat), v = .int .u64 ((10 ^ k : Nat) : Int) ∧ wr = w ∧ (k = 0 ∨ 10 ^ k ≤ u)) (fun v _ => u - (intOf v).toNat)
  case atStart => exact ⟨0, rfl, rfl, .inl rfl⟩
  case round =>
    obtain ⟨k, rfl, hw, hk⟩ := hrel
    have hw2 := hw.symm
    subst hw2
    clear hw
    have hpos : 0 < 10 ^ k := Nat.pow_pos (by omega)
    obtain ⟨P, HP⟩ : ∃ P : Nat, Hid (10 ^ k = P) := ⟨_, rfl⟩
    rw [HP.out] at hpos hk ⊢
    have hPu : P < 18446744073709551616 := by
      rcases hk with rfl | hk
      · have := HP.out; simp at this; omega
      · omega
    have hq : IntKind.u64.wrap ((u : Int) / (P : Int)) = ((u / P : Nat) : Int) := by
      have h1 := Nat.div_le_self u P
      have h2 : u / P < 18446744073709551616 := by omega
      rw [← Int.natCast_ediv]
      generalize u / P = q at h2 ⊢
      rw [IntKind.wrap_u64]
      omega
    by_cases hd : 10 ≤ u / P
    · have hle : P * 10 ≤ u := by
        have := Nat.mul_le_mul_left P hd
        have h2 := Nat.mul_div_le u P
        omega
      have hd2 : (10 : Int) ≤ ((u / P : Nat) : Int) := by omega
      go_wp2_with fail
      exact ⟨⟨k + 1, by rw [Nat.pow_succ, HP.out]; simp, trivial, .inr (by rw [Nat.pow_succ, HP.out]; exact hle)⟩, by simp [intOf]; omega⟩
    · have hd2 : ¬ (10 : Int) ≤ ((u / P : Nat) : Int) := by omega
      have hu10 : u < P * 10 := by
        have h2 : u / P < 10 := by omega
        have := (Nat.div_lt_iff_lt_mul hpos).1 h2
        omega
      have hk20 : k < 20 := by
        rcases hk with hk | hk
        · omega
        · exact pow_lt20 (by rw [HP.out]; exact hk) hu
      have hdec : decN u = padD (k + 1) u := decN_pad hk20 (by rw [Nat.pow_succ, HP.out]; exact hu10) (by rw [HP.out]; exact hk)
      have HDEC : Hid (decN u = padD (k + 1) u) := hdec
      have START : Hid (LayR w w b i l [] (k + 1) u) := ⟨by simpa using HB.out, Fr.refl _ _, by rw [Nat.pow_succ, HP.out]; exact hu10⟩
      clear hdec
      go_wp2_with fail
      go_loopw [1, 2, 7] (fun v1 v2 v7 wq => ∃ (n m p : Nat) (D : Bs), v1 = .int .i64 ((i + D.length : Nat) : Int) ∧ v2 = .int .u64 m ∧ v7 = .int .u64 p ∧ m < 18446744073709551616 ∧ p < 18446744073709551616 ∧ i + D.length + n ≤ 24 ∧ ((n = 0 ∧ p = 0) ∨ ∃ n', n = n' + 1 ∧ p = 10 ^ n') ∧ Hid (LayR w wq b i l D n m) ∧ Hid (D ++ padD n m = decN u)) (fun _ _ v7 _ => (intOf v7).toNat)
      case atStart =>
        refine ⟨k + 1, u, P, [], by simp, rfl, rfl, hu, by omega, ?_, .inr ⟨k, rfl, HP.out.symm⟩, START, ?_⟩
        · have := HI.out
          rw [HDEC.out, padD_len] at this
          simp
          omega
        · rw [HDEC.out]; rfl
      case round =>
        obtain ⟨n, m, p, D, rfl, rfl, rfl, hm, hp, h24, hn, HL, HE⟩ := hrel
        rcases hn with ⟨rfl, rfl⟩ | ⟨n', rfl, rfl⟩
        · have hD : decN u = D := by have := HE.out; simp [padD] at this; exact this.symm
          have FIN : Hid (Q (.returned (.int .i64 ((i + D.length : Nat) : Int))) wr) := by
            rw [← HQ.out, hD]
            exact ⟨rfl, HL.out.buf, HL.out.fr⟩
          clear hD
          go_wp2_with fail
          exact FIN.out
        · have hpos' : 0 < 10 ^ n' := Nat.pow_pos (by omega)
          have hlt := HL.out.lt
          rw [Nat.pow_succ] at hlt
          have hpd : padD (n' + 1) m = dg (m / 10 ^ n') :: padD n' (m % 10 ^ n') := rfl
          have hne : (D ++ [dg (m / 10 ^ n')]) ++ padD n' (m % 10 ^ n') = decN u := by
            have := HE.out
            rw [hpd] at this
            rw [← this]
            simp
          have HNE : Hid ((D ++ [dg (m / 10 ^ n')]) ++ padD n' (m % 10 ^ n') = decN u) := hne
          have hidx : i + D.length < 24 := by omega
          obtain ⟨x, hx⟩ := HL.out.buf.at (j := i + D.length) (by simp; omega)
          have hfz := Has.frozen HL.out.buf (i + D.length)
          have hbl := Has.lt HL.out.buf
          have hst : ∀ v, v = .int .u8 (48 + ((m / 10 ^ n' : Nat) : Int)) → LayR w (wr.setCell ⟨b, i + D.length, none⟩ v) b i l (D ++ [dg (m / 10 ^ n')]) n' (m % 10 ^ n') := by
            intro v hv
            rw [hv, ← dg_nat (by have := (Nat.div_lt_iff_lt_mul hpos').2 (show m < 10 * 10 ^ n' by omega); omega)]
            exact HL.out.step (by omega)
          have HST : Hid (∀ v : Value, _) := hst
          have hnx : 10 ^ n' / 10 = 0 ∧ n' = 0 ∨ ∃ n2, n' = n2 + 1 ∧ 10 ^ n' / 10 = 10 ^ n2 := by
            cases n' with
            | zero => exact .inl ⟨rfl, rfl⟩
            | succ n2 => exact .inr ⟨n2, rfl, by rw [Nat.pow_succ]; omega⟩
          have HNX : Hid (10 ^ n' / 10 = 0 ∧ n' = 0 ∨ ∃ n2, n' = n2 + 1 ∧ 10 ^ n' / 10 = 10 ^ n2) := hnx
          have hd9 : m / 10 ^ n' ≤ 9 := by have := (Nat.div_lt_iff_lt_mul hpos').2 (show m < 10 * 10 ^ n' by omega); omega
          have hmm : m % 10 ^ n' < 10 ^ n' := Nat.mod_lt _ hpos'
          obtain ⟨PP, HPP⟩ : ∃ P : Nat, Hid (10 ^ n' = P) := ⟨_, rfl⟩
          rw [HPP.out] at hpos' hp hd9 hmm HST HNX HNE ⊢
          have hq2 : IntKind.u64.wrap ((m : Int) / (PP : Int)) = ((m / PP : Nat) : Int) := by
            rw [← Int.natCast_ediv]
            generalize m / PP = q at hd9 ⊢
            rw [IntKind.wrap_u64]
            omega
          have hr2 : IntKind.u64.wrap (Int.tmod (m : Int) (PP : Int)) = ((m % PP : Nat) : Int) := by
            rw [← Int.ofNat_tmod]
            generalize m % PP = q at hmm ⊢
            rw [IntKind.wrap_u64]
            omega
          obtain ⟨DL, HDL⟩ : ∃ N : Nat, Hid (D.length = N) := ⟨_, rfl⟩
          rw [HDL.out] at hx hfz hidx HST h24 ⊢
          clear hst hnx HL HE hlt hpd hne
          go_wp2_with fail
          refine ⟨⟨n', m % PP, PP / 10, D ++ [dg (m / PP)], ?_, ?_, ?_, by omega, by omega, ?_, ?_, HST.out _ ?_, HNE⟩, ?_⟩
          · congr 1
            simp only [List.length_append, List.length_singleton, HDL.out]
            omega
          · congr 1
          · congr 1
          · simp only [List.length_append, List.length_singleton, HDL.out]
            omega
          · rcases HNX.out with ⟨h1, h2⟩ | ⟨n2, h1, h2⟩
            · exact .inl ⟨h2, h1⟩
            · exact .inr ⟨n2, h1, h2⟩
          · congr 1
            rw [← Int.natCast_ediv]
            generalize m / PP = q at hd9 ⊢
            rw [IntKind.wrap_u64]
            omega
          · simp only [intOf]
            omega
end
end Go.Proofs.Qxb6500574aGreatDoor
