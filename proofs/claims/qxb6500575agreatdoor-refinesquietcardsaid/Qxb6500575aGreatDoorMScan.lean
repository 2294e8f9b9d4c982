/-
  THE WALKS of prepm.Pos, Ends, typed, kind, label, Sig.
-/
import Derived.Test.Qxb6500575aGreatDoorProg
import Derived.Test.Qxb6500575aGreatDoorMMem
namespace Go.Proofs.Qxb6500575aGreatDoor
open Go Go.RowKit
set_option linter.unusedVariables false
set_option linter.unusedSimpArgs false

theorem posOne_le {c : Ins} (h : c.tab.length ≤ 100) : posOne c ≤ 101 := by
  unfold posOne
  split
  · omega
  · split <;> omega
theorem posM_le (src : List Ins) (h : ∀ c ∈ src, c.tab.length ≤ 100) : ∀ i, posM src i ≤ 101 * i
  | 0 => Nat.le_refl _
  | i + 1 => by
    unfold posM
    have := posM_le src h i
    cases hc : src[i]? with
    | none => simp only; omega
    | some c =>
      have := posOne_le (h c (List.mem_of_getElem? hc))
      simp only; omega

set_option maxRecDepth 100000 in
set_option maxHeartbeats 2000000 in
theorem pos_any (src : List Ins) (a : Option Addr) (cap i : Nat) (w : World) (hv : w.ownsRow 0 67 3 (.slice a src.length cap) src.length (insCells src)) (hl : src.length ≤ 1000) (hi : i ≤ src.length) (ht : ∀ c ∈ src, c.tab.length ≤ 100) :
    Calls Tryz.prog 77 #[.slice a src.length cap, .int .i64 i] w fun e w' => e = .returned (.int .i64 (posM src i)) ∧ w' = w := by
  have HV : Hid (w.ownsRow 0 67 3 (.slice a src.length cap) src.length (insCells src)) := hv
  have HT : Hid (∀ c ∈ src, c.tab.length ≤ 100) := ht
  clear hv ht
  go_enter Tryz.func77, Tryz.ntmps77
  go_wp2
  go_loopw [5, 6] (fun n j wr => ∃ k : Nat, k ≤ i ∧ n = .int .i64 (posM src k) ∧ j = .int .i64 k ∧ wr = w) (fun _ j _ => i - (intOf j).toNat)
  case atStart => exact ⟨0, Nat.zero_le _, rfl, rfl, rfl⟩
  case round =>
    obtain ⟨k, hk, rfl, rfl, rfl⟩ := hrel
    by_cases hlt : k < i
    · have hks : k < src.length := by omega
      obtain ⟨c, hc⟩ : ∃ c, src[k]? = some c := ⟨_, List.getElem?_eq_getElem hks⟩
      obtain ⟨gc, hgc, hcc⟩ := owns_some HV.out (by omega)
      have hgl : gc < wr.heap.size := owns_lt HV.out gc (by rw [hgc]; rfl)
      have q0 := hcc (k * 3 + 0) (by omega)
      have q2 := hcc (k * 3 + 2) (by omega)
      rw [insCells_at _ _ _ c hc (by omega)] at q0 q2
      simp [Ins.cells] at q0 q2
      have hpk := posM_le src HT.out k
      have htb := HT.out c (List.mem_of_getElem? hc)
      have hp1 : posM src (k + 1) = posM src k + posOne c := by
        conv => lhs; unfold posM
        rw [hc]
      subst hgc
      generalize hP : posM src k = pk at *
      have HP1 : Hid (posM src (k + 1) = pk + posOne c) := hp1
      clear hp1 hcc hP hc
      obtain ⟨cop, cimm, ctab⟩ := c
      simp only at q0 q2 htb
      by_cases h1 : cop = 1 ∨ cop = 2 ∨ cop = 5
      · have HE : Hid (posM src (k + 1) = pk) := by
          have := HP1.out; unfold posOne at this; rw [if_pos h1] at this; exact this
        clear HP1
        rcases h1 with rfl | rfl | rfl <;>
        · go_wp2
          go_roundw
          case rel => exact ⟨k + 1, by omega, by rw [HE.out], by go_num, trivial⟩
          case measure => simp [intOf]; omega
      · have b1 : (cop == 1) = false := beq_eq_false_iff_ne.2 (by omega)
        have b2 : (cop == 2) = false := beq_eq_false_iff_ne.2 (by omega)
        have b5 : (cop == 5) = false := beq_eq_false_iff_ne.2 (by omega)
        by_cases h8 : cop = 8
        · have HE : Hid (posM src (k + 1) = pk + (1 + ctab.length)) := by
            have := HP1.out; unfold posOne at this; rw [if_neg h1, if_pos h8] at this; exact this
          clear HP1 h1
          subst h8
          go_wp2
          go_roundw
          case rel => exact ⟨k + 1, by omega, by rw [HE.out]; go_num, by go_num, trivial⟩
          case measure => simp [intOf]; omega
        · have b8 : (cop == 8) = false := beq_eq_false_iff_ne.2 h8
          have HE : Hid (posM src (k + 1) = pk + 1) := by
            have := HP1.out; unfold posOne at this; rw [if_neg h1, if_neg h8] at this; exact this
          clear HP1 h1 h8
          go_wp2
          go_roundw
          case rel => exact ⟨k + 1, by omega, by rw [HE.out]; go_num, by go_num, trivial⟩
          case measure => simp [intOf]; omega
    · obtain rfl : k = i := by omega
      go_wp2
      go_ret
      exact ⟨rfl, rfl⟩

theorem typed_any (b : Bool) (w : World) : Calls Tryz.prog 78 #[.bool b] w fun e w' => e = .returned (.int .i64 (typedM b)) ∧ w' = w := by
  cases b <;>
  · go_enter Tryz.func78, Tryz.ntmps78
    go_wp2
    go_ret
    exact ⟨rfl, rfl⟩

theorem mconv1 (w : World) (b cap : Nat) (c : Int) (h : w.cell? ⟨b, 0, none⟩ = some (.int .u8 c)) : (convert 134 9 (.slice (some ⟨b, 0, none⟩) 1 cap)).run Tryz.prog w = .ok (.string ⟨#[UInt8.ofNat c.toNat]⟩) w := conv1 w b cap c h

set_option maxHeartbeats 1000000 in
theorem kind_any (bt : Int) (w : World) (h0 : 0 ≤ bt) (h1 : bt ≤ 255) : Calls Tryz.prog 80 #[.int .i64 bt] w fun e w' => e = .returned (sv (resOf bt)) ∧ Fr (fun _ => False) w w' := by
  by_cases hz : bt = 0
  · subst hz
    go_enter Tryz.func80, Tryz.ntmps80
    go_wp2
    go_ret
    exact ⟨rfl, Fr.refl _ _⟩
  · have e0 : resOf bt = [UInt8.ofNat bt.toNat] := by unfold resOf; rw [if_neg hz]
    rw [e0]
    have b0 : (bt == 0) = false := beq_eq_false_iff_ne.2 hz
    have hc1 := mconv1
    clear e0 hz
    go_enter Tryz.func80, Tryz.ntmps80
    go_wp2
    go_ret
    exact ⟨rfl, (Fr.refl _ _).alloc _⟩

set_option maxHeartbeats 1000000 in
theorem label_any (c : Ctl) (w : World) (h0 : 0 ≤ c.bt) (h1 : c.bt ≤ 255) : Calls Tryz.prog 82 #[.agg #[.int .i64 c.op, .int .i64 c.bt, .int .i64 c.height, .int .i64 c.at_, .bool c.dead]] w fun e w' => e = .returned (sv c.label) ∧ Fr (fun _ => False) w w' := by
  by_cases h2 : c.op = 2
  · have e0 : c.label = [] := by unfold Ctl.label; rw [if_pos h2]
    rw [e0, h2]
    go_enter Tryz.func82, Tryz.ntmps82
    go_wp2
    go_ret
    exact ⟨rfl, (Fr.refl _ _).alloc _⟩
  · have e0 : c.label = resOf c.bt := by unfold Ctl.label; rw [if_neg h2]
    rw [e0]
    have b2 : (c.op == 2) = false := beq_eq_false_iff_ne.2 h2
    have HK : Hid (∀ w, _) := fun w => kind_any c.bt w h0 h1
    clear e0 h2
    go_enter Tryz.func82, Tryz.ntmps82
    go_wp2_with fail
    refine (HK.out _).mono ?_
    rintro e w1 ⟨rfl, hf⟩
    have HF : Hid (Fr (fun _ => False) w w1) := ((Fr.refl _ w).alloc _).trans hf (fun _ _ h => h)
    clear hf
    go_wp2
    go_ret
    exact ⟨rfl, HF.out⟩

set_option maxRecDepth 100000 in
set_option maxHeartbeats 4000000 in
theorem sigM_any (op : Int) (w : World) :
    Calls Tryz.prog 86 #[.int .i64 op] w fun e w' => ∃ v : Value, e = .returned (.tuple #[sv (sigM op).1, sv (sigM op).2, v]) ∧ w' = w := by
  by_cases hs : op = 15 ∨ op = 17 ∨ op = 18 ∨ op = 16 ∨ op = 29 ∨ op = 19 ∨ op = 21 ∨ op = 22 ∨ op = 23 ∨ op = 24 ∨ op = 20 ∨ op = 32 ∨ op = 33 ∨ op = 25 ∨ op = 27 ∨ op = 28 ∨ op = 26 ∨ op = 30 ∨ op = 31
  · rcases hs with rfl | rfl | rfl | rfl | rfl | rfl | rfl | rfl | rfl | rfl | rfl | rfl | rfl | rfl | rfl | rfl | rfl | rfl | rfl <;>
    · go_enter Tryz.func86, Tryz.ntmps86
      go_wp2
      go_ret3
      first | exact ⟨_, rfl, rfl⟩ | exact ⟨⟨_, rfl⟩, rfl⟩ | exact ⟨rfl, rfl⟩
  · simp only [not_or] at hs
    obtain ⟨x1, x2, x3, x4, x5, x6, x7, x8, x9, x10, x11, x12, x13, x14, x15, x16, x17, x18, x19⟩ := hs
    have b1 := beq_eq_false_iff_ne.2 x1
    have b2 := beq_eq_false_iff_ne.2 x2
    have b3 := beq_eq_false_iff_ne.2 x3
    have b4 := beq_eq_false_iff_ne.2 x4
    have b5 := beq_eq_false_iff_ne.2 x5
    have b6 := beq_eq_false_iff_ne.2 x6
    have b7 := beq_eq_false_iff_ne.2 x7
    have b8 := beq_eq_false_iff_ne.2 x8
    have b9 := beq_eq_false_iff_ne.2 x9
    have b10 := beq_eq_false_iff_ne.2 x10
    have b11 := beq_eq_false_iff_ne.2 x11
    have b12 := beq_eq_false_iff_ne.2 x12
    have b13 := beq_eq_false_iff_ne.2 x13
    have b14 := beq_eq_false_iff_ne.2 x14
    have b15 := beq_eq_false_iff_ne.2 x15
    have b16 := beq_eq_false_iff_ne.2 x16
    have b17 := beq_eq_false_iff_ne.2 x17
    have b18 := beq_eq_false_iff_ne.2 x18
    have b19 := beq_eq_false_iff_ne.2 x19
    by_cases hA : 40 ≤ op ∧ op < 56
    · have e0 : sigM op = ([105, 105], [105]) := by
        unfold sigM; simp only [x1, x2, x3, x4, x5, x6, x7, x8, x9, x10, x11, x12, x13, x14, x15, x16, x17, x18, x19, or_self, if_false, if_pos hA]
      rw [e0]
      clear e0 x1 x2 x3 x4 x5 x6 x7 x8 x9 x10 x11 x12 x13 x14 x15 x16 x17 x18 x19
      obtain ⟨hA1, hA2⟩ := hA
      go_enter Tryz.func86, Tryz.ntmps86
      go_wp2
      go_ret3
      first | exact ⟨_, rfl, rfl⟩ | exact ⟨⟨_, rfl⟩, rfl⟩ | exact ⟨rfl, rfl⟩
    · by_cases hB : 60 ≤ op ∧ op < 73
      · have e0 : sigM op = ([108, 108], [108]) := by
          unfold sigM; simp only [x1, x2, x3, x4, x5, x6, x7, x8, x9, x10, x11, x12, x13, x14, x15, x16, x17, x18, x19, or_self, if_false, if_neg hA, if_pos hB]
        rw [e0]
        clear e0 x1 x2 x3 x4 x5 x6 x7 x8 x9 x10 x11 x12 x13 x14 x15 x16 x17 x18 x19
        have hA2 : (decide (op < 56)) = false := by simp; omega
        obtain ⟨hB1, hB2⟩ := hB
        go_enter Tryz.func86, Tryz.ntmps86
        go_wp2
        go_ret3
        first | exact ⟨_, rfl, rfl⟩ | exact ⟨⟨_, rfl⟩, rfl⟩ | exact ⟨rfl, rfl⟩
      · have e0 : sigM op = ([108, 108], [105]) := by
          unfold sigM; simp only [x1, x2, x3, x4, x5, x6, x7, x8, x9, x10, x11, x12, x13, x14, x15, x16, x17, x18, x19, or_self, if_false, if_neg hA, if_neg hB]
        rw [e0]
        clear e0 x1 x2 x3 x4 x5 x6 x7 x8 x9 x10 x11 x12 x13 x14 x15 x16 x17 x18 x19
        by_cases h1 : op < 40
        · have z1 : ¬ 73 ≤ op := by omega
          go_enter Tryz.func86, Tryz.ntmps86
          go_wp2
          go_ret3
          first | exact ⟨_, rfl, rfl⟩ | exact ⟨⟨_, rfl⟩, rfl⟩ | exact ⟨rfl, rfl⟩
        · by_cases h2 : op < 60
          · have h3 : 56 ≤ op := by omega
            have z1 : ¬ 73 ≤ op := by omega
            go_enter Tryz.func86, Tryz.ntmps86
            go_wp2
            go_ret3
            first | exact ⟨_, rfl, rfl⟩ | exact ⟨⟨_, rfl⟩, rfl⟩ | exact ⟨rfl, rfl⟩
          · have h3 : 73 ≤ op := by omega
            by_cases h4 : op < 76
            · go_enter Tryz.func86, Tryz.ntmps86
              go_wp2
              go_ret3
              first | exact ⟨_, rfl, rfl⟩ | exact ⟨⟨_, rfl⟩, rfl⟩ | exact ⟨rfl, rfl⟩
            · go_enter Tryz.func86, Tryz.ntmps86
              go_wp2
              go_ret3
              first | exact ⟨_, rfl, rfl⟩ | exact ⟨⟨_, rfl⟩, rfl⟩ | exact ⟨rfl, rfl⟩

/-! ### Ends -/
theorem endsR_range : ∀ (l : List Ins) (j e : Int) (d : Nat), -1 ≤ e → e ≤ j → 0 ≤ j → (-1 ≤ (endsR l j e d).1 ∧ (endsR l j e d).1 ≤ j + l.length) ∧ (j - 1 ≤ (endsR l j e d).2 ∧ (endsR l j e d).2 ≤ j + l.length - 1)
  | [], j, e, d, h1, h2, h3 => by unfold endsR; simp; omega
  | c :: cs, j, e, d, h1, h2, h3 => by
    unfold endsR
    simp only [List.length_cons]
    split
    · have := endsR_range cs (j + 1) e (d + 1) h1 (by omega) (by omega); omega
    split
    · have := endsR_range cs (j + 1) (if d = 0 then j else e) d (by split <;> omega) (by split <;> omega) (by omega); omega
    split
    · split
      · simp; omega
      · have := endsR_range cs (j + 1) e (d - 1) h1 (by omega) (by omega); omega
    · have := endsR_range cs (j + 1) e d h1 (by omega) (by omega); omega

set_option maxRecDepth 100000 in
set_option maxHeartbeats 2000000 in
theorem ends_any (src : List Ins) (a : Option Addr) (cap i : Nat) (w : World) (hv : w.ownsRow 0 67 3 (.slice a src.length cap) src.length (insCells src)) (hl : src.length ≤ 1000) (hi : i < src.length) :
    Calls Tryz.prog 76 #[.slice a src.length cap, .int .i64 i] w fun e w' => e = .returned (.tuple #[.int .i64 (endsM src i).1, .int .i64 (endsM src i).2]) ∧ w' = w := by
  have HV : Hid (w.ownsRow 0 67 3 (.slice a src.length cap) src.length (insCells src)) := hv
  clear hv
  obtain ⟨res, hres⟩ : ∃ res, res = endsM src i := ⟨_, rfl⟩
  rw [← hres]
  have HR0 : Hid (res = endsM src i) := hres
  clear hres
  go_enter Tryz.func76, Tryz.ntmps76
  go_wp2
  go_loopw [6, 7, 8] (fun e d j wr => ∃ (k dd : Nat) (ee : Int), k ≤ src.length ∧ -1 ≤ ee ∧ ee ≤ k ∧ dd ≤ k ∧ e = .int .i64 ee ∧ d = .int .i64 dd ∧ j = .int .i64 k ∧ wr = w ∧ Hid (res = endsR (src.drop k) k ee dd)) (fun _ _ j _ => src.length - (intOf j).toNat)
  case atStart => exact ⟨i + 1, 0, -1, by omega, by omega, by omega, by omega, rfl, rfl, by go_num, rfl, HR0.out⟩
  case round =>
    obtain ⟨k, dd, ee, hk, he1, he2, hd, rfl, rfl, rfl, rfl, HR⟩ := hrel
    clear HR0
    by_cases hlt : k < src.length
    · obtain ⟨c, hc⟩ : ∃ c, src[k]? = some c := ⟨_, List.getElem?_eq_getElem hlt⟩
      obtain ⟨gc, hgc, hcc⟩ := owns_some HV.out (by omega)
      have hgl : gc < wr.heap.size := owns_lt HV.out gc (by rw [hgc]; rfl)
      have q0 := hcc (k * 3 + 0) (by omega)
      rw [insCells_at _ _ _ c hc (by omega)] at q0
      simp [Ins.cells] at q0
      subst hgc
      have hdrop : src.drop k = c :: src.drop (k + 1) := by rw [List.drop_eq_getElem_cons hlt, (List.getElem?_eq_some_iff.1 hc).2]
      have hR := HR.out
      rw [hdrop] at hR
      unfold endsR at hR
      have HR2 : Hid (res = _) := hR
      clear hR HR hcc hdrop hc
      obtain ⟨cop, cimm, ctab⟩ := c
      simp only at q0 HR2
      by_cases h1 : cop = 1 ∨ cop = 2 ∨ cop = 3
      · have HE : Hid (res = endsR (src.drop (k + 1)) ((k + 1 : Nat) : Int) ee (dd + 1)) := by
          have := HR2.out; rw [if_pos h1] at this; show _ = _; push_cast; exact this
        clear HR2
        rcases h1 with rfl | rfl | rfl <;>
        · go_wp2
          go_roundw
          case rel => exact ⟨k + 1, dd + 1, ee, by omega, he1, by omega, by omega, rfl, by go_num, by go_num, trivial, HE⟩
          case measure => simp [intOf]; omega
      · have b1 : (cop == 1) = false := beq_eq_false_iff_ne.2 (by omega)
        have b2 : (cop == 2) = false := beq_eq_false_iff_ne.2 (by omega)
        have b3 : (cop == 3) = false := beq_eq_false_iff_ne.2 (by omega)
        by_cases h4 : cop = 4
        · subst h4
          by_cases hd0 : dd = 0
          · subst hd0
            have HE : Hid (res = endsR (src.drop (k + 1)) ((k + 1 : Nat) : Int) k 0) := by
              have := HR2.out; rw [if_neg h1, if_pos rfl, if_pos rfl] at this; show _ = _; push_cast; exact this
            clear HR2 h1
            go_wp2
            go_roundw
            case rel => exact ⟨k + 1, 0, k, by omega, by omega, by omega, by omega, rfl, rfl, by go_num, trivial, HE⟩
            case measure => simp [intOf]; omega
          · have HE : Hid (res = endsR (src.drop (k + 1)) ((k + 1 : Nat) : Int) ee dd) := by
              have := HR2.out; rw [if_neg h1, if_pos rfl, if_neg hd0] at this; show _ = _; push_cast; exact this
            have bd : ((dd : Int) == 0) = false := beq_eq_false_iff_ne.2 (by omega)
            clear HR2 h1
            go_wp2
            go_roundw
            case rel => exact ⟨k + 1, dd, ee, by omega, he1, by omega, by omega, rfl, rfl, by go_num, trivial, HE⟩
            case measure => simp [intOf]; omega
        · have b4 : (cop == 4) = false := beq_eq_false_iff_ne.2 h4
          by_cases h5 : cop = 5
          · subst h5
            by_cases hd0 : dd = 0
            · subst hd0
              have HE : Hid (res = (ee, (k : Int))) := by
                have := HR2.out; rw [if_neg h1, if_neg h4, if_pos rfl, if_pos rfl] at this; exact this
              clear HR2 h1
              go_wp2
              go_ret2
              rw [HE.out]
              exact ⟨rfl, rfl⟩
            · have HE : Hid (res = endsR (src.drop (k + 1)) ((k + 1 : Nat) : Int) ee (dd - 1)) := by
                have := HR2.out; rw [if_neg h1, if_neg h4, if_pos rfl, if_neg hd0] at this; show _ = _; push_cast; exact this
              have bd : ((dd : Int) == 0) = false := beq_eq_false_iff_ne.2 (by omega)
              clear HR2 h1
              go_wp2
              go_roundw
              case rel => exact ⟨k + 1, dd - 1, ee, by omega, he1, by omega, by omega, rfl, by go_num, by go_num, trivial, HE⟩
              case measure => simp [intOf]; omega
          · have b5 : (cop == 5) = false := beq_eq_false_iff_ne.2 h5
            have HE : Hid (res = endsR (src.drop (k + 1)) ((k + 1 : Nat) : Int) ee dd) := by
              have := HR2.out; rw [if_neg h1, if_neg h4, if_neg h5] at this; show _ = _; push_cast; exact this
            clear HR2 h1 h4 h5
            go_wp2
            go_roundw
            case rel => exact ⟨k + 1, dd, ee, by omega, he1, by omega, by omega, rfl, rfl, by go_num, trivial, HE⟩
            case measure => simp [intOf]; omega
    · obtain rfl : k = src.length := by omega
      have HE : Hid (res = (ee, ((src.length : Nat) : Int) - 1)) := by
        have := HR.out; rw [List.drop_length] at this; exact this
      clear HR
      go_wp2
      go_ret2
      rw [HE.out]
      exact ⟨rfl, rfl⟩
end Go.Proofs.Qxb6500575aGreatDoor
