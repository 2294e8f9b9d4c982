/-
  THE WALKS of mach.scatter and mach.Store, exact.
-/
import Derived.Test.Qxb6500575aGreatDoorXLoad
import Derived.Test.Qxb6500575aGreatDoorKScat
namespace Go.Proofs.Qxb6500575aGreatDoor
open Go Go.RowKit
set_option linter.unusedVariables false
set_option linter.unusedSimpArgs false

/-- n bytes of wb, from its place o on, are laid at q -/
structure Wr (d d2 : KD) (q n o : Nat) (wb : List UInt8) : Prop where
  len : d2.pages.length = d.pages.length
  max : d2.max = d.max
  byte : ∀ i, d2.byte i = if q ≤ i ∧ i < q + n then wb.getD (o + (i - q)) 0 else d.byte i
theorem KD.byte_set (d : KD) (pi : Nat) (bs : List UInt8) (hpi : pi < d.pages.length) (i : Nat) : ({ d with pages := d.pages.set pi (some bs) } : KD).byte i = if i / 8 = pi then bs.getD (i % 8) 0 else d.byte i := by
  unfold KD.byte
  simp only
  by_cases h : i / 8 = pi
  · rw [if_pos h, ← h, List.getElem?_set_self (by omega)]
    simp [List.getD_eq_getElem?_getD]
  · rw [if_neg h, List.getElem?_set_ne (fun e => h e.symm)]
theorem KD.byte_page {d : KD} {pi : Nat} {bs : List UInt8} (h : d.pages[pi]? = some (some bs)) {i : Nat} (hi : i / 8 = pi) : d.byte i = bs.getD (i % 8) 0 := by
  unfold KD.byte
  rw [hi, h]
  simp [List.getD_eq_getElem?_getD]
section
variable {w : World} {bk : Nat} {L : KL} {d : KD}
theorem xscat_copy (hK : KRep w bk L d) {pi g : Nat} (hps : L.ps[pi]? = some (some g)) {B : Nat} {wb : List UInt8} (hwb : wb.length = 8) (hB : Has w B (byteCells wb).toArray 158) (o m t n : Nat) (h1 : o + m ≤ 8) (h2 : t < 8) (h3 : n = min m (8 - t)) :
    ∃ wc d2, Hid (KRep wc bk L d2 ∧ KStep w wc bk L L ∧ Wr d d2 (pi * 8 + t) n o wb ∧ Has wc B (byteCells wb).toArray 158) ∧
      (Builtin.copy_ #[134, 134] 3 #[.slice (some ⟨g, t, none⟩) (8 - t) (8 - t), .slice (some ⟨B, o, none⟩) m (8 - o)]).run Tryz.prog w = .ok (.int .i64 n) wc := by
  obtain ⟨bs, e1, e2, e3⟩ := hK.page _ _ hps
  have hgB : g ≠ B := fun e => e3.ne hB (by decide) e
  have hx : ((wb.drop o).take n).length = n := by simp; omega
  have hrun := run_copy_cells (P := Tryz.prog) w 134 134 3 5 (by kernel_rfl) (by kernel_rfl) g t (8 - t) (8 - t) B o m (8 - o) (byteCells bs).toArray 5 e3 (byteCells ((wb.drop o).take n)) n (by omega) (by rw [byteCells_len]; exact hx)
    (by
      intro j v hj
      rw [hB.cell]
      have hj' : j < n := by have := (List.getElem?_eq_some_iff.1 hj).1; rw [byteCells_len, hx] at this; exact this
      simp only [byteCells, List.getElem?_map, List.getElem?_take, if_pos hj', List.getElem?_drop] at hj
      simpa [byteCells] using hj)
    (by intro u hu; simp only [byteCells, List.mem_map] at hu; obtain ⟨b, _, rfl⟩ := hu; rfl)
    (by simp [byteCells_len, e2]; omega)
  have e4 : List.take t (byteCells bs) ++ byteCells ((wb.drop o).take n) ++ List.drop (t + n) (byteCells bs) = byteCells (bs.take t ++ (wb.drop o).take n ++ bs.drop (t + n)) := by
    unfold byteCells
    rw [← List.map_take, ← List.map_drop, ← List.map_append, ← List.map_append]
  simp only [e4] at hrun
  obtain ⟨k1, k2⟩ := hK.write hps (bs.take t ++ (wb.drop o).take n ++ bs.drop (t + n)) (by simp; omega) rfl
  have hpl : pi < d.pages.length := by rw [← hK.len]; exact (List.getElem?_eq_some_iff.1 hps).1
  have hn8 : t + n ≤ 8 := by omega
  have hwr : Wr d { d with pages := d.pages.set pi (some (bs.take t ++ (wb.drop o).take n ++ bs.drop (t + n))) } (pi * 8 + t) n o wb := by
    refine ⟨by simp, rfl, fun i => ?_⟩
    rw [KD.byte_set d pi _ hpl i]
    by_cases hi : i / 8 = pi
    · rw [if_pos hi]
      have hit : i = pi * 8 + i % 8 := by omega
      have h8 : i % 8 < 8 := by omega
      generalize i % 8 = r at hit h8
      subst hit
      have l1 : (bs.take t).length = t := by simp; omega
      by_cases c1 : r < t
      · rw [if_neg (by omega), KD.byte_page e1 hi, show (pi * 8 + r) % 8 = r by omega]
        simp only [List.getD_eq_getElem?_getD]
        rw [List.append_assoc, List.getElem?_append_left (by omega), List.getElem?_take_of_lt c1]
      · by_cases c2 : r < t + n
        · rw [if_pos (by omega)]
          simp only [List.getD_eq_getElem?_getD]
          rw [List.append_assoc, List.getElem?_append_right (by omega), List.getElem?_append_left (by omega), List.getElem?_take_of_lt (by omega), List.getElem?_drop, l1, show o + (pi * 8 + r - (pi * 8 + t)) = o + (r - t) by omega]
        · rw [if_neg (by omega), KD.byte_page e1 hi, show (pi * 8 + r) % 8 = r by omega]
          simp only [List.getD_eq_getElem?_getD]
          rw [List.append_assoc, List.getElem?_append_right (by omega), List.getElem?_append_right (by omega), List.getElem?_drop, l1, hx, show t + n + (r - t - n) = r by omega]
    · rw [if_neg hi, if_neg (by omega)]
  exact ⟨_, _, ⟨k1, k2, hwr, hB.fr k2.fr (hK.typed.has hB (by decide))⟩, hrun⟩
theorem KRep.xpage0 (h : KRep w bk L d) {pi gp : Nat} (hps : L.ps[pi]? = some none) (hpa : L.pa = some ⟨gp, 0, none⟩) (hgl : gp < w.heap.size) : ∃ L2 d2,
    KRep (((w.setCell ⟨gp, pi, none⟩ (.pointer (some ⟨w.heap.size, 0, none⟩))).setCell ⟨bk, 2, none⟩ (.int .i64 (L.made + 1))).alloc (.cells z8 5)).drew bk L2 d2 ∧
    KStep w (((w.setCell ⟨gp, pi, none⟩ (.pointer (some ⟨w.heap.size, 0, none⟩))).setCell ⟨bk, 2, none⟩ (.int .i64 (L.made + 1))).alloc (.cells z8 5)).drew bk L L2 ∧ L2.ps[pi]? = some (some w.heap.size) ∧ d2.pages.length = d.pages.length ∧ d2.max = d.max ∧ ∀ i, d2.byte i = d.byte i := by
  have hF : Fr (fun _ => False) w (w.alloc (.cells z8 5)).drew := ((Fr.refl _ _).alloc _).drew
  have hb : Has (w.alloc (.cells z8 5)).drew w.heap.size (byteCells (List.replicate 8 0)).toArray 5 := (Has.new w _ _).drew
  have hnk : ¬ KS bk L w.heap.size := fun hk => by have := h.lt hk; omega
  obtain ⟨k1, k2, k3⟩ := (h.fresh hF).make hps hpa hb hnk
  have hil : pi < L.ps.length := (List.getElem?_eq_some_iff.1 hps).1
  have hbk := h.here.lt
  have e : (((w.alloc (.cells z8 5)).drew.setCell ⟨gp, pi, none⟩ (.pointer (some ⟨w.heap.size, 0, none⟩))).setCell ⟨bk, 2, none⟩ (.int .i64 (L.made + 1))) = (((w.setCell ⟨gp, pi, none⟩ (.pointer (some ⟨w.heap.size, 0, none⟩))).setCell ⟨bk, 2, none⟩ (.int .i64 (L.made + 1))).alloc (.cells z8 5)).drew := by
    rw [World.setCell_drew, World.setCell_alloc_past _ _ _ _ hgl, World.setCell_drew, World.setCell_alloc_past _ _ _ _ (by simpa [World.setCell] using hbk)]
  rw [e] at k1 k3
  refine ⟨_, _, k1, ⟨hF.weaken (fun _ _ h => h.elim) |>.trans k3 (fun _ _ h => h), fun k hk hS => ?_⟩, by simp only; rw [List.getElem?_set_self hil], by simp, rfl, fun i => ?_⟩
  · rcases k2 k hS with h1 | h1
    · exact h1
    · omega
  · have hpl : pi < d.pages.length := by rw [← h.len]; exact hil
    rw [KD.byte_set d pi _ hpl i]
    split
    · rename_i hi
      have hz : d.byte i = 0 := by
        unfold KD.byte
        rw [hi, h.nil pi hps]
        rfl
      rw [hz]
      rw [List.getD_eq_getElem?_getD, List.getElem?_replicate]
      split <;> rfl
    · rfl
set_option maxRecDepth 100000
set_option maxHeartbeats 400000
theorem xscatter (h : KRep w bk L d) {B : Nat} {wb : List UInt8} (hwb : wb.length = 8) (hB : Has w B (byteCells wb).toArray 158) (ea wd : Nat) (h1 : 1 ≤ wd) (h8 : wd ≤ 8) (hin : ea + wd ≤ d.pages.length * 8) :
    Calls Tryz.prog 130 #[.pointer (some ⟨bk, 0, none⟩), .int .i64 ea, .slice (some ⟨B, 0, none⟩) wd 8] w fun e w' => e = .returned (.tuple #[]) ∧ ∃ L' d', KRep w' bk L' d' ∧ KStep w w' bk L L' ∧ Wr d d' ea wd 0 wb := by
  have hp : d.pages.length ≤ 4 := by have := h.le; have := h.max; omega
  go_enter Tryz.func130, Tryz.ntmps130
  go_wp2
  go_loopw [1, 2] (fun e v wr => ∃ (q o m c : Nat) (p : Addr) (L1 : KL) (d1 : KD), e = .int .i64 q ∧ v = .slice (some p) m c ∧ Hid (q = ea + o ∧ o + m = wd ∧ (0 < m → p = ⟨B, o, none⟩ ∧ c = 8 - o) ∧ Wr d d1 ea o 0 wb) ∧ Hid (KRep wr bk L1 d1) ∧ Hid (KStep w wr bk L L1) ∧ Hid (Has wr B (byteCells wb).toArray 158)) (fun e _ _ => ea + wd - (intOf e).toNat)
  case atStart => exact ⟨ea, 0, wd, 8, _, L, d, rfl, rfl, ⟨rfl, by omega, fun _ => ⟨rfl, rfl⟩, ⟨rfl, rfl, fun i => by rw [if_neg (by omega)]⟩⟩, h, KStep.refl _ _ _, hB⟩
  case round =>
    clear h hB
    obtain ⟨q, o, m, c, p, L1, d1, rfl, rfl, HQ, HK, HS, HB⟩ := hrel
    by_cases hm : 0 < m
    · obtain ⟨hq, hom, hpc, hwr0⟩ := HQ.out
      have hdl := hwr0.len
      obtain ⟨rfl, rfl⟩ := hpc hm
      obtain ⟨pi, HPI⟩ : ∃ pi : Nat, Hid (pi = q / 8) := ⟨_, rfl⟩
      obtain ⟨t, HT⟩ : ∃ t : Nat, Hid (t = q % 8) := ⟨_, rfl⟩
      have hpi := HPI.out
      have ht := HT.out
      obtain ⟨po, hps, gp, hpa, hcell, hfz, hgl, hcap, hne⟩ := HK.out.ptr (i := pi) (by omega)
      have c0 := HK.out.here.cell 0
      simp at c0
      rw [hpa] at c0
      have hq8 : pi < d1.pages.length := by omega
      have hq4 : pi ≤ 4 := by omega
      have hr8 : t < 8 := by omega
      have hql : q ≤ 32 := by omega
      have hmo : m ≤ 8 := by omega
      have ho8 : o ≤ 8 := by omega
      obtain ⟨n, hn1, hn2, hn3, HN⟩ : ∃ n : Nat, n ≤ m ∧ t + n ≤ 8 ∧ 0 < n ∧ Hid (n = min m (8 - t)) := ⟨min m (8 - t), by omega, by omega, by omega, rfl⟩
      have hno : o + n ≤ 8 := by omega
      have homl : o + m ≤ 8 := by omega
      clear hpc hom hq hpi ht hdl hwr0
      cases po with
      | none =>
        simp only [ptrV, Option.map_none] at hcell
        have k1 := HK.out.here.lt
        obtain ⟨L2, d2, k2, ks2, hps2, hdl2, hmx2, hby2⟩ := HK.out.xpage0 hps hpa hgl
        have HB2 : Has _ B (byteCells wb).toArray 158 := HB.out.fr ks2.fr (HK.out.typed.has HB.out (by decide))
        obtain ⟨wc, d3, HW, hrun⟩ := xscat_copy k2 hps2 hwb HB2 o m t n homl hr8 HN.out
        have hmade : 0 ≤ L1.made ∧ L1.made ≤ 4 := by
          have h1 : L1.ps.countP Option.isSome ≤ L1.ps.length := List.countP_le_length
          have h2 := HK.out.len
          have h3 := HK.out.le
          have h4 := HK.out.max
          unfold KL.made
          omega
        have HS2 : Hid (KStep wr _ bk L1 L2) := ks2
        have HDL : Hid (d2.pages.length = d1.pages.length ∧ d2.max = d1.max ∧ ∀ i, d2.byte i = d1.byte i) := ⟨hdl2, hmx2, hby2⟩
        have c2 := HK.out.here.cell 2
        simp at c2
        generalize L1.made = md at *
        clear k2 ks2 HB2 hdl2 hmx2 hby2
        have f2 := HK.out.here.frozen 2
        have hfp := hfz pi
        have hmk := run_make8 wr.drew
        have hat := fun w => run_arrAt 158 8 5 arr8 ⟨wr.heap.size, 0, none⟩ 8 8 (by omega) w
        have hsl := fun w => run_arrFrom wr.heap.size t w hr8
        go_wp2_with fail
        refine (split_any q hql _).mono ?_
        rintro e w1 ⟨rfl, rfl⟩
        rw [← HPI.out, ← HT.out]
        go_wp2
        refine wp_region_head 5 2 (fun y => y = w1.drew ∨ y = (w1.alloc (.cells z8 5)).drew) (by kernel_rfl) (by kernel_rfl) (fun _ _ _ _ _ h => h) (.inl rfl) ?_
        simp only [List.take_succ_cons, List.take_zero, List.drop_succ_cons, List.drop_zero]
        repeat go_big_quiet_step (fail)
        refine wpQuiet_nil ?_
        unfold wpChain
        go_wp2
        refine ⟨.inr trivial, ?_⟩
        unfold wpChain
        go_wp2
        refine ⟨.inr trivial, ?_⟩
        rw [wpChain_zero]
        go_wp2
        go_roundw
        case rel =>
          have hQ := HQ.out
          have hP8 : q = pi * 8 + t := by have := HPI.out; have := HT.out; omega
          refine ⟨q + n, o + n, m - n, 8 - o - n, (if 8 - o = n then ⟨B, o, none⟩ else ⟨B, o + n, none⟩), L2, d3, by simp, by split <;> rfl, ⟨by omega, by omega, fun h => ⟨by rw [if_neg (by omega)], by omega⟩, ⟨(HW.out.2.2.1.len.trans HDL.out.1).trans hQ.2.2.2.len, (HW.out.2.2.1.max.trans HDL.out.2.1).trans hQ.2.2.2.max, fun i => by
            rw [HW.out.2.2.1.byte, HDL.out.2.2, hQ.2.2.2.byte, ← hP8]
            by_cases c1 : q ≤ i ∧ i < q + n
            · rw [if_pos c1, if_pos (by omega)]; congr 1; omega
            · rw [if_neg c1]
              by_cases c2 : ea ≤ i ∧ i < ea + o
              · rw [if_pos c2, if_pos (by omega)]
              · rw [if_neg c2, if_neg (by omega)]⟩⟩, HW.out.1, (HS.out.trans HS2.out).trans HW.out.2.1, HW.out.2.2.2⟩
        case measure =>
          have hQ := HQ.out
          simp [intOf]
          omega
      | some g =>
        simp only [ptrV, Option.map_some] at hcell
        have hsl := run_arrFrom g t wr hr8
        obtain ⟨wc, d2, HW, hrun⟩ := xscat_copy HK.out hps hwb HB.out o m t n homl hr8 HN.out
        go_wp2_with fail
        refine (split_any q hql _).mono ?_
        rintro e w1 ⟨rfl, rfl⟩
        rw [← HPI.out, ← HT.out]
        go_wp2
        go_roundw
        case rel =>
          have hQ := HQ.out
          have hP8 : q = pi * 8 + t := by have := HPI.out; have := HT.out; omega
          refine ⟨q + n, o + n, m - n, 8 - o - n, (if 8 - o = n then ⟨B, o, none⟩ else ⟨B, o + n, none⟩), L1, d2, by simp, by split <;> rfl, ⟨by omega, by omega, fun h => ⟨by rw [if_neg (by omega)], by omega⟩, ⟨HW.out.2.2.1.len.trans hQ.2.2.2.len, HW.out.2.2.1.max.trans hQ.2.2.2.max, fun i => by
            rw [HW.out.2.2.1.byte, hQ.2.2.2.byte, ← hP8]
            by_cases c1 : q ≤ i ∧ i < q + n
            · rw [if_pos c1, if_pos (by omega)]; congr 1; omega
            · rw [if_neg c1]
              by_cases c2 : ea ≤ i ∧ i < ea + o
              · rw [if_pos c2, if_pos (by omega)]
              · rw [if_neg c2, if_neg (by omega)]⟩⟩, HW.out.1, HS.out.trans HW.out.2.1, HW.out.2.2.2⟩
        case measure =>
          have hQ := HQ.out
          simp [intOf]
          omega
    · go_wp2
      go_end0
      have hQ := HQ.out
      obtain rfl : o = wd := by omega
      exact ⟨rfl, L1, d1, HK.out, HS.out, hQ.2.2.2⟩
end
end Go.Proofs.Qxb6500575aGreatDoor
