/-
  THE WALKS of mach: scatter, Store.
-/
import Derived.Test.Qxb6500575aGreatDoorKLoad
namespace Go.Proofs.Qxb6500575aGreatDoor
open Go Go.RowKit
set_option linter.unusedVariables false
set_option linter.unusedSimpArgs false

theorem run_arrFrom (g t : Nat) (w : World) (ht : t < 8) : (Instr.sliceAt 158 (.pointer (some ⟨g, 0, none⟩)) (some (.int .i64 (t : Int))) none none).run Tryz.prog w = .ok (.slice (some ⟨g, t, none⟩) (8 - t) (8 - t)) w := by
  obtain ⟨i, hq, hs⟩ := u8one
  have a1 : (t : Int) ≤ 8 := by omega
  have a2 : ¬ 8 = t := by omega
  have a3 : t ≤ 8 := by omega
  simp [Instr.sliceAt, run_underlying arr8, Instr.sureAddr, Instr.sliceBounds, Instr.sliceBound, asIntOf, a1, a2, a3, sizeOf, typeInfo, hq, hs, Addr.add_lit]
theorem u8val (x : Int) : ∃ b : UInt8, x % 256 = (b.toNat : Int) := ⟨UInt8.ofNat (x % 256).toNat, by simp [UInt8.toNat_ofNat]; omega⟩
/-- a page of zeros -/
def z8 : Array Value := (byteCells (List.replicate 8 0)).toArray
theorem run_make8 (w : World) : (Instr.makeSlice 134 (.int .i64 8) (.int .i64 8)).run Tryz.prog w = .ok (.slice (some ⟨w.heap.size, 0, none⟩) 8 8) (w.alloc (.cells z8 5)) := by
  have hi : (Tryz.prog.info? 5).map (fun i => (i.zero, i.size, i.bytes)) = some (some (.int .u8 0), 1, 1) := by kernel_rfl
  obtain ⟨i, hi, hz, hsize, hby⟩ := info_parts hi
  have ht : Tryz.prog.underlying 134 = some (.slice 5) := by kernel_rfl
  have := run_make (P := Tryz.prog) w _ _ i _ ht hi hz .i64 .i64 8 8 (by omega) (by omega) (by rw [hby]; omega) (by omega)
  rw [this]
  have hc : madeCells (Value.int .u8 0).cells (Int.toNat 8 * i.size) = (byteCells (List.replicate 8 0)).toArray := by
    rw [hsize]
    apply Array.ext'
    rw [show (Value.int .u8 0).cells = #[Value.int .u8 0] from rfl, toList_madeCells_one]
    rfl
  rw [hc]
  rfl
section
variable {w : World} {bk : Nat} {L : KL} {d : KD}
theorem scat_copy (hK : KRep w bk L d) {pi g : Nat} (hps : L.ps[pi]? = some (some g)) {B : Nat} {wb : List UInt8} (hwb : wb.length = 8) (hB : Has w B (byteCells wb).toArray 158) (o m t n : Nat) (h1 : o + m ≤ 8) (h2 : t < 8) (h3 : n = min m (8 - t)) :
    ∃ wc d2, Hid (KRep wc bk L d2 ∧ KStep w wc bk L L ∧ d2.pages.length = d.pages.length ∧ Has wc B (byteCells wb).toArray 158) ∧
      (Builtin.copy_ #[134, 134] 3 #[.slice (some ⟨g, t, none⟩) (8 - t) (8 - t), .slice (some ⟨B, o, none⟩) m (8 - o)]).run Tryz.prog w = .ok (.int .i64 n) wc := by
  obtain ⟨bs, e1, e2, e3⟩ := hK.page _ _ hps
  have hgB : g ≠ B := fun e => e3.ne hB (by decide) e
  have hx : ((wb.drop o).take n).length = n := by simp; omega
  have hrun := run_copy_cells (P := Tryz.prog) w 134 134 3 5 (by kernel_rfl) (by kernel_rfl) g t (8 - t) (8 - t) B o m (8 - o) (byteCells bs).toArray 5 e3 (byteCells ((wb.drop o).take n)) n (by omega) (by rw [byteCells_len]; exact hx)
    (by
      intro j v hj
      rw [hB.cell]
      have hj' : j < n := by have := (List.getElem?_eq_some_iff.1 hj).1; rw [byteCells_len, hx] at this; exact this
      simp only [byteCells, List.getElem?_map, List.getElem?_take, if_pos hj', List.getElem?_drop] at hj
      simpa [byteCells] using hj)
    (by intro u hu; simp only [byteCells, List.mem_map] at hu; obtain ⟨b, _, rfl⟩ := hu; rfl)
    (by simp [byteCells_len, e2]; omega)
  have e4 : List.take t (byteCells bs) ++ byteCells ((wb.drop o).take n) ++ List.drop (t + n) (byteCells bs) = byteCells (bs.take t ++ (wb.drop o).take n ++ bs.drop (t + n)) := by
    unfold byteCells
    rw [← List.map_take, ← List.map_drop, ← List.map_append, ← List.map_append]
  simp only [e4] at hrun
  obtain ⟨k1, k2⟩ := hK.write hps (bs.take t ++ (wb.drop o).take n ++ bs.drop (t + n)) (by simp; omega) rfl
  exact ⟨_, _, ⟨k1, k2, by simp, hB.fr k2.fr (hK.typed.has hB (by decide))⟩, hrun⟩
theorem KRep.lt (h : KRep w bk L d) {k : Nat} (hk : KS bk L k) : k < w.heap.size := by
  obtain ⟨cs, t, h1, _⟩ := h.typed k hk
  exact h1.lt
/-- a page is made where none was -/
theorem KRep.page0 (h : KRep w bk L d) {pi gp : Nat} (hps : L.ps[pi]? = some none) (hpa : L.pa = some ⟨gp, 0, none⟩) (hgl : gp < w.heap.size) : ∃ L2 d2,
    KRep (((w.setCell ⟨gp, pi, none⟩ (.pointer (some ⟨w.heap.size, 0, none⟩))).setCell ⟨bk, 2, none⟩ (.int .i64 (L.made + 1))).alloc (.cells z8 5)).drew bk L2 d2 ∧
    KStep w (((w.setCell ⟨gp, pi, none⟩ (.pointer (some ⟨w.heap.size, 0, none⟩))).setCell ⟨bk, 2, none⟩ (.int .i64 (L.made + 1))).alloc (.cells z8 5)).drew bk L L2 ∧ L2.ps[pi]? = some (some w.heap.size) ∧ d2.pages.length = d.pages.length := by
  have hF : Fr (fun _ => False) w (w.alloc (.cells z8 5)).drew := ((Fr.refl _ _).alloc _).drew
  have hb : Has (w.alloc (.cells z8 5)).drew w.heap.size (byteCells (List.replicate 8 0)).toArray 5 := (Has.new w _ _).drew
  have hnk : ¬ KS bk L w.heap.size := fun hk => by have := h.lt hk; omega
  obtain ⟨k1, k2, k3⟩ := (h.fresh hF).make hps hpa hb hnk
  have hil : pi < L.ps.length := (List.getElem?_eq_some_iff.1 hps).1
  have hbk := h.here.lt
  have e : (((w.alloc (.cells z8 5)).drew.setCell ⟨gp, pi, none⟩ (.pointer (some ⟨w.heap.size, 0, none⟩))).setCell ⟨bk, 2, none⟩ (.int .i64 (L.made + 1))) = (((w.setCell ⟨gp, pi, none⟩ (.pointer (some ⟨w.heap.size, 0, none⟩))).setCell ⟨bk, 2, none⟩ (.int .i64 (L.made + 1))).alloc (.cells z8 5)).drew := by
    rw [World.setCell_drew, World.setCell_alloc_past _ _ _ _ hgl, World.setCell_drew, World.setCell_alloc_past _ _ _ _ (by simpa [World.setCell] using hbk)]
  rw [e] at k1 k3
  refine ⟨_, _, k1, ⟨hF.weaken (fun _ _ h => h.elim) |>.trans k3 (fun _ _ h => h), fun k hk hS => ?_⟩, by simp only; rw [List.getElem?_set_self hil], by simp⟩
  rcases k2 k hS with h1 | h1
  · exact h1
  · omega
set_option maxRecDepth 100000
set_option maxHeartbeats 400000
theorem scatter_any (h : KRep w bk L d) {B : Nat} {wb : List UInt8} (hwb : wb.length = 8) (hB : Has w B (byteCells wb).toArray 158) (ea wd : Nat) (h1 : 1 ≤ wd) (h8 : wd ≤ 8) (hin : ea + wd ≤ d.pages.length * 8) :
    Calls Tryz.prog 130 #[.pointer (some ⟨bk, 0, none⟩), .int .i64 ea, .slice (some ⟨B, 0, none⟩) wd 8] w fun e w' => e = .returned (.tuple #[]) ∧ ∃ L' d', KRep w' bk L' d' ∧ KStep w w' bk L L' := by
  have hp : d.pages.length ≤ 4 := by have := h.le; have := h.max; omega
  go_enter Tryz.func130, Tryz.ntmps130
  go_wp2
  go_loopw [1, 2] (fun e v wr => ∃ (q o m c : Nat) (p : Addr) (L1 : KL) (d1 : KD), e = .int .i64 q ∧ v = .slice (some p) m c ∧ Hid (q = ea + o ∧ o + m = wd ∧ (0 < m → p = ⟨B, o, none⟩ ∧ c = 8 - o) ∧ d1.pages.length = d.pages.length) ∧ Hid (KRep wr bk L1 d1) ∧ Hid (KStep w wr bk L L1) ∧ Hid (Has wr B (byteCells wb).toArray 158)) (fun e _ _ => ea + wd - (intOf e).toNat)
  case atStart => exact ⟨ea, 0, wd, 8, _, L, d, rfl, rfl, ⟨rfl, by omega, fun _ => ⟨rfl, rfl⟩, rfl⟩, h, KStep.refl _ _ _, hB⟩
  case round =>
    clear h hB
    obtain ⟨q, o, m, c, p, L1, d1, rfl, rfl, HQ, HK, HS, HB⟩ := hrel
    by_cases hm : 0 < m
    · obtain ⟨hq, hom, hpc, hdl⟩ := HQ.out
      obtain ⟨rfl, rfl⟩ := hpc hm
      obtain ⟨pi, HPI⟩ : ∃ pi : Nat, Hid (pi = q / 8) := ⟨_, rfl⟩
      obtain ⟨t, HT⟩ : ∃ t : Nat, Hid (t = q % 8) := ⟨_, rfl⟩
      have hpi := HPI.out
      have ht := HT.out
      obtain ⟨po, hps, gp, hpa, hcell, hfz, hgl, hcap, hne⟩ := HK.out.ptr (i := pi) (by omega)
      have c0 := HK.out.here.cell 0
      simp at c0
      rw [hpa] at c0
      have hq8 : pi < d1.pages.length := by omega
      have hq4 : pi ≤ 4 := by omega
      have hr8 : t < 8 := by omega
      have hql : q ≤ 32 := by omega
      have hmo : m ≤ 8 := by omega
      have ho8 : o ≤ 8 := by omega
      obtain ⟨n, hn1, hn2, hn3, HN⟩ : ∃ n : Nat, n ≤ m ∧ t + n ≤ 8 ∧ 0 < n ∧ Hid (n = min m (8 - t)) := ⟨min m (8 - t), by omega, by omega, by omega, rfl⟩
      have hno : o + n ≤ 8 := by omega
      have homl : o + m ≤ 8 := by omega
      clear hpc hom hq hpi ht hdl
      cases po with
      | none =>
        simp only [ptrV, Option.map_none] at hcell
        have k1 := HK.out.here.lt
        obtain ⟨L2, d2, k2, ks2, hps2, hdl2⟩ := HK.out.page0 hps hpa hgl
        have HB2 : Has _ B (byteCells wb).toArray 158 := HB.out.fr ks2.fr (HK.out.typed.has HB.out (by decide))
        obtain ⟨wc, d3, HW, hrun⟩ := scat_copy k2 hps2 hwb HB2 o m t n homl hr8 HN.out
        have hmade : 0 ≤ L1.made ∧ L1.made ≤ 4 := by
          have h1 : L1.ps.countP Option.isSome ≤ L1.ps.length := List.countP_le_length
          have h2 := HK.out.len
          have h3 := HK.out.le
          have h4 := HK.out.max
          unfold KL.made
          omega
        have HS2 : Hid (KStep wr _ bk L1 L2) := ks2
        have HDL : Hid (d2.pages.length = d1.pages.length) := hdl2
        have c2 := HK.out.here.cell 2
        simp at c2
        generalize L1.made = md at *
        clear k2 ks2 HB2 hdl2
        have f2 := HK.out.here.frozen 2
        have hfp := hfz pi
        have hmk := run_make8 wr.drew
        have hat := fun w => run_arrAt 158 8 5 arr8 ⟨wr.heap.size, 0, none⟩ 8 8 (by omega) w
        have hsl := fun w => run_arrFrom wr.heap.size t w hr8
        go_wp2_with fail
        refine (split_any q hql _).mono ?_
        rintro e w1 ⟨rfl, rfl⟩
        rw [← HPI.out, ← HT.out]
        go_wp2
        refine wp_region_head 5 2 (fun y => y = w1.drew ∨ y = (w1.alloc (.cells z8 5)).drew) (by kernel_rfl) (by kernel_rfl) (fun _ _ _ _ _ h => h) (.inl rfl) ?_
        simp only [List.take_succ_cons, List.take_zero, List.drop_succ_cons, List.drop_zero]
        repeat go_big_quiet_step (fail)
        refine wpQuiet_nil ?_
        unfold wpChain
        go_wp2
        refine ⟨.inr trivial, ?_⟩
        unfold wpChain
        go_wp2
        refine ⟨.inr trivial, ?_⟩
        rw [wpChain_zero]
        go_wp2
        go_roundw
        case rel =>
          have hQ := HQ.out
          refine ⟨q + n, o + n, m - n, 8 - o - n, (if 8 - o = n then ⟨B, o, none⟩ else ⟨B, o + n, none⟩), L2, d3, by simp, by split <;> rfl, ⟨by omega, by omega, fun h => ⟨by rw [if_neg (by omega)], by omega⟩, (HW.out.2.2.1.trans HDL.out).trans hQ.2.2.2⟩, HW.out.1, (HS.out.trans HS2.out).trans HW.out.2.1, HW.out.2.2.2⟩
        case measure =>
          have hQ := HQ.out
          simp [intOf]
          omega
      | some g =>
        simp only [ptrV, Option.map_some] at hcell
        have hsl := run_arrFrom g t wr hr8
        obtain ⟨wc, d2, HW, hrun⟩ := scat_copy HK.out hps hwb HB.out o m t n homl hr8 HN.out
        go_wp2_with fail
        refine (split_any q hql _).mono ?_
        rintro e w1 ⟨rfl, rfl⟩
        rw [← HPI.out, ← HT.out]
        go_wp2
        go_roundw
        case rel =>
          have hQ := HQ.out
          refine ⟨q + n, o + n, m - n, 8 - o - n, (if 8 - o = n then ⟨B, o, none⟩ else ⟨B, o + n, none⟩), L1, d2, by simp, by split <;> rfl, ⟨by omega, by omega, fun h => ⟨by rw [if_neg (by omega)], by omega⟩, HW.out.2.2.1.trans hQ.2.2.2⟩, HW.out.1, HS.out.trans HW.out.2.1, HW.out.2.2.2⟩
        case measure =>
          have hQ := HQ.out
          simp [intOf]
          omega
    · go_wp2
      go_end0
      exact ⟨rfl, L1, d1, HK.out, HS.out⟩
theorem kstore_any (h : KRep w bk L d) (op a off v : Int) (h1 : 25 ≤ op) (h2 : op ≤ 28) :
    Calls Tryz.prog 104 #[.pointer (some ⟨bk, 0, none⟩), .int .i64 op, .int .i64 a, .int .i64 off, .int .i64 v] w fun e w' => ∃ er L' d', e = .returned (.int .i64 er) ∧ (er = 0 ∨ er = 12) ∧ KRep w' bk L' d' ∧ KStep w w' bk L L' := by
  have HRE : Hid (Calls _ _ _ _ _) := reach_any h op 25 28 a off (by omega) (by omega) (by omega) (by omega)
  have H : Hid (KRep w bk L d) := h
  clear h
  go_enter Tryz.func104, Tryz.ntmps104
  go_wp2_with fail
  refine HRE.out.mono ?_
  clear HRE
  rintro e w1 ⟨rfl | ⟨ea, wd, hw1, hw8, hin, rfl⟩, rfl⟩
  · go_wp2
    go_ret
    exact ⟨12, L, d, rfl, .inr rfl, H.out, KStep.refl _ _ _⟩
  · have s1 := fun w => run_arrHi w1.heap.size wd w hw8 wd rfl
    obtain ⟨B, HBS⟩ : ∃ B, Hid (B = w1.heap.size) := ⟨_, rfl⟩
    go_wp2
    rw [← HBS.out] at s1 ⊢
    go_loopw [28] (fun i wr => ∃ j : Nat, j ≤ 8 ∧ i = .int .i64 j ∧ Hid (∃ bs : List UInt8, bs.length = 8 ∧ Has wr B (byteCells bs).toArray 158) ∧ Hid (Fr (fun _ => False) w1 wr)) (fun i _ => 8 - (intOf i).toNat)
    case atStart =>
      refine ⟨0, by omega, rfl, ⟨List.replicate 8 0, rfl, ?_⟩, (Fr.refl _ _).alloc _⟩
      rw [HBS.out]
      simpa [byteCells] using Has.new w1 _ 158
    case round =>
      obtain ⟨j, hj, rfl, HB, HF⟩ := hrel
      by_cases hlt : j < 8
      · obtain ⟨bs, hbl, hb⟩ := HB.out
        have hsr := fun (x : Int) (w : World) => run_shr Tryz.prog .u64 .i64 x (8 * (j : Int)) (by omega) w
        have q1 := hb.cell j
        have q2 := hb.frozen j
        have q3 := hb.lt
        have q4 : ∃ u : Int, (byteCells bs).toArray[j]? = some (.int .u8 u) := by
          refine ⟨bs[j].toNat, ?_⟩
          rw [List.getElem?_toArray, byteCells, List.getElem?_map, List.getElem?_eq_getElem (by omega)]
          rfl
        obtain ⟨u, q4⟩ := q4
        rw [q4] at q1
        have HB1 : Hid (Has wr B (byteCells bs).toArray 158) := hb
        have HBL : Hid (bs.length = 8) := hbl
        clear hb hbl q4
        go_wp2
        go_roundw
        case rel =>
          refine ⟨j + 1, by omega, by go_num, ?_, ?_⟩
          · obtain ⟨b, hb⟩ := u8val (IntKind.u64.wrap v / 2 ^ (8 * j))
            refine ⟨bs.set j b, by rw [List.length_set]; exact HBL.out, ?_⟩
            rw [hb]
            have := HB1.out.put j (.int .u8 b.toNat)
            simpa [byteCells, List.map_set] using this
          · exact HF.out.setCell (.inr (by rw [HBS.out]; simp)) _
        case measure =>
          simp [intOf]
          omega
      · obtain ⟨bs, hbl, hb⟩ := HB.out
        have hK := H.out.fresh HF.out
        have HSC : Hid (Calls _ _ _ _ _) := scatter_any hK hbl hb ea wd hw1 hw8 hin
        have HF2 : Hid (KStep w1 wr bk L L) := KStep.fresh HF.out
        clear hb hK
        go_wp2_with fail
        refine HSC.out.mono ?_
        rintro e w2 ⟨rfl, L', d', k1, k2⟩
        have K1 : Hid (KRep w2 bk L' d') := k1
        have K2 : Hid (KStep wr w2 bk L L') := k2
        clear k1 k2
        go_wp2
        go_ret
        exact ⟨0, L', d', rfl, .inl rfl, K1.out, HF2.out.trans K2.out⟩
end
end Go.Proofs.Qxb6500575aGreatDoor
