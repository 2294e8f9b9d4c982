/-
  THE WALK of preplaw.Shape.
-/
import Derived.Test.Qxb6500576aDoorDue
namespace Go.Proofs.Qxb6500576aDoor
open Go Go.RowKit
set_option linter.unusedVariables false
set_option linter.unusedSimpArgs false

structure ShS (w : World) (Sp : Nat → Prop) (bp : Nat) (Lp : ProgL) (p : ProgD) (pc : Nat) (wr : World) : Prop where
  fr : Fr (fun k => k = bp) w wr
  rep : ProgRep Sp wr bp Lp { p with steps := p.steps + pc }
section
variable {w : World} {Sp : Nat → Prop} {bp : Nat} {Lp : ProgL} {p : ProgD} {pc : Nat} {wr w' : World}
theorem ShS.new (h : ShS w Sp bp Lp p pc wr) (hf : Fr (fun _ => False) wr w') : ShS w Sp bp Lp p pc w' := ⟨h.fr.trans hf (fun _ _ h => h.elim), h.rep.fresh hf⟩
theorem ShS.fetched (h : ShS w Sp bp Lp p pc wr) (hf : Fr (fun k => k = bp) wr w') (hr : ProgRep Sp w' bp Lp { p with steps := p.steps + pc + 1 }) : ShS w Sp bp Lp p (pc + 1) w' :=
  ⟨h.fr.trans hf (fun _ _ h => h), by
    have e : p.steps + ((pc + 1 : Nat) : Int) = p.steps + pc + 1 := by omega
    rw [e]; exact hr⟩
end
/-- what Shape is told of the source and of the flat code -/
structure ShapeOk (p : ProgD) (m : ModD) (f : Nat) (g : Int) (src : List Ins) (flat : List Flat) : Prop where
  fu : (m.funcAt f).2.2 = src.length
  ins : ∀ (i : Nat) c, src[i]? = some c → m.insAt f i = c
  at_ : ∀ pc : Nat, p.at g pc = (flat[pc]?).getD Flat.none
  len : src.length ≤ 24
  flen : flat.length = (emitsTo src src.length).length
  well : ∀ c ∈ src, well c = true
  cells : ∀ (a : Nat) c kd, flat[a]? = some c → (emitsTo src src.length)[a]? = some kd → CellFin flat.length a c kd
theorem emitsTo_succ (src : List Ins) (i : Nat) (c : Ins) (h : src[i]? = some c) : emitsTo src (i + 1) = emitsTo src i ++ emitK c (decide (i + 1 = src.length)) := by
  conv => lhs; unfold emitsTo
  rw [h]
theorem emitsTo_pre (src : List Ins) : ∀ (d i : Nat), ∃ r, emitsTo src (i + d) = emitsTo src i ++ r
  | 0, i => ⟨[], by simp⟩
  | d + 1, i => by
    obtain ⟨r, hr⟩ := emitsTo_pre src d i
    rw [show i + (d + 1) = (i + d) + 1 by omega]
    cases hc : src[i + d]? with
    | none =>
      refine ⟨r, ?_⟩
      conv => lhs; unfold emitsTo
      rw [hc, hr]; simp
    | some c =>
      refine ⟨r ++ emitK c (decide (i + d + 1 = src.length)), ?_⟩
      rw [emitsTo_succ src (i + d) c hc, hr, List.append_assoc]
/-- the d-th instruction that source instruction i is laid as -/
theorem ShapeOk.cell {p : ProgD} {m : ModD} {f : Nat} {g : Int} {src : List Ins} {flat : List Flat} (h : ShapeOk p m f g src flat) (i : Nat) (c : Ins) (hc : src[i]? = some c) (d : Nat) (kd : Kd) (hd : (emitK c (decide (i + 1 = src.length)))[d]? = some kd) :
    ∃ x, p.at g ((emitsTo src i).length + d : Nat) = x ∧ CellFin flat.length ((emitsTo src i).length + d) x kd ∧ (emitsTo src i).length + d < flat.length := by
  have hil : i < src.length := (List.getElem?_eq_some_iff.1 hc).1
  obtain ⟨r, hr⟩ := emitsTo_pre src (src.length - (i + 1)) (i + 1)
  rw [show i + 1 + (src.length - (i + 1)) = src.length by omega, emitsTo_succ src i c hc] at hr
  have hk : (emitsTo src src.length)[(emitsTo src i).length + d]? = some kd := by
    rw [hr, List.append_assoc, List.getElem?_append_right (by omega), Nat.add_sub_cancel_left, List.getElem?_append_left (List.getElem?_eq_some_iff.1 hd).1]
    exact hd
  have hlt : (emitsTo src i).length + d < flat.length := by rw [h.flen]; exact (List.getElem?_eq_some_iff.1 hk).1
  refine ⟨flat[(emitsTo src i).length + d], ?_, h.cells _ _ _ (List.getElem?_eq_getElem hlt) hk, hlt⟩
  rw [h.at_, List.getElem?_eq_getElem hlt]
  rfl
theorem ShapeOk.stop {p : ProgD} {m : ModD} {f : Nat} {g : Int} {src : List Ins} {flat : List Flat} (h : ShapeOk p m f g src flat) : p.at g ((emitsTo src src.length).length : Nat) = Flat.none := by
  rw [h.at_, ← h.flen, List.getElem?_eq_none (Nat.le_refl _)]
  rfl
theorem ShapeOk.emitLen {p : ProgD} {m : ModD} {f : Nat} {g : Int} {src : List Ins} {flat : List Flat} (h : ShapeOk p m f g src flat) (i : Nat) (c : Ins) (hc : src[i]? = some c) :
    (emitsTo src (i + 1)).length = (emitsTo src i).length + (if c.op = 1 ∨ c.op = 2 ∨ (c.op = 5 ∧ decide (i + 1 = src.length) = false) then 0 else 1 + c.tab.length) := by
  rw [emitsTo_succ src i c hc, List.length_append, emit_len (h.well c (List.mem_of_getElem? hc))]
theorem ShapeOk.emitLe {p : ProgD} {m : ModD} {f : Nat} {g : Int} {src : List Ins} {flat : List Flat} (h : ShapeOk p m f g src flat) (i : Nat) (hi : i ≤ 24) : (emitsTo src i).length ≤ 144 := by
  have := emitsTo_len_le src h.well i
  omega
theorem well_notab {c : Ins} (h : well c = true) (h8 : c.op ≠ 8) : c.tab = [] := by
  unfold well at h
  rw [if_neg h8] at h
  split at h
  · cases h
  · rename_i h'; simpa using h'
theorem well_end {c : Ins} (h : well c = true) (h5 : c.op = 5) : c.imm = 0 := by
  unfold well at h
  rw [if_neg (by omega)] at h
  split at h
  · cases h
  · rw [if_neg (by omega), if_neg (by omega), if_neg (by omega), if_neg (by omega), if_neg (by omega)] at h
    split at h
    · cases h
    · omega
structure ShapeCtx (Sp Sb : Nat → Prop) (w : World) (bp bb : Nat) (Lp : ProgL) (p : ProgD) (K : BelL) (x : BelD) : Prop where
  rep : ProgRep Sp w bp Lp p
  bel : BelRep Sb w bb K x
  lt : ∀ k, Sp k → k < w.heap.size
  ap : ¬ Sb bp
  good : ModGood x.m
  s0 : 0 ≤ p.steps
  s1 : p.steps ≤ 1000000
  cl : p.codes.length ≤ 1000
  cc : ∀ c ∈ p.codes, c.length ≤ 1000
theorem ShapeCtx.belAt {Sp Sb : Nat → Prop} {w : World} {bp bb : Nat} {Lp : ProgL} {p : ProgD} {K : BelL} {x : BelD} (h : ShapeCtx Sp Sb w bp bb Lp p K x) (y : World) (hy : Fr (fun k => k = bp) w y) : BelRep Sb y bb K x := h.bel.fr hy (fun k hk e => h.ap (by rw [← e]; exact hk))
theorem ShapeCtx.fetch {Sp Sb : Nat → Prop} {w : World} {bp bb : Nat} {Lp : ProgL} {p : ProgD} {K : BelL} {x : BelD} (h : ShapeCtx Sp Sb w bp bb Lp p K x) {g : Int} {pc : Nat} {wr : World} (hs : ShS w Sp bp Lp p pc wr) (hpc : pc ≤ 1000) (fl : Flat) (hfl : p.at g (pc : Nat) = fl) :
    Calls Tryd.prog 37 #[.pointer (some ⟨bp, 0, none⟩), .int .i64 g, .int .i64 pc] wr fun e w' => e = .returned (.tuple #[.agg #[.int .i64 fl.op, .int .i64 fl.imm, .int .i64 fl.keep, .int .i64 fl.cut], .bool true]) ∧ ShS w Sp bp Lp p (pc + 1) w' ∧ Fr (fun k => k = bp) wr w' := by
  have h0 := h.s0
  have h1 := h.s1
  refine (fetch_any Sp bp Lp { p with steps := p.steps + pc } g pc wr hs.rep h.cl h.cc (by show 0 ≤ p.steps + pc; omega) (by show p.steps + pc ≤ 1000000000; omega) (fun k hk => by have := h.lt k hk; have := hs.fr.size; omega)).mono ?_
  rintro e w' ⟨rfl, hr, hf⟩
  refine ⟨?_, hs.fetched hf hr, hf⟩
  have : ({ p with steps := p.steps + pc } : ProgD).at g pc = p.at g pc := rfl
  rw [this, hfl]
  rfl
theorem ShapeCtx.ins {Sp Sb : Nat → Prop} {w : World} {bp bb : Nat} {Lp : ProgL} {p : ProgD} {K : BelL} {x : BelD} (h : ShapeCtx Sp Sb w bp bb Lp p K x) {f : Nat} {i : Nat} {wr : World} (hf : Fr (fun k => k = bp) w wr) (c : Ins) (hc : x.m.insAt f i = c) :
    Calls Tryd.prog 36 #[.pointer (some ⟨K.bm, 0, none⟩), .int .i64 f, .int .i64 i] wr fun e w' => e = .returned (.agg #[.int .i64 c.op, .int .i64 c.imm, sv c.tab]) ∧ Fr (fun _ => False) wr w' := by
  have hnf := h.good.ok.nf
  refine (insAt_any _ K.bm K.L x.m f i wr (h.belAt wr hf).mod (by omega) (fun fn hfn => by have := h.good.ok.fc fn hfn; omega)).mono ?_
  rintro e w' ⟨rfl, o, rfl⟩
  rw [hc]
  exact ⟨rfl, (Fr.refl _ _).alloc _⟩

set_option maxRecDepth 100000 in
set_option maxHeartbeats 16000000 in
theorem shape_any (Sp Sb : Nat → Prop) (bp bb : Nat) (Lp : ProgL) (p : ProgD) (K : BelL) (x : BelD) (w : World) (f : Nat) (g : Int) (src : List Ins) (flat : List Flat) (h : ShapeCtx Sp Sb w bp bb Lp p K x) (ho : ShapeOk p x.m f g src flat) :
    Calls Tryd.prog 15 #[.pointer (some ⟨bp, 0, none⟩), .pointer (some ⟨bb, 0, none⟩), .int .i64 f, .int .i64 g] w fun e w' => e = .returned (.bool true) ∧ ∃ pc : Nat, pc ≤ 200 ∧ ShS w Sp bp Lp p pc w' := by
  have c0 := h.bel.here.cell 0
  simp at c0
  have hnf := h.good.ok.nf
  have HFu : Hid (Calls _ _ _ _ _) := func_any _ K.bm K.L x.m f w h.bel.mod (by omega)
  obtain ⟨N, hN⟩ : ∃ N, src.length = N := ⟨_, rfl⟩
  have HN : Hid (src.length = N) := hN
  have hN24 : N ≤ 24 := by rw [← hN]; exact ho.len
  have hfu := ho.fu
  rw [hN] at hfu
  rw [hfu] at HFu
  generalize (x.m.funcAt f).1 = ty at *
  generalize (x.m.funcAt f).2.1 = lo at *
  have HO : Hid (ShapeOk p x.m f g src flat) := ho
  have HC : Hid (ShapeCtx Sp Sb w bp bb Lp p K x) := h
  have hS0 : ShS w Sp bp Lp p 0 w := ⟨Fr.refl _ _, by simpa using h.rep⟩
  have HS0 : Hid (ShS w Sp bp Lp p 0 w) := hS0
  clear h ho hN hfu hS0 hnf
  go_enter Tryd.func15, Tryd.ntmps15
  go_wp2_with fail
  refine HFu.out.mono ?_
  rintro e w1 ⟨rfl, n1, hw1⟩
  have HS1 : Hid (ShS w Sp bp Lp p 0 w1) := by rw [hw1]; exact HS0.out.new ((Fr.refl _ _).drewN n1)
  clear hw1 HFu HS0 c0
  go_wp2
  go_loopw [12, 14] (fun t u wr => ∃ (i n : Nat), i ≤ N ∧ t = .int .i64 n ∧ n ≤ 144 ∧ u = .int .i64 i ∧ Hid (n = (emitsTo src i).length) ∧ Hid (ShS w Sp bp Lp p 0 wr)) (fun _ u _ => N - (intOf u).toNat)
  case atStart => exact ⟨0, 0, Nat.zero_le _, rfl, by omega, rfl, rfl, HS1⟩
  case round =>
    obtain ⟨i, n, hi, rfl, hn, rfl, HL, G1⟩ := hrel
    by_cases hlt : i < N
    · obtain ⟨c, hc⟩ : ∃ c, src[i]? = some c := ⟨_, List.getElem?_eq_getElem (by rw [HN.out]; exact hlt)⟩
      have B := HC.out.belAt wr G1.out.fr
      have b0 := B.here.cell 0
      simp at b0
      have bl := B.here.lt
      have HI : Hid (Calls _ _ _ _ _) := HC.out.ins (f := f) (i := i) G1.out.fr c (HO.out.ins i c hc)
      have HE : Hid (_ = _) := HO.out.emitLen i c hc
      have HLE : Hid (_ ≤ 144) := HO.out.emitLe (i + 1) (by omega)
      have HW : Hid (well c = true) := HO.out.well c (List.mem_of_getElem? hc)
      obtain ⟨op, imm, tab⟩ := c
      simp only at HI HE
      have ht5 : tab.length ≤ 5 := by
        by_cases h8 : op = 8
        · exact well_tab HW.out h8
        · have : tab = [] := well_notab HW.out h8
          rw [this]; simp
      obtain ⟨wB, hwB⟩ : ∃ wB, wB = wr := ⟨_, rfl⟩
      subst hwB
      clear hc B
      by_cases o1 : op = 1
      · subst o1
        have HX : Hid ((emitsTo src (i + 1)).length = n + 0) := by
          show _ = _
          rw [HE.out, HL.out, if_pos (by rw [HN.out]; simp; try omega)]
        have hn2 : n + 0 ≤ 144 := by rw [← HX.out]; exact HLE.out
        clear HE HLE HW
        go_wp2_with fail
        refine HI.out.mono ?_
        rintro e w2 ⟨rfl, hF2⟩
        have G2 : Hid (ShS w Sp bp Lp p 0 w2) := G1.out.new hF2
        clear hF2 HI G1 b0 bl
        go_wp2
        go_roundw
        case rel => exact ⟨i + 1, n + 0, by omega, by go_num, by omega, by go_num, HX.out.symm, G2.out.new ((Fr.refl _ _).alloc _)⟩
        case measure => simp [intOf]; omega
      by_cases o2 : op = 2
      · subst o2
        have HX : Hid ((emitsTo src (i + 1)).length = n + 0) := by
          show _ = _
          rw [HE.out, HL.out, if_pos (by rw [HN.out]; simp; try omega)]
        have hn2 : n + 0 ≤ 144 := by rw [← HX.out]; exact HLE.out
        clear HE HLE HW
        go_wp2_with fail
        refine HI.out.mono ?_
        rintro e w2 ⟨rfl, hF2⟩
        have G2 : Hid (ShS w Sp bp Lp p 0 w2) := G1.out.new hF2
        clear hF2 HI G1 b0 bl
        go_wp2
        go_roundw
        case rel => exact ⟨i + 1, n + 0, by omega, by go_num, by omega, by go_num, HX.out.symm, G2.out.new ((Fr.refl _ _).alloc _)⟩
        case measure => simp [intOf]; omega
      by_cases o5 : op = 5
      · subst o5
        by_cases hlast : i + 1 = N
        · have hl1 : ((i : Int) == (N : Int) - 1) = true := by rw [beq_iff_eq]; omega
          have HX : Hid ((emitsTo src (i + 1)).length = n + (1 + tab.length)) := by
            show _ = _
            rw [HE.out, HL.out, if_neg (by rw [HN.out]; simp; try omega)]
          have hn2 : n + (1 + tab.length) ≤ 144 := by rw [← HX.out]; exact HLE.out
          clear HE HLE HW
          go_wp2_with fail
          refine HI.out.mono ?_
          rintro e w2 ⟨rfl, hF2⟩
          have G2 : Hid (ShS w Sp bp Lp p 0 w2) := G1.out.new hF2
          clear hF2 HI G1 b0 bl
          go_wp2
          go_roundw
          case rel => exact ⟨i + 1, n + (1 + tab.length), by omega, by go_num, by omega, by go_num, HX.out.symm, G2.out.new ((Fr.refl _ _).alloc _)⟩
          case measure => simp [intOf]; omega
        · have hl1 : ((i : Int) == (N : Int) - 1) = false := by rw [beq_eq_false_iff_ne]; omega
          have HX : Hid ((emitsTo src (i + 1)).length = n + 0) := by
            show _ = _
            rw [HE.out, HL.out, if_pos (by rw [HN.out]; simp; try omega)]
          have hn2 : n + 0 ≤ 144 := by rw [← HX.out]; exact HLE.out
          clear HE HLE HW
          go_wp2_with fail
          refine HI.out.mono ?_
          rintro e w2 ⟨rfl, hF2⟩
          have G2 : Hid (ShS w Sp bp Lp p 0 w2) := G1.out.new hF2
          clear hF2 HI G1 b0 bl
          go_wp2
          go_roundw
          case rel => exact ⟨i + 1, n + 0, by omega, by go_num, by omega, by go_num, HX.out.symm, G2.out.new ((Fr.refl _ _).alloc _)⟩
          case measure => simp [intOf]; omega
      have b1 : (op != 1) = true := by rw [bne_iff_ne]; exact o1
      have b2 : (op != 2) = true := by rw [bne_iff_ne]; exact o2
      have b5 : (op != 5) = true := by rw [bne_iff_ne]; exact o5
      have HX : Hid ((emitsTo src (i + 1)).length = n + (1 + tab.length)) := by
        show _ = _
        rw [HE.out, HL.out, if_neg (by rw [HN.out]; simp; try omega)]
      have hn2 : n + (1 + tab.length) ≤ 144 := by rw [← HX.out]; exact HLE.out
      clear HE HLE HW
      go_wp2_with fail
      refine HI.out.mono ?_
      rintro e w2 ⟨rfl, hF2⟩
      have G2 : Hid (ShS w Sp bp Lp p 0 w2) := G1.out.new hF2
      clear hF2 HI G1 b0 bl
      go_wp2
      go_roundw
      case rel => exact ⟨i + 1, n + (1 + tab.length), by omega, by go_num, by omega, by go_num, HX.out.symm, G2.out.new ((Fr.refl _ _).alloc _)⟩
      case measure => simp [intOf]; omega
    · have hiN : N = i := by omega
      subst hiN
      have HFL : Hid (flat.length = n) := by show _ = _; rw [HO.out.flen, HN.out, HL.out]
      clear HS1
      go_wp2
      go_loopw [13, 16] (fun t u wr => ∃ (j pc : Nat), j ≤ N ∧ t = .int .i64 pc ∧ pc ≤ 144 ∧ u = .int .i64 j ∧ Hid (pc = (emitsTo src j).length) ∧ Hid (ShS w Sp bp Lp p pc wr)) (fun _ u _ => N - (intOf u).toNat)
      case atStart => exact ⟨0, 0, Nat.zero_le _, rfl, by omega, rfl, rfl, G1⟩
      case round =>
        obtain ⟨j, pc, hj, rfl, hpc, rfl, HPC, G2⟩ := hrel
        by_cases hlt : j < N
        · obtain ⟨c, hc⟩ : ∃ c, src[j]? = some c := ⟨_, List.getElem?_eq_getElem (by rw [HN.out]; exact hlt)⟩
          have B := HC.out.belAt wr G2.out.fr
          have b0 := B.here.cell 0
          simp at b0
          have bl := B.here.lt
          have HI : Hid (Calls _ _ _ _ _) := HC.out.ins (f := f) (i := j) G2.out.fr c (HO.out.ins j c hc)
          have HE : Hid (_ = _) := HO.out.emitLen j c hc
          have HLE : Hid (_ ≤ 144) := HO.out.emitLe (j + 1) (by omega)
          have HW : Hid (well c = true) := HO.out.well c (List.mem_of_getElem? hc)
          have HCELL : Hid (∀ d kd, _) := HO.out.cell j c hc
          obtain ⟨op, imm, tab⟩ := c
          simp only at HI HE
          have ht5 : tab.length ≤ 5 := by
            by_cases h8 : op = 8
            · exact well_tab HW.out h8
            · have : tab = [] := well_notab HW.out h8
              rw [this]; simp
          obtain ⟨wB, hwB⟩ : ∃ wB, wB = wr := ⟨_, rfl⟩
          subst hwB
          clear hc B
          by_cases o1 : op = 1
          · subst o1
            have HX : Hid ((emitsTo src (j + 1)).length = pc) := by
              show _ = _
              rw [HE.out, HPC.out, if_pos (by rw [HN.out]; simp; try omega), Nat.add_zero]
            clear HE HLE HW HCELL
            go_wp2_with fail
            refine HI.out.mono ?_
            rintro e w2 ⟨rfl, hF2⟩
            have G3 : Hid (ShS w Sp bp Lp p pc w2) := G2.out.new hF2
            clear hF2 HI G2 b0 bl
            go_wp2
            go_roundw
            case rel => exact ⟨j + 1, pc, by omega, rfl, by omega, by go_num, HX.out.symm, G3.out.new ((Fr.refl _ _).alloc _)⟩
            case measure => simp [intOf]; omega
          by_cases o2 : op = 2
          · subst o2
            have HX : Hid ((emitsTo src (j + 1)).length = pc) := by
              show _ = _
              rw [HE.out, HPC.out, if_pos (by rw [HN.out]; simp; try omega), Nat.add_zero]
            clear HE HLE HW HCELL
            go_wp2_with fail
            refine HI.out.mono ?_
            rintro e w2 ⟨rfl, hF2⟩
            have G3 : Hid (ShS w Sp bp Lp p pc w2) := G2.out.new hF2
            clear hF2 HI G2 b0 bl
            go_wp2
            go_roundw
            case rel => exact ⟨j + 1, pc, by omega, rfl, by omega, by go_num, HX.out.symm, G3.out.new ((Fr.refl _ _).alloc _)⟩
            case measure => simp [intOf]; omega
          by_cases o5 : op = 5
          · subst o5
            by_cases hlast : j + 1 = N
            · have hl1 : ¬ (j : Int) < (N : Int) - 1 := by omega
              have him : imm = 0 := well_end HW.out rfl
              subst him
              have HX : Hid ((emitsTo src (j + 1)).length = pc + (1 + tab.length)) := by
                show _ = _
                rw [HE.out, HPC.out, if_neg (by rw [HN.out]; simp; try omega)]
              have hpc2 : pc + (1 + tab.length) ≤ 144 := by rw [← HX.out]; exact HLE.out
              have htn : tab = [] := well_notab HW.out (by intro e; simp at e)
              subst htn
              obtain ⟨fl, hfl, hcf, hflt⟩ := HCELL.out 0 ⟨0, 5, 0⟩ (by unfold emitK; rw [HN.out, decide_eq_true hlast]; rfl)
              rw [Nat.add_zero, ← HPC.out] at hfl hcf hflt
              have HFLT : Hid (p.at g (pc : Nat) = ⟨5, 0, 0, 0⟩) := hfl.trans (hcf.p0 rfl)
              clear HE HLE hfl hcf
              go_wp2_with fail
              refine HI.out.mono ?_
              rintro e w2 ⟨rfl, hF2⟩
              have S2 : ShS w Sp bp Lp p pc (w2.alloc (.cells #[.int .i64 5, .int .i64 0, sv ([] : List UInt8)] 65)) := (G2.out.new hF2).new ((Fr.refl _ _).alloc _)
              have HFet : Hid (Calls _ _ _ _ _) := HC.out.fetch (g := g) S2 (by omega) _ HFLT.out
              simp only at HFet
              have hbp2 : bp < w2.heap.size := by have := (G2.out.new hF2).rep.funs.here.lt; exact this
              have K17 : Has (w2.alloc (.cells #[.int .i64 5, .int .i64 0, sv ([] : List UInt8)] 65)) w2.heap.size _ _ := Has.new w2 _ _
              have HK17 : Hid (Has (w2.alloc (.cells #[.int .i64 5, .int .i64 0, sv ([] : List UInt8)] 65)) w2.heap.size _ _) := K17
              clear hF2 HI G2 b0 bl S2 K17 HFLT
              go_wp2_with fail
              refine HFet.out.mono ?_
              rintro e w3 ⟨rfl, S3, F3⟩
              have k17 : Has w3 w2.heap.size _ _ := HK17.out.fr F3 (fun e => by omega)
              have d0 := k17.cell 0
              have d1 := k17.cell 1
              have d2 := k17.cell 2
              simp at d0 d1 d2
              have dl := k17.lt
              have dl1 : w2.heap.size < w3.heap.size + 1 := by omega
              have dne : w2.heap.size ≠ w3.heap.size := by omega
              have HK3 : Hid (Has w3 w2.heap.size _ _) := k17
              have HS3 : Hid (ShS w Sp bp Lp p (pc + 1) w3) := S3
              clear HFet F3 S3 k17 HK17
              go_wp2
              go_roundw
              case rel => exact ⟨j + 1, pc + 1, by omega, by go_num, by omega, by go_num, by have := HX.out; simp at this; exact this.symm, HS3.out.new ((Fr.refl _ _).alloc _)⟩
              case measure => simp [intOf]; omega
            · have hl1 : (j : Int) < (N : Int) - 1 := by omega
              have HX : Hid ((emitsTo src (j + 1)).length = pc) := by
                show _ = _
                rw [HE.out, HPC.out, if_pos (by rw [HN.out]; simp; try omega), Nat.add_zero]
              clear HE HLE HW HCELL
              go_wp2_with fail
              refine HI.out.mono ?_
              rintro e w2 ⟨rfl, hF2⟩
              have G3 : Hid (ShS w Sp bp Lp p pc w2) := G2.out.new hF2
              clear hF2 HI G2 b0 bl
              go_wp2
              go_roundw
              case rel => exact ⟨j + 1, pc, by omega, rfl, by omega, by go_num, HX.out.symm, G3.out.new ((Fr.refl _ _).alloc _)⟩
              case measure => simp [intOf]; omega
          by_cases o3 : op = 3
          · subst o3
            have HX : Hid ((emitsTo src (j + 1)).length = pc + (1 + tab.length)) := by
              show _ = _
              rw [HE.out, HPC.out, if_neg (by rw [HN.out]; simp; try omega)]
            have hpc2 : pc + (1 + tab.length) ≤ 144 := by rw [← HX.out]; exact HLE.out
            have htn : tab = [] := well_notab HW.out (by intro e; simp at e)
            subst htn
            obtain ⟨fl, hfl, hcf, hflt⟩ := HCELL.out 0 ⟨1, 3, 0⟩ (by unfold emitK; rfl)
            rw [Nat.add_zero, ← HPC.out] at hfl hcf hflt
            obtain ⟨f1, f2, f3, f4⟩ := fl
            obtain ⟨a1, a2, a3, a4, a5⟩ := hcf.p1 rfl
            simp only at a1 a2 a3 a4 a5
            subst a1
            subst a2
            subst a3
            rw [HFL.out] at a5
            have HFLT : Hid (p.at g (pc : Nat) = ⟨3, f2, 0, 0⟩) := hfl
            clear HE HLE hfl hcf
            go_wp2_with fail
            refine HI.out.mono ?_
            rintro e w2 ⟨rfl, hF2⟩
            have S2 : ShS w Sp bp Lp p pc (w2.alloc (.cells #[.int .i64 3, .int .i64 imm, sv ([] : List UInt8)] 65)) := (G2.out.new hF2).new ((Fr.refl _ _).alloc _)
            have HFet : Hid (Calls _ _ _ _ _) := HC.out.fetch (g := g) S2 (by omega) _ HFLT.out
            simp only at HFet
            have hbp2 : bp < w2.heap.size := by have := (G2.out.new hF2).rep.funs.here.lt; exact this
            have K17 : Has (w2.alloc (.cells #[.int .i64 3, .int .i64 imm, sv ([] : List UInt8)] 65)) w2.heap.size _ _ := Has.new w2 _ _
            have HK17 : Hid (Has (w2.alloc (.cells #[.int .i64 3, .int .i64 imm, sv ([] : List UInt8)] 65)) w2.heap.size _ _) := K17
            clear hF2 HI G2 b0 bl S2 K17 HFLT
            go_wp2_with fail
            refine HFet.out.mono ?_
            rintro e w3 ⟨rfl, S3, F3⟩
            have k17 : Has w3 w2.heap.size _ _ := HK17.out.fr F3 (fun e => by omega)
            have d0 := k17.cell 0
            have d1 := k17.cell 1
            have d2 := k17.cell 2
            simp at d0 d1 d2
            have dl := k17.lt
            have dl1 : w2.heap.size < w3.heap.size + 1 := by omega
            have dne : w2.heap.size ≠ w3.heap.size := by omega
            have HK3 : Hid (Has w3 w2.heap.size _ _) := k17
            have HS3 : Hid (ShS w Sp bp Lp p (pc + 1) w3) := S3
            clear HFet F3 S3 k17 HK17
            go_wp2
            go_roundw
            case rel => exact ⟨j + 1, pc + 1, by omega, by go_num, by omega, by go_num, by have := HX.out; simp at this; exact this.symm, HS3.out.new ((Fr.refl _ _).alloc _)⟩
            case measure => simp [intOf]; omega
          by_cases o4 : op = 4
          · subst o4
            have HX : Hid ((emitsTo src (j + 1)).length = pc + (1 + tab.length)) := by
              show _ = _
              rw [HE.out, HPC.out, if_neg (by rw [HN.out]; simp; try omega)]
            have hpc2 : pc + (1 + tab.length) ≤ 144 := by rw [← HX.out]; exact HLE.out
            have htn : tab = [] := well_notab HW.out (by intro e; simp at e)
            subst htn
            obtain ⟨fl, hfl, hcf, hflt⟩ := HCELL.out 0 ⟨1, 4, 0⟩ (by unfold emitK; rfl)
            rw [Nat.add_zero, ← HPC.out] at hfl hcf hflt
            obtain ⟨f1, f2, f3, f4⟩ := fl
            obtain ⟨a1, a2, a3, a4, a5⟩ := hcf.p1 rfl
            simp only at a1 a2 a3 a4 a5
            subst a1
            subst a2
            subst a3
            rw [HFL.out] at a5
            have HFLT : Hid (p.at g (pc : Nat) = ⟨4, f2, 0, 0⟩) := hfl
            clear HE HLE hfl hcf
            go_wp2_with fail
            refine HI.out.mono ?_
            rintro e w2 ⟨rfl, hF2⟩
            have S2 : ShS w Sp bp Lp p pc (w2.alloc (.cells #[.int .i64 4, .int .i64 imm, sv ([] : List UInt8)] 65)) := (G2.out.new hF2).new ((Fr.refl _ _).alloc _)
            have HFet : Hid (Calls _ _ _ _ _) := HC.out.fetch (g := g) S2 (by omega) _ HFLT.out
            simp only at HFet
            have hbp2 : bp < w2.heap.size := by have := (G2.out.new hF2).rep.funs.here.lt; exact this
            have K17 : Has (w2.alloc (.cells #[.int .i64 4, .int .i64 imm, sv ([] : List UInt8)] 65)) w2.heap.size _ _ := Has.new w2 _ _
            have HK17 : Hid (Has (w2.alloc (.cells #[.int .i64 4, .int .i64 imm, sv ([] : List UInt8)] 65)) w2.heap.size _ _) := K17
            clear hF2 HI G2 b0 bl S2 K17 HFLT
            go_wp2_with fail
            refine HFet.out.mono ?_
            rintro e w3 ⟨rfl, S3, F3⟩
            have k17 : Has w3 w2.heap.size _ _ := HK17.out.fr F3 (fun e => by omega)
            have d0 := k17.cell 0
            have d1 := k17.cell 1
            have d2 := k17.cell 2
            simp at d0 d1 d2
            have dl := k17.lt
            have dl1 : w2.heap.size < w3.heap.size + 1 := by omega
            have dne : w2.heap.size ≠ w3.heap.size := by omega
            have HK3 : Hid (Has w3 w2.heap.size _ _) := k17
            have HS3 : Hid (ShS w Sp bp Lp p (pc + 1) w3) := S3
            clear HFet F3 S3 k17 HK17
            go_wp2
            go_roundw
            case rel => exact ⟨j + 1, pc + 1, by omega, by go_num, by omega, by go_num, by have := HX.out; simp at this; exact this.symm, HS3.out.new ((Fr.refl _ _).alloc _)⟩
            case measure => simp [intOf]; omega
          by_cases o6 : op = 6
          · subst o6
            have HX : Hid ((emitsTo src (j + 1)).length = pc + (1 + tab.length)) := by
              show _ = _
              rw [HE.out, HPC.out, if_neg (by rw [HN.out]; simp; try omega)]
            have hpc2 : pc + (1 + tab.length) ≤ 144 := by rw [← HX.out]; exact HLE.out
            have htn : tab = [] := well_notab HW.out (by intro e; simp at e)
            subst htn
            obtain ⟨fl, hfl, hcf, hflt⟩ := HCELL.out 0 ⟨2, 6, 0⟩ (by unfold emitK; rfl)
            rw [Nat.add_zero, ← HPC.out] at hfl hcf hflt
            obtain ⟨f1, f2, f3, f4⟩ := fl
            obtain ⟨a1, a2, a3, a4, a5, a6, a7, a8⟩ := hcf.p2 rfl
            simp only at a1 a2 a3 a4 a5 a6 a7 a8
            subst a1
            rw [HFL.out] at a7
            have HJ : Hid (∀ X : World, _) := fun X => jumpLaw_any ⟨6, f2, f3, f4⟩ pc n ⟨a6, a7, a2, a3, a4, a5, a8⟩ X
            unfold Flat.val at HJ
            simp only at HJ
            clear a2 a3 a4 a5 a6 a7 a8
            have HFLT : Hid (p.at g (pc : Nat) = ⟨6, f2, f3, f4⟩) := hfl
            clear HE HLE hfl hcf
            go_wp2_with fail
            refine HI.out.mono ?_
            rintro e w2 ⟨rfl, hF2⟩
            have S2 : ShS w Sp bp Lp p pc (w2.alloc (.cells #[.int .i64 6, .int .i64 imm, sv ([] : List UInt8)] 65)) := (G2.out.new hF2).new ((Fr.refl _ _).alloc _)
            have HFet : Hid (Calls _ _ _ _ _) := HC.out.fetch (g := g) S2 (by omega) _ HFLT.out
            simp only at HFet
            have hbp2 : bp < w2.heap.size := by have := (G2.out.new hF2).rep.funs.here.lt; exact this
            have K17 : Has (w2.alloc (.cells #[.int .i64 6, .int .i64 imm, sv ([] : List UInt8)] 65)) w2.heap.size _ _ := Has.new w2 _ _
            have HK17 : Hid (Has (w2.alloc (.cells #[.int .i64 6, .int .i64 imm, sv ([] : List UInt8)] 65)) w2.heap.size _ _) := K17
            clear hF2 HI G2 b0 bl S2 K17 HFLT
            go_wp2_with fail
            refine HFet.out.mono ?_
            rintro e w3 ⟨rfl, S3, F3⟩
            have k17 : Has w3 w2.heap.size _ _ := HK17.out.fr F3 (fun e => by omega)
            have d0 := k17.cell 0
            have d1 := k17.cell 1
            have d2 := k17.cell 2
            simp at d0 d1 d2
            have dl := k17.lt
            have dl1 : w2.heap.size < w3.heap.size + 1 := by omega
            have dne : w2.heap.size ≠ w3.heap.size := by omega
            have HK3 : Hid (Has w3 w2.heap.size _ _) := k17
            have HS3 : Hid (ShS w Sp bp Lp p (pc + 1) w3) := S3
            clear HFet F3 S3 k17 HK17
            go_wp2_with fail
            refine (HJ.out _).mono ?_
            rintro e w4 ⟨rfl, hF4⟩
            have HS4 : Hid (ShS w Sp bp Lp p (pc + 1) w4) := (HS3.out.new ((Fr.refl _ _).alloc _)).new hF4
            clear hF4 HS3 HJ
            go_wp2
            go_roundw
            case rel => exact ⟨j + 1, pc + 1, by omega, by go_num, by omega, by go_num, by have := HX.out; simp at this; exact this.symm, HS4⟩
            case measure => simp [intOf]; omega
          by_cases o7 : op = 7
          · subst o7
            have HX : Hid ((emitsTo src (j + 1)).length = pc + (1 + tab.length)) := by
              show _ = _
              rw [HE.out, HPC.out, if_neg (by rw [HN.out]; simp; try omega)]
            have hpc2 : pc + (1 + tab.length) ≤ 144 := by rw [← HX.out]; exact HLE.out
            have htn : tab = [] := well_notab HW.out (by intro e; simp at e)
            subst htn
            obtain ⟨fl, hfl, hcf, hflt⟩ := HCELL.out 0 ⟨2, 7, 0⟩ (by unfold emitK; rfl)
            rw [Nat.add_zero, ← HPC.out] at hfl hcf hflt
            obtain ⟨f1, f2, f3, f4⟩ := fl
            obtain ⟨a1, a2, a3, a4, a5, a6, a7, a8⟩ := hcf.p2 rfl
            simp only at a1 a2 a3 a4 a5 a6 a7 a8
            subst a1
            rw [HFL.out] at a7
            have HJ : Hid (∀ X : World, _) := fun X => jumpLaw_any ⟨7, f2, f3, f4⟩ pc n ⟨a6, a7, a2, a3, a4, a5, a8⟩ X
            unfold Flat.val at HJ
            simp only at HJ
            clear a2 a3 a4 a5 a6 a7 a8
            have HFLT : Hid (p.at g (pc : Nat) = ⟨7, f2, f3, f4⟩) := hfl
            clear HE HLE hfl hcf
            go_wp2_with fail
            refine HI.out.mono ?_
            rintro e w2 ⟨rfl, hF2⟩
            have S2 : ShS w Sp bp Lp p pc (w2.alloc (.cells #[.int .i64 7, .int .i64 imm, sv ([] : List UInt8)] 65)) := (G2.out.new hF2).new ((Fr.refl _ _).alloc _)
            have HFet : Hid (Calls _ _ _ _ _) := HC.out.fetch (g := g) S2 (by omega) _ HFLT.out
            simp only at HFet
            have hbp2 : bp < w2.heap.size := by have := (G2.out.new hF2).rep.funs.here.lt; exact this
            have K17 : Has (w2.alloc (.cells #[.int .i64 7, .int .i64 imm, sv ([] : List UInt8)] 65)) w2.heap.size _ _ := Has.new w2 _ _
            have HK17 : Hid (Has (w2.alloc (.cells #[.int .i64 7, .int .i64 imm, sv ([] : List UInt8)] 65)) w2.heap.size _ _) := K17
            clear hF2 HI G2 b0 bl S2 K17 HFLT
            go_wp2_with fail
            refine HFet.out.mono ?_
            rintro e w3 ⟨rfl, S3, F3⟩
            have k17 : Has w3 w2.heap.size _ _ := HK17.out.fr F3 (fun e => by omega)
            have d0 := k17.cell 0
            have d1 := k17.cell 1
            have d2 := k17.cell 2
            simp at d0 d1 d2
            have dl := k17.lt
            have dl1 : w2.heap.size < w3.heap.size + 1 := by omega
            have dne : w2.heap.size ≠ w3.heap.size := by omega
            have HK3 : Hid (Has w3 w2.heap.size _ _) := k17
            have HS3 : Hid (ShS w Sp bp Lp p (pc + 1) w3) := S3
            clear HFet F3 S3 k17 HK17
            go_wp2_with fail
            refine (HJ.out _).mono ?_
            rintro e w4 ⟨rfl, hF4⟩
            have HS4 : Hid (ShS w Sp bp Lp p (pc + 1) w4) := (HS3.out.new ((Fr.refl _ _).alloc _)).new hF4
            clear hF4 HS3 HJ
            go_wp2
            go_roundw
            case rel => exact ⟨j + 1, pc + 1, by omega, by go_num, by omega, by go_num, by have := HX.out; simp at this; exact this.symm, HS4⟩
            case measure => simp [intOf]; omega
          by_cases o8 : op = 8
          · subst o8
            have HX : Hid ((emitsTo src (j + 1)).length = pc + (1 + tab.length)) := by
              show _ = _
              rw [HE.out, HPC.out, if_neg (by rw [HN.out]; simp; try omega)]
            have hpc2 : pc + (1 + tab.length) ≤ 144 := by rw [← HX.out]; exact HLE.out
            obtain ⟨fl, hfl, hcf, hflt⟩ := HCELL.out 0 ⟨0, 8, (tab.length : Int) - 1⟩ (by unfold emitK; rfl)
            rw [Nat.add_zero, ← HPC.out] at hfl hcf hflt
            have ht1 : 1 ≤ tab.length := by
              have := HW.out
              unfold well at this
              rw [if_pos rfl] at this
              simp at this
              omega
            have HFLT : Hid (p.at g (pc : Nat) = ⟨8, (tab.length : Int) - 1, 0, 0⟩) := hfl.trans (hcf.p0 rfl)
            clear HE HLE hfl hcf
            go_wp2_with fail
            refine HI.out.mono ?_
            rintro e w2 ⟨rfl, hF2⟩
            have S2 : ShS w Sp bp Lp p pc (w2.alloc (.cells #[.int .i64 8, .int .i64 imm, sv tab] 65)) := (G2.out.new hF2).new ((Fr.refl _ _).alloc _)
            have HFet : Hid (Calls _ _ _ _ _) := HC.out.fetch (g := g) S2 (by omega) _ HFLT.out
            simp only at HFet
            have hbp2 : bp < w2.heap.size := by have := (G2.out.new hF2).rep.funs.here.lt; exact this
            have K17 : Has (w2.alloc (.cells #[.int .i64 8, .int .i64 imm, sv tab] 65)) w2.heap.size _ _ := Has.new w2 _ _
            have HK17 : Hid (Has (w2.alloc (.cells #[.int .i64 8, .int .i64 imm, sv tab] 65)) w2.heap.size _ _) := K17
            clear hF2 HI G2 b0 bl S2 K17 HFLT
            go_wp2_with fail
            refine HFet.out.mono ?_
            rintro e w3 ⟨rfl, S3, F3⟩
            have k17 : Has w3 w2.heap.size _ _ := HK17.out.fr F3 (fun e => by omega)
            have d0 := k17.cell 0
            have d1 := k17.cell 1
            have d2 := k17.cell 2
            simp at d0 d1 d2
            have dl := k17.lt
            have dl1 : w2.heap.size < w3.heap.size + 1 := by omega
            have dne : w2.heap.size ≠ w3.heap.size := by omega
            have HK3 : Hid (Has w3 w2.heap.size _ _) := k17
            have HS3 : Hid (ShS w Sp bp Lp p (pc + 1) w3) := S3
            clear HFet F3 S3 k17 HK17
            have k18 : Has (w3.alloc (.cells #[.int .i64 8, .int .i64 ((tab.length : Int) - 1), .int .i64 0, .int .i64 0] 45)) w3.heap.size _ _ := Has.new w3 _ _
            have HK18 : Hid (Has (w3.alloc (.cells #[.int .i64 8, .int .i64 ((tab.length : Int) - 1), .int .i64 0, .int .i64 0] 45)) w3.heap.size _ _) := k18
            clear k18
            go_wp2
            obtain ⟨b17, hb17⟩ : ∃ b17, w2.heap.size = b17 := ⟨_, rfl⟩
            obtain ⟨b18, hb18⟩ : ∃ b18, w3.heap.size = b18 := ⟨_, rfl⟩
            have hb18w : w.heap.size ≤ b18 := by rw [← hb18]; exact HS3.out.fr.size
            rw [hb17, hb18] at dl1 dne
            rw [hb17] at hbp2 dl HK3 d0 d1 d2
            rw [hb18] at dl HK18
            rw [hb17, hb18]
            have hSlt : ∀ k, Sp k → k ≠ b18 := fun k hk e => by have := HC.out.lt k hk; omega
            have HSlt : Hid (∀ k, Sp k → k ≠ b18) := hSlt
            clear d0 d1 d2 hSlt hb17 hb18
            go_loopw [13, 19, 20] (fun t o u wr => ∃ (q pcq : Nat), q ≤ tab.length ∧ t = .int .i64 pcq ∧ pcq ≤ 144 ∧ o = .bool true ∧ u = .int .i64 q ∧ Hid (pcq = pc + q) ∧ Hid (ShS w Sp bp Lp p (pcq + 1) wr) ∧ Hid (Has wr b17 #[.int .i64 8, .int .i64 imm, sv tab] 65) ∧ Hid (∃ v0 v1 v2 v3, Has wr b18 #[v0, v1, v2, v3] 45)) (fun _ _ u _ => tab.length - (intOf u).toNat)
            case atStart => exact ⟨0, pc, Nat.zero_le _, rfl, hpc, rfl, rfl, rfl, HS3.out.new ((Fr.refl _ _).alloc _), HK3.out.alloc _, ⟨_, _, _, _, HK18.out⟩⟩
            case round =>
              obtain ⟨q, pcq, hq, rfl, hpq, rfl, rfl, HQ, GS, GK, GV⟩ := hrel
              have e2 := GK.out.cell 2
              simp at e2
              have el := GK.out.lt
              by_cases hql : q < tab.length
              · obtain ⟨fl, hfl, hcf, hflt⟩ := HCELL.out (q + 1) ⟨2, 6, 0⟩ (by simp only [emitK]; simp [List.getElem?_replicate, hql])
                have hix : (emitsTo src j).length + (q + 1) = pcq + 1 := by rw [← HPC.out, HQ.out]; omega
                rw [hix] at hfl hcf hflt
                obtain ⟨f1, f2, f3, f4⟩ := fl
                obtain ⟨a1, a2, a3, a4, a5, a6, a7, a8⟩ := hcf.p2 rfl
                simp only at a1 a2 a3 a4 a5 a6 a7 a8
                subst a1
                rw [HFL.out] at a7
                have hcast : ((pcq + 1 : Nat) : Int) = (pcq : Int) + 1 := by omega
                rw [hcast] at a8
                have HJ : Hid (∀ X : World, _) := fun X => jumpLaw_any ⟨6, f2, f3, f4⟩ ((pcq : Int) + 1) n ⟨a6, a7, a2, a3, a4, a5, a8⟩ X
                unfold Flat.val at HJ
                simp only at HJ
                have HFet : Hid (Calls _ _ _ _ _) := HC.out.fetch (g := g) GS.out (by omega) _ hfl
                simp only at HFet
                rw [hcast] at HFet
                have hpq1 : pcq + 1 ≤ 144 := by have := HQ.out; omega
                obtain ⟨wC, hwC⟩ : ∃ wC, wC = wr := ⟨_, rfl⟩
                subst hwC
                clear a2 a3 a4 a5 a6 a7 a8 hfl hcf hflt hix hcast
                go_wp2_with fail
                refine HFet.out.mono ?_
                rintro e w5 ⟨rfl, S5, F5⟩
                have k17 : Has w5 b17 _ _ := GK.out.fr F5 (fun e => by omega)
                obtain ⟨v0, v1, v2, v3, hv⟩ := GV.out
                have k18 : Has w5 b18 _ _ := hv.fr F5 (fun e => by omega)
                have x0 := k18.cell 0
                have x1 := k18.cell 1
                have x2 := k18.cell 2
                have x3 := k18.cell 3
                simp at x0 x1 x2 x3
                have y0 := k18.frozen 0
                have y1 := k18.frozen 1
                have y2 := k18.frozen 2
                have y3 := k18.frozen 3
                have yl := k18.lt
                obtain ⟨g1, g2⟩ := k18.put4 (.int .i64 6) (.int .i64 f2) (.int .i64 f3) (.int .i64 f4)
                have S6 := (⟨S5.fr.trans g2 (fun j hj e => by omega), S5.rep.fr g2 (fun k _ hs e => HSlt.out k hs e)⟩ : ShS w Sp bp Lp p (pcq + 1 + 1) _)
                have HS6 : Hid (ShS w Sp bp Lp p (pcq + 1 + 1) _) := S6
                have HK6 : Hid (Has _ b18 #[.int .i64 6, .int .i64 f2, .int .i64 f3, .int .i64 f4] 45) := g1
                have HK7 : Hid (Has _ b17 #[.int .i64 8, .int .i64 imm, sv tab] 65) := k17.fr g2 (fun e => by omega)
                clear S5 F5 HFet hv k17 k18 g1 g2 S6 GS GK GV e2 el
                go_wp2_with fail
                refine (HJ.out _).mono ?_
                rintro e w6 ⟨rfl, hF6⟩
                have N1 : Hid (ShS w Sp bp Lp p (pcq + 1 + 1) w6) := HS6.out.new hF6
                have N2 : Hid (Has w6 b17 #[.int .i64 8, .int .i64 imm, sv tab] 65) := HK7.out.fr hF6 (fun h => h)
                have N3 : Hid (∃ v0 v1 v2 v3, Has w6 b18 #[v0, v1, v2, v3] 45) := ⟨_, _, _, _, HK6.out.fr hF6 (fun h => h)⟩
                clear hF6 HS6 HK6 HK7 HJ x0 x1 x2 x3 y0 y1 y2 y3 yl
                go_wp2
                go_roundw
                case rel => exact ⟨q + 1, pcq + 1, by omega, by go_num, by omega, rfl, by go_num, by show pcq + 1 = pc + (q + 1); have := HQ.out; omega, N1, N2, N3⟩
                case measure => simp [intOf]; omega
              · have hqe : q = tab.length := by omega
                have HQ2 : Hid (pcq + 1 = (emitsTo src (j + 1)).length) := by show _ = _; rw [HX.out, HQ.out, hqe]; omega
                have hpq1 : pcq + 1 ≤ 144 := by have := HQ.out; omega
                clear hqe
                go_wp2
                go_roundw
                case rel => exact ⟨j + 1, pcq + 1, by omega, by go_num, by omega, by go_num, HQ2, GS⟩
                case measure => simp [intOf]; omega
          have b1 : (op == 1) = false := beq_eq_false_iff_ne.2 o1
          have b2 : (op == 2) = false := beq_eq_false_iff_ne.2 o2
          have b5 : (op == 5) = false := beq_eq_false_iff_ne.2 o5
          have b3 : (op == 3) = false := beq_eq_false_iff_ne.2 o3
          have b4 : (op == 4) = false := beq_eq_false_iff_ne.2 o4
          have b6 : (op == 6) = false := beq_eq_false_iff_ne.2 o6
          have b7 : (op == 7) = false := beq_eq_false_iff_ne.2 o7
          have b8 : (op == 8) = false := beq_eq_false_iff_ne.2 o8
          have HX : Hid ((emitsTo src (j + 1)).length = pc + (1 + tab.length)) := by
            show _ = _
            rw [HE.out, HPC.out, if_neg (by rintro (h | h | h); exact o1 h; exact o2 h; exact o5 h.1)]
          have hpc2 : pc + (1 + tab.length) ≤ 144 := by rw [← HX.out]; exact HLE.out
          have htn : tab = [] := well_notab HW.out (show op ≠ 8 from o8)
          subst htn
          obtain ⟨fl, hfl, hcf, hflt⟩ := HCELL.out 0 ⟨0, op, imm⟩ (by simp only [emitK]; rw [if_neg (by omega), if_neg (by omega), if_neg o5, if_neg (by omega), if_neg o8]; rfl)
          rw [Nat.add_zero, ← HPC.out] at hfl hcf hflt
          have HFLT : Hid (p.at g (pc : Nat) = ⟨op, imm, 0, 0⟩) := hfl.trans (hcf.p0 rfl)
          clear HE HLE hfl hcf
          go_wp2_with fail
          refine HI.out.mono ?_
          rintro e w2 ⟨rfl, hF2⟩
          have S2 : ShS w Sp bp Lp p pc (w2.alloc (.cells #[.int .i64 op, .int .i64 imm, sv ([] : List UInt8)] 65)) := (G2.out.new hF2).new ((Fr.refl _ _).alloc _)
          have HFet : Hid (Calls _ _ _ _ _) := HC.out.fetch (g := g) S2 (by omega) _ HFLT.out
          simp only at HFet
          have hbp2 : bp < w2.heap.size := by have := (G2.out.new hF2).rep.funs.here.lt; exact this
          have K17 : Has (w2.alloc (.cells #[.int .i64 op, .int .i64 imm, sv ([] : List UInt8)] 65)) w2.heap.size _ _ := Has.new w2 _ _
          have HK17 : Hid (Has (w2.alloc (.cells #[.int .i64 op, .int .i64 imm, sv ([] : List UInt8)] 65)) w2.heap.size _ _) := K17
          clear hF2 HI G2 b0 bl S2 K17 HFLT
          go_wp2_with fail
          refine HFet.out.mono ?_
          rintro e w3 ⟨rfl, S3, F3⟩
          have k17 : Has w3 w2.heap.size _ _ := HK17.out.fr F3 (fun e => by omega)
          have d0 := k17.cell 0
          have d1 := k17.cell 1
          have d2 := k17.cell 2
          simp at d0 d1 d2
          have dl := k17.lt
          have dl1 : w2.heap.size < w3.heap.size + 1 := by omega
          have dne : w2.heap.size ≠ w3.heap.size := by omega
          have HK3 : Hid (Has w3 w2.heap.size _ _) := k17
          have HS3 : Hid (ShS w Sp bp Lp p (pc + 1) w3) := S3
          clear HFet F3 S3 k17 HK17
          go_wp2
          go_roundw
          case rel => exact ⟨j + 1, pc + 1, by omega, by go_num, by omega, by go_num, by have := HX.out; simp at this; exact this.symm, HS3.out.new ((Fr.refl _ _).alloc _)⟩
          case measure => simp [intOf]; omega
        · have hjN : N = j := by omega
          subst hjN
          have hfl : p.at g (pc : Nat) = Flat.none := by rw [HPC.out, ← HN.out]; exact HO.out.stop
          have hnpc : n = pc := by rw [HL.out, HPC.out]
          subst hnpc
          have HFet : Hid (Calls _ _ _ _ _) := HC.out.fetch (g := g) G2.out (by omega) _ hfl
          simp only [Flat.none] at HFet
          clear hfl
          go_wp2_with fail
          refine HFet.out.mono ?_
          rintro e w3 ⟨rfl, S3, F3⟩
          have HS3 : Hid (ShS w Sp bp Lp p (n + 1) w3) := S3
          clear S3 F3 HFet
          go_wp2
          go_ret
          exact ⟨rfl, n + 1, by omega, HS3.out.new ((Fr.refl _ _).alloc _)⟩
end Go.Proofs.Qxb6500576aDoor
