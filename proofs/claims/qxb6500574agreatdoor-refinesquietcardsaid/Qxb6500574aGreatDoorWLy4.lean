/-
  THE WALK of comp: lay: the constants.
-/
import Derived.Test.Qxb6500574aGreatDoorWLy3
import Derived.Test.Qxb6500574aGreatDoorVOutS
namespace Go.Proofs.Qxb6500574aGreatDoor
open Go Go.RowKit
set_option linter.unusedVariables false
set_option linter.unusedSimpArgs false
open Go.Lib
/-- the same beside a block of the call's own -/
def LyB (w : World) (o : Nat → Nat) (C : CC) (N : List Nd) (c : CmD) (l : Bs) (b : Nat) (cs : Array Value) (T : TypeId) (w1 : World) : Prop := ∃ o1 s, CRep w1 o1 { C with bf := s, bl := C.bl ++ l } N c ∧ Stp QP w o w1 o1 ∧ Has w1 b cs T ∧ o1 b = 0
section
variable {w w1 : World} {o : Nat → Nat} {C : CC} {N : List Nd} {c : CmD} {l : Bs} {b : Nat} {cs : Array Value} {T : TypeId}
theorem LyI.own (h : LyI w o C N c l w1) (cs : Array Value) (T : TypeId) : LyB w o C N c l w1.heap.size cs T (w1.alloc (.cells cs T)) := by
  obtain ⟨o1, s, R, S⟩ := h
  exact ⟨o1, s, R.alloc _, S.alloc _, Has.new _ _ _, R.ow _ (Nat.le_refl _)⟩
theorem LyB.out (h : LyB w o C N c l b cs T w1) : LyI w o C N c l w1 := by
  obtain ⟨o1, s, R, S, _⟩ := h
  exact ⟨o1, s, R, S⟩
theorem LyB.has (h : LyB w o C N c l b cs T w1) : Has w1 b cs T := by
  obtain ⟨_, _, _, _, h, _⟩ := h
  exact h
theorem LyB.put (h : LyB w o C N c l b cs T w1) (l2 : Bs) {kb m cap : Nat} {ob : Obj} {T' : TypeId} (hk : kb = w1.heap.size) (hb : Has (w1.alloc ob) w1.heap.size (l2.flatMap bCells).toArray T') (hm : l2.length = m) (hp : 0 < m) (hl : C.bl.length + l.length + m ≤ 1000000) :
    Calls Tryz.prog 66 #[.pointer (some ⟨C.cb, 0, none⟩), .slice (some ⟨kb, 0, none⟩) m cap] (w1.alloc ob) fun e w' => e = .returned (.tuple #[]) ∧ LyB w o C N c (l ++ l2) b cs T w' := by
  subst hk
  obtain ⟨o1, s, R, S, H, hz⟩ := h
  refine (put_any (R.alloc ob) l2 hb hm hp (by simp only [List.length_append]; omega)).mono ?_
  rintro e w2 ⟨rfl, o2, s2, R2, S2⟩
  have S3 := ((Stp.refl QP w1 o1).alloc ob).trans S2
  refine ⟨rfl, o2, s2, ?_, S.trans S3, S3.has H (by rw [hz]; unfold QP; omega), (S3.ext _ H.lt).trans hz⟩
  simp only [List.append_assoc] at R2
  exact R2
end
theorem byte_shr (n i : Nat) : ([byteN (n / 256 ^ i)] : Bs).flatMap bCells = [.int .u8 ((n : Int) / 2 ^ (8 * i) % 256)] := by
  rw [List.flatMap_cons, List.flatMap_nil, byteN_cell]
  have : ((n / 256 ^ i : Nat) : Int) = (n : Int) / 2 ^ (8 * i) := by
    rw [show (256 : Nat) ^ i = 2 ^ (8 * i) by rw [Nat.pow_mul]]
    simp
  rw [this]
  rfl
def byB (n i : Nat) : Bs := (List.range i).map fun k => byteN (n / 256 ^ k)
theorem byB_len (n i : Nat) : (byB n i).length = i := by simp [byB]
theorem byB_succ (n i : Nat) : byB n (i + 1) = byB n i ++ [byteN (n / 256 ^ i)] := by unfold byB; rw [List.range_succ]; simp
/-- at a round's head: g constants are to come -/
def KtI (w : World) (o : Nat → Nat) (C : CC) (N : List Nd) (c : CmD) (cds : List Vl) (g : Nat) (v : Value) (w1 : World) : Prop :=
  ∃ j : Nat, j + g = cds.length ∧ v = .int .i64 j ∧ LyI w o C N c ((cds.take j).flatMap layC) w1
section
set_option maxRecDepth 100000
set_option maxHeartbeats 1000000
variable {w : World} {o : Nat → Nat} {C : CC} {N : List Nd} {c : CmD} {x np : Nat}
theorem consts_w (R : CRep w o C N c) (hx : x < c.np) (hu : ∀ d ∈ (c.fn x).consts, d.ok) (hl : C.bl.length + 42 * (c.fn x).consts.length ≤ 900000) {a : Act} (ha : Fr41 C.cb C.gF x np a) {K : Act → World → Prop} {Q : Exit → Act → World → Prop} (hQ : ∀ c a t v w, Q (.panic c) (a.put (some t) v) w → Q (.panic c) a w) (hK : ∀ a' w', Fr41 C.cb C.gF x np a' → LyI w o C N c ((c.fn x).consts.flatMap layC) w' → K a' w') :
    (lyK Tryz.f41.body).wp Tryz.prog (Exit.then K Q) a w := by
  obtain ⟨xs, L, F⟩ := R.fn hx
  have c5 := F.cell 6 (by omega)
  have fl := F.lt
  simp only [fnV, List.getElem?_cons_succ, List.getElem?_cons_zero, Sl.v] at c5
  obtain ⟨u, rfl⟩ := ha.form
  have HF : Hid (FnAt w o C c x xs L) := F
  have HU : Hid (∀ d ∈ (c.fn x).consts, d.ok) := hu
  have HK : Hid (∀ a' w', Fr41 C.cb C.gF x np a' → LyI w o C N c ((c.fn x).consts.flatMap layC) w' → K a' w') := hK
  obtain ⟨cds, HUPS⟩ : ∃ cds, Hid ((c.fn x).consts = cds) := ⟨_, rfl⟩
  have HRU : Hid (Row w o (labF x 2) 68 3 L.cn cds.length (cds.flatMap vCells)) := by rw [← HUPS.out]; exact F.one.cn
  rw [HUPS.out] at c5 hl HU HK
  obtain ⟨n, HN⟩ : ∃ n : Nat, Hid (cds.length = n) := ⟨_, rfl⟩
  obtain ⟨ua, HUA⟩ : ∃ ua, Hid (L.cn.a = ua) := ⟨_, rfl⟩
  rw [HN.out, HUA.out] at c5
  rw [HN.out] at hl
  have HI0 : Hid (KtI w o C N c cds n (.int .i64 0) w) := ⟨0, by rw [HN.out]; omega, rfl, o, C.bf, by simp only [List.take_zero, List.flatMap_nil, List.append_nil]; exact R, Stp.refl _ _ _⟩
  have HQX : Hid (∀ c a t v w, Q (.panic c) (a.put (some t) v) w → Q (.panic c) a w) := hQ
  clear R F hu hK ha hQ
  simp only [lyK, lyY, codeL, codeR, codeIn, Tryz.f41, Option.getD_some]
  go_wp2_with fail
  go_loopg [85] n (fun g v85 w1 => Hid (KtI w o C N c cds g v85 w1))
  case atStart => exact HI0
  case round =>
    obtain ⟨j, hj, rfl, hI⟩ := hrel.out
    rw [HN.out] at hj
    have HI : Hid (LyI w o C N c ((cds.take j).flatMap layC) wr) := hI
    clear hI hrel
    by_cases hjn : j < n
    · have hj' : (j : Int) < (n : Int) := by omega
      obtain ⟨d, hd⟩ : ∃ d, cds[j]? = some d := ⟨_, List.getElem?_eq_getElem (by rw [HN.out]; exact hjn)⟩
      have hd2 := HU.out d (List.mem_of_getElem? hd)
      obtain ⟨o1, s1, R1, S1⟩ := HI.out
      obtain ⟨gU, e1, e2, e3, e4, e5, e6⟩ := (HRU.out.st S1 (by unfold QP labF; omega)).at vCells_len hd
      have e5' := e5
      have k0 := e5 0 (by omega)
      have k1 := e5 1 (by omega)
      simp only [vCells, List.getElem?_cons_succ, List.getElem?_cons_zero, Nat.add_zero] at k0 k1
      rw [HN.out] at e2
      have hua : ua = some ⟨gU, 0, none⟩ := HUA.out.symm.trans e1
      subst hua
      have HD : Hid (cds[j]? = some d) := hd
      clear e1 e3 e5 e6 hd R1 S1
      obtain ⟨g', HG'⟩ : ∃ g', Hid (gk = g' + 1) := ⟨gk - 1, by show _ = _; omega⟩
      have HJ : Hid (j + gk = n) := hj
      have HT : Hid ((cds.take (j + 1)).flatMap layC = (cds.take j).flatMap layC ++ layC d) := by
        show _ = _
        rw [List.take_add_one, HD.out]
        simp
      have k2 := e5' 2 (by omega)
      simp only [vCells, List.getElem?_cons_succ, List.getElem?_cons_zero] at k2
      clear e5'
      have HLN : Hid (C.bl.length + ((cds.take j).flatMap layC).length + 42 ≤ 900000) := by
        show _ ≤ _
        have : ((cds.take j).flatMap layC).length ≤ 42 * (cds.take j).length := flatm_len layC 42 _ (fun v hv => layC_len (HU.out v (List.mem_of_mem_take hv)))
        rw [List.length_take, HN.out, Nat.min_eq_left (by omega)] at this
        omega
      rcases hd2 with ⟨hv, hn1, hn2⟩ | ⟨hv, hs1⟩
      · obtain ⟨vt, vn, vs⟩ := d
        have hvt : vt = 2 := congrArg Vl.t hv
        have hvs : vs = [] := congrArg Vl.s hv
        subst hvt hvs
        simp only at k0 k1 k2 hn1
        clear hv hn2
        have LB0 := HI.out.own #[.int .i64 2, .int .u64 (vn : Nat), sv []] 68
        have HP := LB0.put [1] (kb := wr.heap.size + 1) (m := 1) (cap := 1) (ob := .cells #[.int .u8 1] 5) (by simp) (Has.new _ _ _) rfl (by omega) (by have := HLN.out; omega)
        have HLY : Hid (layC ⟨2, vn, []⟩ = [1] ++ byB vn 8) := rfl
        clear LB0
        go_wp2_with fail
        refine HP.mono ?_
        rintro e1 w2 ⟨rfl, L2⟩
        have HL2 : Hid (LyB w o C N c ((cds.take j).flatMap layC ++ [1]) wr.heap.size #[.int .i64 2, .int .u64 (vn : Nat), sv []] 68 w2) := L2
        clear L2 HP
        obtain ⟨bv, HBV⟩ : ∃ bv, Hid (wr.heap.size = bv) := ⟨_, rfl⟩
        rw [HBV.out] at HL2 ⊢
        go_wp2_with fail
        go_loopg [95] 8 (fun g v95 w3 => Hid (∃ i : Nat, i + g = 8 ∧ v95 = .int .i64 i ∧ LyB w o C N c ((cds.take j).flatMap layC ++ [1] ++ byB vn i) bv #[.int .i64 2, .int .u64 (vn : Nat), sv []] 68 w3))
        case atStart => exact ⟨0, rfl, rfl, by have := HL2.out; unfold byB; simp only [List.range_zero, List.map_nil, List.append_nil]; exact this⟩
        case round =>
          obtain ⟨i, hi, rfl, L3⟩ := hrel.out
          by_cases hi8 : i < 8
          · have hi8' : (i : Int) < 8 := by omega
            have b1 := L3.has.cell 1
            have bl := L3.has.lt
            simp only [List.getElem?_toArray, List.getElem?_cons_succ, List.getElem?_cons_zero] at b1
            have HL3 : Hid (LyB w o C N c ((cds.take j).flatMap layC ++ [1] ++ byB vn i) bv #[.int .i64 2, .int .u64 (vn : Nat), sv []] 68 _) := L3
            have HP3 := L3.put [byteN (vn / 256 ^ i)] (kb := _) (m := 1) (cap := 1) (ob := .cells #[.int .u8 ((vn : Int) / 2 ^ (8 * i) % 256)] 5) rfl (by rw [byte_shr]; exact Has.new _ _ _) rfl (by omega) (by have h1 := HLN.out; have h2 := byB_len vn i; simp only [List.length_append, h2, List.length_singleton]; omega)
            obtain ⟨h', HH'⟩ : ∃ h', Hid (h' + 1 + i = 8) := ⟨8 - i - 1, by show _ = _; omega⟩
            have HI8 : Hid (i < 8) := hi8
            have HSM : Hid (i + _ = 8) := hi
            clear L3 hrel hi
            go_wp2_with fail
            refine HP3.mono ?_
            rintro e4 w4 ⟨rfl, L4⟩
            have HL4 : Hid (LyB w o C N c ((cds.take j).flatMap layC ++ [1] ++ byB vn (i + 1)) bv #[.int .i64 2, .int .u64 (vn : Nat), sv []] 68 w4) := by
              have := L4
              rw [List.append_assoc, ← byB_succ] at this
              exact this
            clear L4 HP3
            go_wp2_with fail
            go_roundg h'
            case measure => have h1 := HH'.out; have h2 := HSM.out; omega
            case rel => exact ⟨i + 1, by have h1 := HH'.out; have h2 := HSM.out; omega, by simp, HL4.out⟩
          · have hi8' : ¬ (i : Int) < 8 := by omega
            have hie : i = 8 := by omega
            have HL3 : Hid (LyI w o C N c ((cds.take (j + 1)).flatMap layC) wr) := by
              have := L3.out
              rw [hie, List.append_assoc, ← HLY.out, ← HT.out] at this
              exact this
            clear L3 hrel hi
            go_wp2_with fail
            go_roundg g'
            case measure => have := HG'.out; omega
            case rel => exact ⟨j + 1, by have h1 := HJ.out; have h2 := HG'.out; rw [HN.out]; omega, by simp, HL3.out⟩
      · obtain ⟨vt, vn, vs⟩ := d
        have hvt : vt = 3 := congrArg Vl.t hv
        have hvn : vn = 0 := congrArg Vl.n hv
        subst hvt hvn
        simp only at k0 k1 k2 hs1
        clear hv
        have LB0 := HI.out.own #[.int .i64 3, .int .u64 ((0 : Nat) : Int), sv vs] 68
        have HP := LB0.put [2, byteN vs.length] (kb := wr.heap.size + 1) (m := 2) (cap := 2) (ob := .cells #[.int .u8 2, .int .u8 (vs.length : Nat)] 5) (by simp) (by
          have := Has.new (wr.alloc (.cells #[.int .i64 3, .int .u64 ((0 : Nat) : Int), sv vs] 68)) #[.int .u8 2, .int .u8 (vs.length : Nat)] 5
          rw [List.flatMap_cons, List.flatMap_cons, List.flatMap_nil, byteN_low (by omega)]
          exact this) rfl (by omega) (by have := HLN.out; omega)
        have HLY : Hid (layC ⟨3, 0, vs⟩ = [2, byteN vs.length] ++ vs) := rfl
        clear LB0
        go_wp2_with fail
        refine HP.mono ?_
        rintro e1 w2 ⟨rfl, L2⟩
        have HL2 : Hid (LyB w o C N c ((cds.take j).flatMap layC ++ [2, byteN vs.length]) wr.heap.size #[.int .i64 3, .int .u64 ((0 : Nat) : Int), sv vs] 68 w2) := L2
        obtain ⟨o2, s2, R2, S2, H2, z2⟩ := L2
        have d5 := R2.blk.has.cell 5
        have dl := R2.blk.has.lt
        have dz := R2.blk.has.frozen 5
        simp only [comC, List.getElem?_toArray, List.getElem?_cons_succ, List.getElem?_cons_zero, Sl.v] at d5
        have b2 := H2.cell 2
        have bl := H2.lt
        simp only [List.getElem?_toArray, List.getElem?_cons_succ, List.getElem?_cons_zero] at b2
        obtain ⟨q, HQ⟩ : ∃ q : Nat, Hid ((C.bl ++ ((cds.take j).flatMap layC ++ [2, byteN vs.length])).length = q) := ⟨_, rfl⟩
        have HQL : Hid (q + vs.length ≤ 1000000) := by
          show _ ≤ _
          have h1 := HLN.out
          have h2 := HQ.out
          simp only [List.length_append, List.length_cons, List.length_nil] at h2
          omega
        rw [HQ.out] at d5
        obtain ⟨bv, HBV⟩ : ∃ bv, Hid (wr.heap.size = bv) := ⟨_, rfl⟩
        rw [HBV.out] at b2 bl HL2 ⊢
        have HR2 : Hid (CRep w2 o2 { C with bf := s2, bl := C.bl ++ ((cds.take j).flatMap layC ++ [2, byteN vs.length]) } N c) := R2
        have HS2 : Hid (Stp QP w o w2 o2) := S2
        have HZ : Hid (o2 bv = 0) := by rw [← HBV.out]; exact z2
        clear HP R2 S2 H2 z2
        go_wp2_with fail
        obtain ⟨PW, HPW⟩ : ∃ PW : World → Prop, Hid (PW = fun y => y.cell? ⟨C.cb, 5, none⟩ = some (.slice s2.a (q : Nat) s2.c) ∧ y.cell? ⟨bv, 2, none⟩ = some (sv vs)) := ⟨_, rfl⟩
        have mkP : Hid (∀ y : World, y.cell? ⟨C.cb, 5, none⟩ = some (.slice s2.a (q : Nat) s2.c) → y.cell? ⟨bv, 2, none⟩ = some (sv vs) → PW y) := by rw [HPW.out]; exact fun y h1 h2 => ⟨h1, h2⟩
        have oP : Hid (∀ y, PW y → y.cell? ⟨C.cb, 5, none⟩ = some (.slice s2.a (q : Nat) s2.c) ∧ y.cell? ⟨bv, 2, none⟩ = some (sv vs)) := by rw [HPW.out]; exact fun y h => h
        have p1 : ∀ s : WQ PW, s.y.cell? ⟨C.cb, 5, none⟩ = some (.slice s2.a (q : Nat) s2.c) := fun s => (oP.out s.y s.f).1
        have p2 : ∀ s : WQ PW, s.y.cell? ⟨bv, 2, none⟩ = some (sv vs) := fun s => (oP.out s.y s.f).2
        have HNE : Nonempty (WQ PW) := WQ.non (mkP.out w2 d5 b2)
        clear HPW
        refine wp_region_head 7 1 (fun y => ∃ s : WQ PW, y = s.y) (by kernel_rfl) (by kernel_rfl) (fun c a t v w h => HQX.out c a t v w h) ⟨⟨w2.drew, mkP.out _ d5 b2⟩, rfl⟩ ?_
        simp only [List.take_succ_cons, List.take_zero, List.drop_succ_cons, List.drop_zero]
        repeat go_big_quiet_step (fail)
        refine wpQuiet_nil ?_
        clear p1 p2 HNE oP
        have frd : Fr (fun _ => False) w2 w2.drew := (Fr.refl _ _).drew
        have hrow := HR2.out.buf
        simp only at hrow
        rw [HQ.out] at hrow
        unfold wpChain
        refine wpList_appStr rowByte (by kernel_rfl) _ rfl (.tmp 119) (.tmp 121) rfl (s2.v q) q ((C.bl ++ ((cds.take j).flatMap layC ++ [2, byteN vs.length])).flatMap bCells) rfl (hrow.st (Stp.fresh (fun _ => False) o2 frd) (fun h => h)).own vs rfl HQL.out ?_
        intro b cap w3 q1 q2 q3
        rw [byte_flat, ← List.flatMap_append] at q1
        obtain ⟨o4, r1, r2⟩ := hrow.appS frd q1 q2 q3
        have hb4 := HR2.out.blk.st r2 (by omega)
        obtain ⟨pp1, pp2⟩ := hb4.put 5 (.slice b (q + vs.length : Nat) cap) (cs' := comC { C with bf := ⟨b, cap⟩, bl := C.bl ++ ((cds.take j).flatMap layC ++ [2, byteN vs.length] ++ vs) } N.length c.np) (by
          have h1 := HQ.out
          have h2 : (C.bl ++ ((cds.take j).flatMap layC ++ [2, byteN vs.length] ++ vs)).length = q + vs.length := by rw [← h1]; simp only [List.length_append]; omega
          simp only [comC, Sl.v, h2]
          rfl)
        have s4 : Stp QP w2 o2 _ o4 := (r2.weaken (fun k h => .inr h)).trans (pp2.weaken (fun k h => .inl h))
        have d5' : w3.cell? ⟨C.cb, 5, none⟩ = some (.slice s2.a (q : Nat) s2.c) := (r2.cellQ dl (by rw [HR2.out.blk.lb]; omega) 5).trans d5
        have b2' : w3.cell? ⟨bv, 2, none⟩ = some (sv vs) := (r2.cellQ bl (by rw [HZ.out]; omega) 2).trans b2
        have dl3 := hb4.has.lt
        have dz3 := hb4.has.frozen 5
        have HFIN : Hid (LyI w o C N c ((cds.take (j + 1)).flatMap layC) (w3.setCell ⟨C.cb, 5, none⟩ (.slice b (q + vs.length : Nat) cap))) := by
          rw [HT.out, HLY.out, ← List.append_assoc]
          obtain ⟨xs', a1, a2, a3⟩ := HR2.out.fns
          refine ⟨o4, ⟨b, cap⟩, ⟨pp1, HR2.out.nds.st s4 (by unfold QP; omega), ?_, ⟨xs', a1.st s4 (by unfold QP; omega) (by unfold QP; omega) (fun x j => by unfold QP labF; omega), a2, a3⟩, HR2.out.len, HR2.out.np, s4.hi HR2.out.ow⟩, HS2.out.trans s4⟩
          have := r1.st pp2 (by omega)
          have h2 : (C.bl ++ ((cds.take j).flatMap layC ++ [2, byteN vs.length] ++ vs)).length = q + vs.length := by rw [← HQ.out]; simp only [List.length_append]; omega
          simp only
          rw [h2]
          rw [show C.bl ++ ((cds.take j).flatMap layC ++ [2, byteN vs.length] ++ vs) = C.bl ++ ((cds.take j).flatMap layC ++ [2, byteN vs.length]) ++ vs by simp only [List.append_assoc]]
          exact this
        clear q1 q2 q3 r1 r2 hb4 pp1 pp2 s4 hrow frd
        refine ⟨⟨⟨_, mkP.out _ d5' b2'⟩, rfl⟩, ?_⟩
        clear mkP
        rw [wpChain_zero]
        simp only [Act.put, List.setIfInBounds_toArray, List.set_cons_succ, List.set_cons_zero]
        go_wp2_with fail
        go_roundg g'
        case measure => have := HG'.out; omega
        case rel => exact ⟨j + 1, by have h1 := HJ.out; have h2 := HG'.out; rw [HN.out]; omega, by simp, HFIN.out⟩
    · have hj' : ¬ (j : Int) < (n : Int) := by omega
      have hjj : j = n := by omega
      go_wp2_with fail
      refine HK.out _ _ ⟨by kernel_rfl, by kernel_rfl, by kernel_rfl, by kernel_rfl, by kernel_rfl, rfl⟩ ?_
      have := HI.out
      rw [hjj, ← HN.out, List.take_length] at this
      exact this
end
end Go.Proofs.Qxb6500574aGreatDoor
