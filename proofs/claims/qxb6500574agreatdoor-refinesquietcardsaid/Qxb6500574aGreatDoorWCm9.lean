/-
  THE WALK of comp: upvalues. Written by tools/gen_upv.py.
-/
import Derived.Test.Qxb6500574aGreatDoorWCm8
namespace Go.Proofs.Qxb6500574aGreatDoor
open Go Go.RowKit
set_option linter.unusedVariables false
set_option linter.unusedSimpArgs false
open Go.Lib
theorem rowUps : IsRow Tryz.prog 96 135 (.agg #[.int .u8 0, .int .u8 0]) 2 2 := ⟨by kernel_rfl, by kernel_rfl, rfl, by decide⟩
theorem eqD (a b c d : Int) (w : World) : (Op.equalIn 10000 135 (.agg #[.int .u8 a, .int .u8 b]) (.agg #[.int .u8 c, .int .u8 d])).run Tryz.prog w = .ok (a == c && b == d) w := by
  have u3 := Tryz.underlying5
  have a3 := Tryz.isAgg5
  have z3 := Tryz.sizeOf5
  rw [show (10000 : Nat) = 9999 + 1 from rfl, Op.equalIn]
  simp only [Sem.run_bind, run_underlying Tryz.underlying135, Result.andThen_ok]
  simp only [Std.Legacy.Range.forIn_eq_forIn_range', Std.Legacy.Range.size, Nat.sub_zero, Nat.add_sub_cancel, Nat.div_one, List.range'_succ, List.range'_zero, List.forIn_cons, List.forIn_nil]
  go_simp
  by_cases h1 : a = c <;> by_cases h2 : b = d <;> simp [h1, h2]
/-- at a round's head of upvalue's loop -/
def UvI (W : World) (o : Nat → Nat) (ups : List (Nat × Nat)) (d : Nat × Nat) (g : Nat) (v : Value) (w1 : World) : Prop :=
  ∃ j : Nat, j + g = ups.length ∧ v = .int .i64 j ∧ Stp (fun _ => False) W o w1 o ∧ ∀ i, i < j → ups[i]? ≠ some d
theorem ups_found {ups : List (Nat × Nat)} {d : Nat × Nat} {j : Nat} (h : ups[j]? = some d) (g : ∀ i, i < j → ups[i]? ≠ some d) : ups.findIdx? (fun e => e == d) = some j := by
  rw [List.findIdx?_eq_some_iff_getElem]
  have hj := (List.getElem?_eq_some_iff.1 h).1
  refine ⟨hj, by simpa using (List.getElem?_eq_some_iff.1 h).2, fun i hi => ?_⟩
  have := g i hi
  rw [List.getElem?_eq_getElem (by omega)] at this
  simpa using this
theorem ups_none {ups : List (Nat × Nat)} {d : Nat × Nat} (g : ∀ i, i < ups.length → ups[i]? ≠ some d) : ups.findIdx? (fun e => e == d) = none := by
  rw [List.findIdx?_eq_none_iff]
  intro v hv
  obtain ⟨i, hi⟩ := List.mem_iff_getElem?.1 hv
  have := g i (List.getElem?_eq_some_iff.1 hi).1
  rw [hi] at this
  simpa using this
/-- what an upvalue's look comes to, once the descriptor is known -/
def upEnd (c1 : CmD) (f : Nat) (d : Nat × Nat) : CmD × Option Nat := match (c1.fn f).ups.findIdx? (fun e => e == d) with
  | some k => (c1, some k)
  | none => (c1.upd f fun x => { x with ups := x.ups ++ [d] }, some (c1.fn f).ups.length)
section
set_option maxRecDepth 100000
set_option maxHeartbeats 2000000
variable {C : CC} {N : List Nd} {s : Bs}
theorem upvalue_any (hs : s ≠ []) : ∀ (n : Nat) (r : En) (f : Nat) (L : List Bs) (w : World) (o : Nat → Nat) (c : CmD), Inv c ((f, L) :: r) → r.length < n → CRep w o C N c → f < c.np →
    Calls Tryz.prog 274 #[fptr C.gF f, sv s] w fun e w' => e = .returned (.int .i64 (slotI (upN c s n f).2)) ∧ ∃ o', CRep w' o' C N (upN c s n f).1 ∧ Stp QC w o w' o' := by
  intro n
  induction n with
  | zero => intro r f L w o c I hr; exact absurd hr (Nat.not_lt_zero _)
  | succ n ih =>
    intro r f L w o c I hr R hf
    obtain ⟨xs, l, F⟩ := R.fn hf
    have c1 := F.cell 1 (by omega)
    have c5 := F.cell 5 (by omega)
    have hlt := F.lt
    simp only [fnV, List.getElem?_cons_succ, List.getElem?_cons_zero, Sl.v] at c1 c5
    have hpar : (c.fn f).parent = r.head?.map Prod.fst := I.1.2.2.1
    cases r with
    | nil =>
      rw [hpar] at c1
      have hu : upN c s (n + 1) f = (c, none) := by
        unfold upN
        rw [hpar]
        rfl
      rw [hu]
      simp only [List.head?_nil, Option.map_none, pptr] at c1
      have HR : Hid (CRep w o C N c) := R
      clear F R I hpar hu ih
      unfold fptr
      go_enter Tryz.func274, Tryz.ntmps274
      go_wp2_with fail
      go_ret
      exact ⟨rfl, o, HR.out, Stp.refl _ _ _⟩
    | cons e r =>
      obtain ⟨g, Lg⟩ := e
      rw [hpar] at c1
      simp only [List.head?_cons, Option.map_some, pptr, fptr] at c1
      have hgf : g < f := I.1.2.2.2 (g, Lg) (by simp)
      have hgn : g < c.np := by omega
      have IG := I.tail
      have hloc := IG.loc
      have hl12 := IG.l12
      have R1 := R.alloc (.cells #[.int .u8 1, .int .u8 0] 135)
      have HS1 : Hid (Stp QC w o (w.alloc (.cells #[.int .u8 1, .int .u8 0] 135)) o) := (Stp.refl _ _ _).alloc _
      have HB1 : Hid (Has (w.alloc (.cells #[.int .u8 1, .int .u8 0] 135)) w.heap.size #[.int .u8 1, .int .u8 0] 135) := Has.new _ _ _
      have HO1 : Hid (o w.heap.size = 0) := R.ow _ (Nat.le_refl _)
      have hslot := slot_any R1 hgn s (by rw [hloc]; omega)
      rw [hloc] at hslot
      unfold fptr at hslot
      have c1a : (w.alloc (.cells #[.int .u8 1, .int .u8 0] 135)).cell? ⟨C.gF, f * 11 + 1, none⟩ = some (.pointer (some ⟨C.gF, g * 11, none⟩)) := by
        rw [(Stp.fresh (fun _ => False) o ((Fr.refl _ _).alloc _)).cellQ hlt (fun h => h)]
        exact c1
      cases hsl : slotL Lg s with
      | some k =>
        have hk := (List.getElem?_eq_some_iff.1 (slotL_at hsl)).1
        have HU : Hid (upN c s (n + 1) f = upEnd c f (1, k)) := by
          show _ = _
          unfold upN
          rw [hpar]
          simp only [List.head?_cons, Option.map_some, hloc, hsl]
          rw [Nat.mod_eq_of_lt (by omega)]
          rfl
        rw [hsl] at hslot
        simp only [slotI] at hslot
        have HNP : Hid (f < c.np) := hf
        have HI : Hid (Inv c ((f, L) :: (g, Lg) :: r)) := I
        have hul := I.ups144
        simp only at hul
        have HRW : Hid (CRep (w.alloc (.cells #[.int .u8 1, .int .u8 (k : Nat)] 135)) o C N c) := R.alloc _
        have HBW : Hid (Has (w.alloc (.cells #[.int .u8 1, .int .u8 (k : Nat)] 135)) w.heap.size #[.int .u8 1, .int .u8 (k : Nat)] 135) := Has.new _ _ _
        have HSW : Hid (Stp QC w o (w.alloc (.cells #[.int .u8 1, .int .u8 (k : Nat)] 135)) o) := (Stp.refl _ _ _).alloc _
        have HFW : Hid (FnAt (w.alloc (.cells #[.int .u8 1, .int .u8 (k : Nat)] 135)) o C c f xs l) := F.fresh ((Fr.refl _ _).alloc _)
        rw [HU.out]
        obtain ⟨m, HM⟩ : ∃ m : Nat, Hid ((c.fn f).ups.length = m) := ⟨_, rfl⟩
        rw [HM.out] at c5 hul
        have HOB : Hid (o w.heap.size < 1050) := by show _ < _; rw [HO1.out]; omega
        clear F R I hpar ih IG hloc hsl R1 hgf hr hgn hf HB1 HS1
        unfold fptr
        go_enter Tryz.func274, Tryz.ntmps274
        go_wp2_with (go_at_call 273; refine hslot.mono ?_; rintro e w1 ⟨rfl, rfl⟩)
        generalize (w.alloc (.cells #[.int .u8 1, .int .u8 (k : Nat)] 135)) = W at *
        have HS0 : Hid (UvI W o (c.fn f).ups (1, k) m (.int .i64 0) W) := ⟨0, by have := HM.out; omega, rfl, Stp.refl _ _ _, fun i hi => by omega⟩
        go_loopg [40] m (fun g v40 w1 => Hid (UvI W o (c.fn f).ups (1, k) g v40 w1))
        case atStart => exact HS0
        case round =>
          obtain ⟨j, hj, rfl, hS, hno⟩ := hrel.out
          have HNO : Hid (∀ i, i < j → (c.fn f).ups[i]? ≠ some (1, k)) := hno
          have HSJ : Hid (Stp (fun _ => False) W o wr o) := hS
          rw [HM.out] at hj
          have b1 := hS.has HBW.out (fun h => h)
          have e0 := b1.cell 0
          have e1 := b1.cell 1
          have el := b1.lt
          simp only [List.getElem?_toArray, List.getElem?_cons_succ, List.getElem?_cons_zero] at e0 e1
          have F1 := HFW.out.st hS (fun h => h) (fun _ _ h => h)
          have HF1 : Hid (FnAt wr o C c f xs l) := F1
          have HB1 : Hid (Has wr w.heap.size #[.int .u8 1, .int .u8 (k : Nat)] 135) := b1
          clear hS hno hrel HS0 b1
          by_cases hjl : j < m
          · obtain ⟨g1, a1, a2, a3, a4, a5, a6⟩ := F1.one.up.cells (by show 0 < (c.fn f).ups.length; rw [HM.out]; omega)
            obtain ⟨⟨p, q⟩, hdj⟩ : ∃ dj, (c.fn f).ups[j]? = some dj := ⟨_, List.getElem?_eq_getElem (by rw [HM.out]; exact hjl)⟩
            have k0 : wr.cell? ⟨g1, j * 2, none⟩ = some (.int .u8 (p : Nat)) := by
              rw [a5 _ (by show _ < (c.fn f).ups.length * 2; rw [HM.out]; omega)]
              have := flatMap_at dCells 2 dCells_len (c.fn f).ups j 0 (p, q) hdj (by omega)
              simpa [dCells] using this
            have k1 : wr.cell? ⟨g1, j * 2 + 1, none⟩ = some (.int .u8 (q : Nat)) := by
              rw [a5 _ (by show _ < (c.fn f).ups.length * 2; rw [HM.out]; omega)]
              have := flatMap_at dCells 2 dCells_len (c.fn f).ups j 1 (p, q) hdj (by omega)
              simpa [dCells] using this
            have HDJ : Hid ((c.fn f).ups[j]? = some (p, q)) := hdj
            have HA : Hid (l.up.a = some ⟨g1, 0, none⟩) := a1
            have t1 : decide (j < m) = true := decide_eq_true hjl
            clear a3 a5 a6 hdj F1
            by_cases hd : (p, q) = (1, k)
            · have HE : Hid (upEnd c f (1, k) = (c, some j)) := by
                show _ = _
                unfold upEnd
                rw [ups_found (by rw [HDJ.out, hd]) HNO.out]
              injection hd with hd1 hd2
              have hq : ∀ W, (Op.equalIn 10000 135 (.agg #[.int .u8 (p : Nat), .int .u8 (q : Nat)]) (.agg #[.int .u8 1, .int .u8 (k : Nat)])).run Tryz.prog W = .ok true W := fun W => by
                rw [eqD, hd1, hd2]
                simp
              clear hd1 hd2
              go_wp2_with fail
              go_ret
              rw [HE.out]
              have sR : Stp (fun _ => False) W o (wr.alloc (.cells #[.int .u8 (p : Nat), .int .u8 (q : Nat)] 135)) o := HSJ.out.alloc _
              exact ⟨rfl, o, HRW.out.st sR (fun h => h) (fun h => h) (fun _ _ h => h), HSW.out.trans (sR.weaken (fun _ h => h.elim))⟩
            · have hq : ∀ W, (Op.equalIn 10000 135 (.agg #[.int .u8 (p : Nat), .int .u8 (q : Nat)]) (.agg #[.int .u8 1, .int .u8 (k : Nat)])).run Tryz.prog W = .ok false W := fun W => by
                rw [eqD]
                congr 1
                by_cases h1 : (p : Int) = 1
                · have h2 : ¬ ((q : Int) = k) := fun h2 => hd (by congr 1 <;> omega)
                  simp [h2]
                · have h3 : ((p : Int) == 1) = false := beq_eq_false_iff_ne.2 h1
                  rw [h3]
                  rfl
              have HDN : Hid ((c.fn f).ups[j]? ≠ some (1, k)) := by
                show _ ≠ _
                rw [HDJ.out]
                simpa using hd
              clear hd
              go_wp2_with fail
              have HSN : Hid (Stp (fun _ => False) W o (wr.alloc (.cells #[.int .u8 (p : Nat), .int .u8 (q : Nat)] 135)) o) := HSJ.out.alloc _
              rw [← HA.out]
              obtain ⟨g', HG'⟩ : ∃ g', Hid (gk = g' + 1) := ⟨gk - 1, by show gk = _; omega⟩
              clear hq
              go_roundg g'
              case measure => have := HG'.out; omega
              case rel =>
                have hg' := HG'.out
                refine ⟨j + 1, by rw [HM.out]; omega, by simp, HSN.out, fun i hi => ?_⟩
                by_cases hij : i = j
                · rw [hij]; exact HDN.out
                · exact HNO.out i (by omega)
          · have t1 : decide (j < m) = false := decide_eq_false hjl
            have HE : Hid (upEnd c f (1, k) = (c.upd f fun x => { x with ups := x.ups ++ [(1, k)] }, some m)) := by
              show _ = _
              unfold upEnd
              rw [ups_none (fun i hi => HNO.out i (by rw [HM.out] at hi; omega)), HM.out]
            have c5' := F1.cell 5 (by omega)
            have hlt' := F1.lt
            simp only [fnV, List.getElem?_cons_succ, List.getElem?_cons_zero, Sl.v, HM.out] at c5'
            have hrow := F1.one.up.own
            clear F1
            have hne : ∀ y, (l.up.v m).ownBlock = some y → o y = labF f 1 := fun y hy => HF1.out.one.up.lb y (by rw [ownBlock_any _ _ _ m l.up.c]; exact hy)
            have HROW : Hid (wr.ownsRow 0 135 2 (l.up.v m) m ((c.fn f).ups.flatMap dCells)) := by
              rw [HM.out] at hrow
              exact hrow
            clear hrow
            go_wp2_with fail
            refine wp_region_app rowUps 6 (by kernel_rfl) (by kernel_rfl) (fun _ _ _ _ _ h => h) _ _ _ rfl (.tmp 55) (.tmp 54) 56 57 rfl rfl rfl rfl rfl rfl (l.up.v m) m _ HROW.out (.agg #[.int .u8 1, .int .u8 (k : Nat)]) rfl (by decide) (by simp [Value.cells, Value.oneCell']) (by omega) ?_
            intro g' cap' w2 q1 q2 q3 q4
            have kb' : Has w2 w.heap.size #[.int .u8 1, .int .u8 (k : Nat)] 135 := (HB1.out.alloc _).fr q2 (fun hk => by have h8 := hne _ hk; have h9 := HOB.out; rw [h8] at h9; unfold labF at h9; omega)
            obtain ⟨r1, r2⟩ := HF1.out.one.up.app (w1 := wr.alloc (.cells #[.int .u8 1, .int .u8 (k : Nat)] 135)) ((Fr.refl _ _).alloc _) q1 (by rw [HM.out]; exact q2) (by rw [HM.out]; exact q3.imp_right (fun h => by omega)) q4
            have hb2 := HF1.out.rep.here.st r2 (by unfold labF; omega)
            have j0 := kb'.cell 0
            have j1 := kb'.cell 1
            have d5 : w2.cell? ⟨C.gF, f * 11 + 5, none⟩ = some (.slice l.up.a m l.up.c) := by
              rw [r2.cellQ hlt' (by rw [HF1.out.rep.here.lb]; unfold labF; omega)]
              exact c5'
            have d3 := hb2.has.frozen (f * 11 + 5)
            have k3 := hb2.has.lt
            have kb2 := kb'.lt
            simp only [List.getElem?_toArray, List.getElem?_cons_succ, List.getElem?_cons_zero] at j0 j1
            obtain ⟨p1, p2⟩ := HF1.out.put r2 (by unfold labF; omega) (j := 5) (by omega) (d' := ({ c.fn f with ups := (c.fn f).ups ++ [(1, k)] }, { l with up := ⟨some ⟨g', 0, none⟩, cap'⟩ })) (u := .slice (some ⟨g', 0, none⟩) (m + 1) cap') (by simp [fnV, HM.out])
            have s2 : Stp (fun z => z = 1051 ∨ z = labF f 1) wr o _ (upd o g' (labF f 1)) := (r2.weaken (fun z h => .inr h)).trans (p2.weaken (fun z h => .inl h))
            have sF : Stp (QF1 f) wr o _ (upd o g' (labF f 1)) := s2.weaken (fun z h => h.imp_right (fun h => ⟨1, h⟩))
            have R1 := HRW.out.st HSJ.out (fun h => h) (fun h => h) (fun _ _ h => h)
            have R2 : CRep _ (upd o g' (labF f 1)) C N (c.upd f fun x => { x with ups := x.ups ++ [(1, k)] }) := HF1.out.set (u := fun x => { x with ups := x.ups ++ [(1, k)] }) R1 HNP.out sF p1 (HF1.out.one.ups s2 (by
              have := r1.st p2 (by unfold labF; omega)
              rw [List.length_append, List.flatMap_append, HM.out]
              exact this)) HF1.out.ok
            have hself : ((c.upd f fun x => { x with ups := x.ups ++ [(1, k)] }).fn f).ups.length = m + 1 := by
              rw [fn_upd c (by have := HRW.out.len; have := HRW.out.np; have := HNP.out; omega), if_pos rfl]
              simp [HM.out]
            have FIN : Hid (∃ o', CRep (w2.setCell ⟨C.gF, f * 11 + 5, none⟩ (.slice (some ⟨g', 0, none⟩) (m + 1) cap')) o' C N (c.upd f fun x => { x with ups := x.ups ++ [(1, k)] }) ∧ Stp QC w o (w2.setCell ⟨C.gF, f * 11 + 5, none⟩ (.slice (some ⟨g', 0, none⟩) (m + 1) cap')) o') := ⟨_, R2, (HSW.out.trans (HSJ.out.weaken (fun _ h => h.elim))).trans (sF.weaken (fun _ h => h.qc))⟩
            clear q1 q2 q3 q4 hne kb' r1 r2 hb2 p1 p2 s2 sF R1 R2 hself
            simp only [List.take_succ_cons, List.take_zero]
            repeat go_big_quiet_step (fail)
            refine wpQuiet_nil ⟨rfl, rfl, by simp, rfl, ?_⟩
            go_wp2_with fail
            go_ret
            rw [HE.out]
            exact ⟨rfl, FIN.out⟩
      | none =>
        rw [hsl] at hslot
        have hslot2 : Calls Tryz.prog 273 #[.pointer (some ⟨C.gF, g * 11, none⟩), sv s] (w.alloc (.cells #[.int .u8 1, .int .u8 0] 135)) fun e w' => e = .returned (.int .i64 (-1)) ∧ w' = w.alloc (.cells #[.int .u8 1, .int .u8 0] 135) := hslot
        have sL : Stp (fun _ => False) w o (w.alloc (.cells #[.int .u8 1, .int .u8 0] 135)) (upd o w.heap.size 1) := Stp.label _ _ _
        have RL := R.st sL (fun h => h) (fun h => h) (fun _ _ h => h)
        have hr' : r.length < n := by simpa using hr
        have IHc := ih r g Lg _ _ c IG hr' RL hgn
        unfold fptr at IHc
        have P := up_ok hs n c (g, Lg) r IG hr'
        have hout : ∀ e ∈ (g, Lg) :: r, e.1 ≠ f := fun e he => by have := I.1.2.2.2 e he; omega
        have HU0 : Hid (upN c s (n + 1) f = match upN c s n g with
          | (c1, some k) => upEnd c1 f (0, k % 256)
          | (c1, none) => (c1, none)) := by
          show _ = _
          conv => lhs; unfold upN
          rw [hpar]
          simp only [List.head?_cons, Option.map_some, hloc, hsl]
          generalize upN c s n g = U
          obtain ⟨c1, oo⟩ := U
          cases oo <;> rfl
        have hul := I.ups144
        simp only at hul
        have HNP0 : Hid (f < c.np) := hf
        have HSL : Hid (Stp (fun _ => False) w o (w.alloc (.cells #[.int .u8 1, .int .u8 0] 135)) (upd o w.heap.size 1)) := sL
        have HBN : Hid (Has (w.alloc (.cells #[.int .u8 1, .int .u8 0] 135)) w.heap.size #[.int .u8 1, .int .u8 0] 135) := Has.new _ _ _
        clear HB1 HS1 hslot R1 RL sL
        cases hU : upN c s n g with
        | mk c2 oo =>
        rw [hU] at P IHc HU0
        have hfu : (c2.fn f).ups = (c.fn f).ups := by rw [P.gr.out f hout]
        have hnp2 : c2.np = c.np := P.gr.np
        cases oo with
        | none =>
          have HU : Hid (upN c s (n + 1) f = (c2, none)) := HU0.out
          rw [HU.out]
          clear F R I hpar ih IG hloc hsl hgf hr hgn hf P HU0 hU hout hfu hnp2
          unfold fptr
          go_enter Tryz.func274, Tryz.ntmps274
          go_wp2_with first
            | (go_at_call 273; refine hslot2.mono ?_; rintro e w1 ⟨rfl, rfl⟩)
            | (go_at_call 274; refine IHc.mono ?_; rintro e w2 ⟨rfl, o2, R2, S2⟩)
          go_ret
          exact ⟨rfl, o2, R2, (HSL.out.weaken (fun _ h => h.elim)).trans S2⟩
        | some k =>
          simp only [slotI] at IHc
          have hk1 := P.lt k rfl (g, Lg) rfl
          have hk2 := P.iv.ups144
          simp only at hk1 hk2
          have HU : Hid (upN c s (n + 1) f = upEnd c2 f (0, k)) := by
            show _ = _
            rw [HU0.out]
            simp only
            rw [Nat.mod_eq_of_lt (by omega)]
          rw [HU.out]
          have HNP : Hid (f < c2.np) := by show _ < _; rw [hnp2]; exact hf
          obtain ⟨m, HM⟩ : ∃ m : Nat, Hid ((c2.fn f).ups.length = m) := ⟨_, rfl⟩
          rw [← hfu, HM.out] at hul
          clear F R I hpar ih IG hloc hsl hgf hr hgn hf P HU0 hU hout hfu hnp2
          unfold fptr
          go_enter Tryz.func274, Tryz.ntmps274
          go_wp2_with first
            | (go_at_call 273; refine hslot2.mono ?_; rintro e w1 ⟨rfl, rfl⟩)
            | (go_at_call 274; refine IHc.mono ?_; rintro e w2 ⟨rfl, o2, R2, S2⟩; obtain ⟨xs2, l2, F2⟩ := R2.fn HNP.out; have c52 := F2.cell 5 (by omega); have hlt2 := F2.lt; simp only [fnV, List.getElem?_cons_succ, List.getElem?_cons_zero, Sl.v, HM.out] at c52; have bN := S2.has HBN.out (by rw [upd_self]; unfold QC; omega); have n0 := bN.cell 0; have n1 := bN.cell 1; have nz0 := bN.frozen 0; have nz1 := bN.frozen 1; have nl := bN.lt; simp only [List.getElem?_toArray, List.getElem?_cons_succ, List.getElem?_cons_zero] at n0 n1; have hO2 : o2 w.heap.size = 1 := (S2.ext _ HBN.out.lt).trans (upd_self _ _ _); have hgB : C.gF ≠ w.heap.size := by omega)
          have bW := (bN.put 0 (.int .u8 0)).put 1 (.int .u8 (k : Nat))
          have sW : Stp (fun z => z = 1) w2 o2 ((w2.setCell ⟨w.heap.size, 0, none⟩ (.int .u8 0)).setCell ⟨w.heap.size, 1, none⟩ (.int .u8 (k : Nat))) o2 := ((Stp.refl _ _ _).setCell (p := ⟨w.heap.size, 0, none⟩) hO2 _).setCell (p := ⟨w.heap.size, 1, none⟩) hO2 _
          have HRW : Hid (CRep ((w2.setCell ⟨w.heap.size, 0, none⟩ (.int .u8 0)).setCell ⟨w.heap.size, 1, none⟩ (.int .u8 (k : Nat))) o2 C N c2) := R2.st sW (by omega) (by omega) (fun z h => by unfold QC at h; omega)
          have HFW : Hid (FnAt ((w2.setCell ⟨w.heap.size, 0, none⟩ (.int .u8 0)).setCell ⟨w.heap.size, 1, none⟩ (.int .u8 (k : Nat))) o2 C c2 f xs2 l2) := F2.st sW (by omega) (fun z h => by unfold QC at h; omega)
          have HBW : Hid (Has ((w2.setCell ⟨w.heap.size, 0, none⟩ (.int .u8 0)).setCell ⟨w.heap.size, 1, none⟩ (.int .u8 (k : Nat))) w.heap.size #[.int .u8 0, .int .u8 (k : Nat)] 135) := bW
          have HSW : Hid (Stp QC w o ((w2.setCell ⟨w.heap.size, 0, none⟩ (.int .u8 0)).setCell ⟨w.heap.size, 1, none⟩ (.int .u8 (k : Nat))) o2) := ((((HSL.out.weaken (fun _ h => h.elim)).trans S2).own (p := ⟨w.heap.size, 0, none⟩) (Nat.le_refl _) _).own (p := ⟨w.heap.size, 1, none⟩) (Nat.le_refl _) _)
          have HOB : Hid (o2 w.heap.size < 1050) := by show _ < _; rw [hO2]; omega
          clear bW sW F2 R2 S2 bN n0 n1 nz0 nz1 hO2
          generalize ((w2.setCell ⟨w.heap.size, 0, none⟩ (.int .u8 0)).setCell ⟨w.heap.size, 1, none⟩ (.int .u8 (k : Nat))) = W at *
          have HS0 : Hid (UvI W o2 (c2.fn f).ups (0, k) m (.int .i64 0) W) := ⟨0, by have := HM.out; omega, rfl, Stp.refl _ _ _, fun i hi => by omega⟩
          go_loopg [40] m (fun g v40 w1 => Hid (UvI W o2 (c2.fn f).ups (0, k) g v40 w1))
          case atStart => exact HS0
          case round =>
            obtain ⟨j, hj, rfl, hS, hno⟩ := hrel.out
            have HNO : Hid (∀ i, i < j → (c2.fn f).ups[i]? ≠ some (0, k)) := hno
            have HSJ : Hid (Stp (fun _ => False) W o2 wr o2) := hS
            rw [HM.out] at hj
            have b1 := hS.has HBW.out (fun h => h)
            have e0 := b1.cell 0
            have e1 := b1.cell 1
            have el := b1.lt
            simp only [List.getElem?_toArray, List.getElem?_cons_succ, List.getElem?_cons_zero] at e0 e1
            have F1 := HFW.out.st hS (fun h => h) (fun _ _ h => h)
            have HF1 : Hid (FnAt wr o2 C c2 f xs2 l2) := F1
            have HB1 : Hid (Has wr w.heap.size #[.int .u8 0, .int .u8 (k : Nat)] 135) := b1
            clear hS hno hrel HS0 b1
            by_cases hjl : j < m
            · obtain ⟨g1, a1, a2, a3, a4, a5, a6⟩ := F1.one.up.cells (by show 0 < (c2.fn f).ups.length; rw [HM.out]; omega)
              obtain ⟨⟨p, q⟩, hdj⟩ : ∃ dj, (c2.fn f).ups[j]? = some dj := ⟨_, List.getElem?_eq_getElem (by rw [HM.out]; exact hjl)⟩
              have k0 : wr.cell? ⟨g1, j * 2, none⟩ = some (.int .u8 (p : Nat)) := by
                rw [a5 _ (by show _ < (c2.fn f).ups.length * 2; rw [HM.out]; omega)]
                have := flatMap_at dCells 2 dCells_len (c2.fn f).ups j 0 (p, q) hdj (by omega)
                simpa [dCells] using this
              have k1 : wr.cell? ⟨g1, j * 2 + 1, none⟩ = some (.int .u8 (q : Nat)) := by
                rw [a5 _ (by show _ < (c2.fn f).ups.length * 2; rw [HM.out]; omega)]
                have := flatMap_at dCells 2 dCells_len (c2.fn f).ups j 1 (p, q) hdj (by omega)
                simpa [dCells] using this
              have HDJ : Hid ((c2.fn f).ups[j]? = some (p, q)) := hdj
              have HA : Hid (l2.up.a = some ⟨g1, 0, none⟩) := a1
              have t1 : decide (j < m) = true := decide_eq_true hjl
              clear a3 a5 a6 hdj F1
              by_cases hd : (p, q) = (0, k)
              · have HE : Hid (upEnd c2 f (0, k) = (c2, some j)) := by
                  show _ = _
                  unfold upEnd
                  rw [ups_found (by rw [HDJ.out, hd]) HNO.out]
                injection hd with hd1 hd2
                have hq : ∀ W, (Op.equalIn 10000 135 (.agg #[.int .u8 (p : Nat), .int .u8 (q : Nat)]) (.agg #[.int .u8 0, .int .u8 (k : Nat)])).run Tryz.prog W = .ok true W := fun W => by
                  rw [eqD, hd1, hd2]
                  simp
                clear hd1 hd2
                go_wp2_with fail
                go_ret
                rw [HE.out]
                have sR : Stp (fun _ => False) W o2 (wr.alloc (.cells #[.int .u8 (p : Nat), .int .u8 (q : Nat)] 135)) o2 := HSJ.out.alloc _
                exact ⟨rfl, o2, HRW.out.st sR (fun h => h) (fun h => h) (fun _ _ h => h), HSW.out.trans (sR.weaken (fun _ h => h.elim))⟩
              · have hq : ∀ W, (Op.equalIn 10000 135 (.agg #[.int .u8 (p : Nat), .int .u8 (q : Nat)]) (.agg #[.int .u8 0, .int .u8 (k : Nat)])).run Tryz.prog W = .ok false W := fun W => by
                  rw [eqD]
                  congr 1
                  by_cases h1 : (p : Int) = 0
                  · have h2 : ¬ ((q : Int) = k) := fun h2 => hd (by congr 1 <;> omega)
                    simp [h2]
                  · have h3 : ((p : Int) == 0) = false := beq_eq_false_iff_ne.2 h1
                    rw [h3]
                    rfl
                have HDN : Hid ((c2.fn f).ups[j]? ≠ some (0, k)) := by
                  show _ ≠ _
                  rw [HDJ.out]
                  simpa using hd
                clear hd
                go_wp2_with fail
                have HSN : Hid (Stp (fun _ => False) W o2 (wr.alloc (.cells #[.int .u8 (p : Nat), .int .u8 (q : Nat)] 135)) o2) := HSJ.out.alloc _
                rw [← HA.out]
                obtain ⟨g', HG'⟩ : ∃ g', Hid (gk = g' + 1) := ⟨gk - 1, by show gk = _; omega⟩
                clear hq
                go_roundg g'
                case measure => have := HG'.out; omega
                case rel =>
                  have hg' := HG'.out
                  refine ⟨j + 1, by rw [HM.out]; omega, by simp, HSN.out, fun i hi => ?_⟩
                  by_cases hij : i = j
                  · rw [hij]; exact HDN.out
                  · exact HNO.out i (by omega)
            · have t1 : decide (j < m) = false := decide_eq_false hjl
              have HE : Hid (upEnd c2 f (0, k) = (c2.upd f fun x => { x with ups := x.ups ++ [(0, k)] }, some m)) := by
                show _ = _
                unfold upEnd
                rw [ups_none (fun i hi => HNO.out i (by rw [HM.out] at hi; omega)), HM.out]
              have c5' := F1.cell 5 (by omega)
              have hlt' := F1.lt
              simp only [fnV, List.getElem?_cons_succ, List.getElem?_cons_zero, Sl.v, HM.out] at c5'
              have hrow := F1.one.up.own
              clear F1
              have hne : ∀ y, (l2.up.v m).ownBlock = some y → o2 y = labF f 1 := fun y hy => HF1.out.one.up.lb y (by rw [ownBlock_any _ _ _ m l2.up.c]; exact hy)
              have HROW : Hid (wr.ownsRow 0 135 2 (l2.up.v m) m ((c2.fn f).ups.flatMap dCells)) := by
                rw [HM.out] at hrow
                exact hrow
              clear hrow
              go_wp2_with fail
              refine wp_region_app rowUps 6 (by kernel_rfl) (by kernel_rfl) (fun _ _ _ _ _ h => h) _ _ _ rfl (.tmp 55) (.tmp 54) 56 57 rfl rfl rfl rfl rfl rfl (l2.up.v m) m _ HROW.out (.agg #[.int .u8 0, .int .u8 (k : Nat)]) rfl (by decide) (by simp [Value.cells, Value.oneCell']) (by omega) ?_
              intro g' cap' w2 q1 q2 q3 q4
              have kb' : Has w2 w.heap.size #[.int .u8 0, .int .u8 (k : Nat)] 135 := (HB1.out.alloc _).fr q2 (fun hk => by have h8 := hne _ hk; have h9 := HOB.out; rw [h8] at h9; unfold labF at h9; omega)
              obtain ⟨r1, r2⟩ := HF1.out.one.up.app (w1 := wr.alloc (.cells #[.int .u8 0, .int .u8 (k : Nat)] 135)) ((Fr.refl _ _).alloc _) q1 (by rw [HM.out]; exact q2) (by rw [HM.out]; exact q3.imp_right (fun h => by omega)) q4
              have hb2 := HF1.out.rep.here.st r2 (by unfold labF; omega)
              have j0 := kb'.cell 0
              have j1 := kb'.cell 1
              have d5 : w2.cell? ⟨C.gF, f * 11 + 5, none⟩ = some (.slice l2.up.a m l2.up.c) := by
                rw [r2.cellQ hlt' (by rw [HF1.out.rep.here.lb]; unfold labF; omega)]
                exact c5'
              have d3 := hb2.has.frozen (f * 11 + 5)
              have k3 := hb2.has.lt
              have kb2 := kb'.lt
              simp only [List.getElem?_toArray, List.getElem?_cons_succ, List.getElem?_cons_zero] at j0 j1
              obtain ⟨p1, p2⟩ := HF1.out.put r2 (by unfold labF; omega) (j := 5) (by omega) (d' := ({ c2.fn f with ups := (c2.fn f).ups ++ [(0, k)] }, { l2 with up := ⟨some ⟨g', 0, none⟩, cap'⟩ })) (u := .slice (some ⟨g', 0, none⟩) (m + 1) cap') (by simp [fnV, HM.out])
              have s2 : Stp (fun z => z = 1051 ∨ z = labF f 1) wr o2 _ (upd o2 g' (labF f 1)) := (r2.weaken (fun z h => .inr h)).trans (p2.weaken (fun z h => .inl h))
              have sF : Stp (QF1 f) wr o2 _ (upd o2 g' (labF f 1)) := s2.weaken (fun z h => h.imp_right (fun h => ⟨1, h⟩))
              have R1 := HRW.out.st HSJ.out (fun h => h) (fun h => h) (fun _ _ h => h)
              have R2 : CRep _ (upd o2 g' (labF f 1)) C N (c2.upd f fun x => { x with ups := x.ups ++ [(0, k)] }) := HF1.out.set (u := fun x => { x with ups := x.ups ++ [(0, k)] }) R1 HNP.out sF p1 (HF1.out.one.ups s2 (by
                have := r1.st p2 (by unfold labF; omega)
                rw [List.length_append, List.flatMap_append, HM.out]
                exact this)) HF1.out.ok
              have hself : ((c2.upd f fun x => { x with ups := x.ups ++ [(0, k)] }).fn f).ups.length = m + 1 := by
                rw [fn_upd c2 (by have := HRW.out.len; have := HRW.out.np; have := HNP.out; omega), if_pos rfl]
                simp [HM.out]
              have FIN : Hid (∃ o', CRep (w2.setCell ⟨C.gF, f * 11 + 5, none⟩ (.slice (some ⟨g', 0, none⟩) (m + 1) cap')) o' C N (c2.upd f fun x => { x with ups := x.ups ++ [(0, k)] }) ∧ Stp QC w o (w2.setCell ⟨C.gF, f * 11 + 5, none⟩ (.slice (some ⟨g', 0, none⟩) (m + 1) cap')) o') := ⟨_, R2, (HSW.out.trans (HSJ.out.weaken (fun _ h => h.elim))).trans (sF.weaken (fun _ h => h.qc))⟩
              clear q1 q2 q3 q4 hne kb' r1 r2 hb2 p1 p2 s2 sF R1 R2 hself
              simp only [List.take_succ_cons, List.take_zero]
              repeat go_big_quiet_step (fail)
              refine wpQuiet_nil ⟨rfl, rfl, by simp, rfl, ?_⟩
              go_wp2_with fail
              go_ret
              rw [HE.out]
              exact ⟨rfl, FIN.out⟩
end
end Go.Proofs.Qxb6500574aGreatDoor
