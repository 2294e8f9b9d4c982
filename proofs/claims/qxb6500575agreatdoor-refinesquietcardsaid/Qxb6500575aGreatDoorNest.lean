import Derived.Test.Qxb6500575aGreatDoorMod2
import Derived.Test.Qxb6500575aGreatDoorWell
namespace Go.Proofs.Qxb6500575aGreatDoor
open Go Go.RowKit
set_option linter.unusedVariables false
set_option linter.unusedSimpArgs false

/-- modm.nest: open: the ops of the open blocks, the innermost first -/
def nestR : List Ins → List Int → Int
  | [], _ => 3
  | c :: cs, opn =>
    if ¬ well c = true then 3
    else if c.op = 1 ∨ c.op = 2 ∨ c.op = 3 then (if 4 ≤ opn.length then 4 else nestR cs (c.op :: opn))
    else if c.op = 4 then (match opn with | [] => 3 | o :: r => if o = 3 then nestR cs (4 :: r) else 3)
    else if c.op = 5 then (match opn with | [] => (if cs = [] then 0 else 3) | _ :: r => nestR cs r)
    else nestR cs opn

def nestE (cs : List Ins) (opn : List Int) : Int := match opn with | [] => 3 | o :: r => if o = 3 then nestR cs (4 :: r) else 3
def nestX (cs : List Ins) (opn : List Int) : Int := match opn with | [] => (if cs = [] then 0 else 3) | _ :: r => nestR cs r
theorem nestR_cons (cop cimm : Int) (ctab : List UInt8) (cs : List Ins) (opn : List Int) (h : well ⟨cop, cimm, ctab⟩ = true) :
    nestR (⟨cop, cimm, ctab⟩ :: cs) opn = (if cop = 1 ∨ cop = 2 ∨ cop = 3 then (if 4 ≤ opn.length then 4 else nestR cs (cop :: opn)) else if cop = 4 then nestE cs opn else if cop = 5 then nestX cs opn else nestR cs opn) := by
  conv => lhs; unfold nestR
  rw [if_neg (by rw [h]; decide)]
  rfl
theorem ownBlock_any2 (a : Option Addr) (n c n' c' : Nat) : (Value.slice a n c).ownBlock = (Value.slice a n' c').ownBlock := by cases a <;> rfl
theorem owns_has2 {w : World} {e : TypeId} {size g n cap : Nat} {xs : List Value} (h : w.ownsRow 0 e size (.slice (some ⟨g, 0, none⟩) n cap) n xs) : ∃ cur, Has w g cur e ∧ True := by
  rcases h.2 with ⟨h1, _⟩ | ⟨g', cap', cur, hv, _, hgg, _⟩
  · cases h1
  · simp at hv
    obtain ⟨rfl, rfl⟩ := hv
    exact ⟨cur, hgg, trivial⟩
structure NestS (w : World) (code : List Ins) (wr : World) (u : Value) (opn : List Int) (i : Nat) : Prop where
  row : wr.ownsRow 0 3 1 u opn.length (intCells opn.reverse)
  fr : Fr (fun _ => False) w wr
  new : ∀ g, u.ownBlock = some g → w.heap.size ≤ g
  res : nestR code [] = nestR (code.drop i) opn

set_option maxRecDepth 100000 in
set_option maxHeartbeats 4000000 in
theorem nest_any (code : List Ins) (v : Value) (w : World) (hv : w.ownsRow 0 67 3 v code.length (insCells code)) (hl : code.length ≤ 1000) :
    Calls Tryz.prog 49 #[v] w fun e w' => e = .returned (.int .i64 (nestR code [])) ∧ Fr (fun _ => False) w w' := by
  obtain ⟨va, vc, rfl⟩ : ∃ va vc, v = .slice va code.length vc := by
    rcases hv.2 with ⟨h1, h2⟩ | ⟨g, cap, cur, h1, _⟩
    · exact ⟨none, 0, by rw [h1, h2]⟩
    · exact ⟨_, _, h1⟩
  obtain ⟨res, hres⟩ : ∃ res, res = nestR code [] := ⟨_, rfl⟩
  rw [← hres]
  have HRES : Hid (res = nestR code []) := hres
  have HV : Hid (w.ownsRow 0 67 3 (.slice va code.length vc) code.length (insCells code)) := hv
  clear hres hv
  go_enter Tryz.func49, Tryz.ntmps49
  go_wp2
  go_loopw [4, 3] (fun t u wr => ∃ (i : Nat) (opn : List Int) (a : Option Addr) (cap : Nat), i ≤ code.length ∧ t = .int .i64 i ∧ u = .slice a opn.length cap ∧ opn.length ≤ 4 ∧ Hid (NestS w code wr (.slice a opn.length cap) opn i)) (fun t _ _ => code.length - (intOf t).toNat)
  case atStart =>
    exact ⟨0, [], some ⟨w.heap.size, 0, none⟩, 0, Nat.zero_le _, rfl, rfl, by simp, { row := ⟨rfl, .inr ⟨w.heap.size, 0, #[], rfl, Nat.zero_le _, Has.new _ _ _, Nat.le_refl _, by decide, rfl, rfl⟩⟩, fr := (Fr.refl _ _).alloc _, new := fun g hg => by simp [Value.ownBlock] at hg; omega, res := rfl }⟩
  case round =>
    obtain ⟨i, opn, a, cap, hi, rfl, rfl, ho4, G1⟩ := hrel
    by_cases hlt : i < code.length
    · obtain ⟨c, hc⟩ : ∃ c, code[i]? = some c := ⟨_, List.getElem?_eq_getElem hlt⟩
      have hrow := owns_fr HV.out G1.out.fr (fun _ _ h => h)
      obtain ⟨gc, hgc, hcc⟩ := owns_some hrow (by omega)
      subst hgc
      have q0 := hcc (i * 3 + 0) (by omega)
      have q1 := hcc (i * 3 + 1) (by omega)
      have q2 := hcc (i * 3 + 2) (by omega)
      rw [insCells_at _ _ _ c hc (by omega)] at q0 q1 q2
      simp [Ins.cells] at q0 q1 q2
      have hgl := owns_lt hrow gc rfl
      have hdrop : code.drop i = c :: code.drop (i + 1) := by rw [List.drop_eq_getElem_cons hlt, (List.getElem?_eq_some_iff.1 hc).2]
      have hR := G1.out.res
      rw [hdrop] at hR
      have HR : Hid (nestR code [] = nestR (c :: code.drop (i + 1)) opn) := hR
      have HW : Hid (∀ X, _) := well_any c
      have hl0 : (code.drop (i + 1) = []) ↔ i + 1 = code.length := by rw [List.drop_eq_nil_iff]; omega
      clear hrow hcc hR hdrop hc
      obtain ⟨cop, cimm, ctab⟩ := c
      simp only at HR HW q0 q1 q2
      go_wp2_with fail
      refine (HW.out _).mono ?_
      rintro e w1 ⟨rfl, hf1⟩
      have hC : Has w1 wr.heap.size #[.int .i64 cop, .int .i64 cimm, sv ctab] 67 := (Has.new wr _ _).fr hf1 id
      have k0 := hC.cell 0
      simp at k0
      have kl := hC.lt
      have G2 : NestS w code w1 (.slice a opn.length cap) opn i :=
        { G1.out with row := owns_fr (owns_alloc G1.out.row _) hf1 (fun _ _ h => h), fr := (G1.out.fr.alloc _).trans hf1 (fun _ _ h => h) }
      have HG2 : Hid (NestS w code w1 (.slice a opn.length cap) opn i) := G2
      have HC : Hid (Has w1 wr.heap.size #[.int .i64 cop, .int .i64 cimm, sv ctab] 67) := hC
      clear hf1 hC G2 G1 HW q0 q1 q2 hgl
      generalize wr.heap.size = bc at *
      cases hwl : well ⟨cop, cimm, ctab⟩ with
      | false =>
        have hr3 : res = 3 := by rw [HRES.out, HR.out]; unfold nestR; rw [if_pos (by rw [hwl]; decide)]
        have FF : Hid (Fr _ w w1) := HG2.out.fr
        clear HG2 HRES HR HC
        go_wp2
        go_ret
        rw [hr3]
        exact ⟨rfl, FF.out⟩
      | true =>
        have hR2 := HR.out
        rw [nestR_cons _ _ _ _ _ hwl] at hR2
        have HR2 : Hid (nestR code [] = _) := hR2
        clear hR2 HR hwl
        by_cases hin : cop = 1 ∨ cop = 2 ∨ cop = 3
        · have hR3 := HR2.out
          rw [if_pos hin] at hR3
          have HR3 : Hid (nestR code [] = _) := hR3
          clear hR3 HR2
          by_cases hd : 4 ≤ opn.length
          · have hr4 : res = 4 := by rw [HRES.out, HR3.out, if_pos hd]
            have FF : Hid (Fr _ w w1) := HG2.out.fr
            clear HR3 HRES HG2
            rcases hin with rfl | rfl | rfl <;>
            · go_wp2
              go_ret
              rw [hr4]
              exact ⟨rfl, FF.out⟩
          · have hR4 := HR3.out
            rw [if_neg hd] at hR4
            have HR4 : Hid (nestR code [] = _) := hR4
            have hrow := HG2.out.row
            clear hR4 HR3
            rcases hin with rfl | rfl | rfl
            · go_wp2_with (at_builtin; go_must (refine wpList_app rowInt _ rfl (.tmp 29) (.tmp 32) rfl _ _ _ rfl (owns_alloc hrow _) _ [.int .i64 1] rfl (Has.new _ _ _) rfl ?one ?bd ?go))
              case one => simp [Value.oneCell']
              case bd => omega
              case go =>
                intro g cap2 w2 q1 q2 q3 q4
                have NX : Hid (NestS w code w2 (.slice (some ⟨g, 0, none⟩) (opn.length + 1) cap2) (1 :: opn) (i + 1)) :=
                  { row := by simpa [intCells] using q1
                    fr := (HG2.out.fr.alloc _).trans q2 (fun j hj hk => by have := HG2.out.new j hk; omega)
                    new := fun k hk => by
                      simp [Value.ownBlock] at hk
                      subst hk
                      rcases q3 with q3 | q3
                      · exact HG2.out.new _ q3
                      · have := HG2.out.fr.size; omega
                    res := HR4.out }
                clear q1 q2 q3 q4 hrow HG2 HR4 HRES HC
                go_wp2
                go_roundw
                case rel => exact ⟨i + 1, 1 :: opn, _, cap2, by omega, by go_num, rfl, by simp; omega, NX⟩
                case measure => simp [intOf]; omega
            · go_wp2_with (at_builtin; go_must (refine wpList_app rowInt _ rfl (.tmp 29) (.tmp 32) rfl _ _ _ rfl (owns_alloc hrow _) _ [.int .i64 2] rfl (Has.new _ _ _) rfl ?one ?bd ?go))
              case one => simp [Value.oneCell']
              case bd => omega
              case go =>
                intro g cap2 w2 q1 q2 q3 q4
                have NX : Hid (NestS w code w2 (.slice (some ⟨g, 0, none⟩) (opn.length + 1) cap2) (2 :: opn) (i + 1)) :=
                  { row := by simpa [intCells] using q1
                    fr := (HG2.out.fr.alloc _).trans q2 (fun j hj hk => by have := HG2.out.new j hk; omega)
                    new := fun k hk => by
                      simp [Value.ownBlock] at hk
                      subst hk
                      rcases q3 with q3 | q3
                      · exact HG2.out.new _ q3
                      · have := HG2.out.fr.size; omega
                    res := HR4.out }
                clear q1 q2 q3 q4 hrow HG2 HR4 HRES HC
                go_wp2
                go_roundw
                case rel => exact ⟨i + 1, 2 :: opn, _, cap2, by omega, by go_num, rfl, by simp; omega, NX⟩
                case measure => simp [intOf]; omega
            · go_wp2_with (at_builtin; go_must (refine wpList_app rowInt _ rfl (.tmp 29) (.tmp 32) rfl _ _ _ rfl (owns_alloc hrow _) _ [.int .i64 3] rfl (Has.new _ _ _) rfl ?one ?bd ?go))
              case one => simp [Value.oneCell']
              case bd => omega
              case go =>
                intro g cap2 w2 q1 q2 q3 q4
                have NX : Hid (NestS w code w2 (.slice (some ⟨g, 0, none⟩) (opn.length + 1) cap2) (3 :: opn) (i + 1)) :=
                  { row := by simpa [intCells] using q1
                    fr := (HG2.out.fr.alloc _).trans q2 (fun j hj hk => by have := HG2.out.new j hk; omega)
                    new := fun k hk => by
                      simp [Value.ownBlock] at hk
                      subst hk
                      rcases q3 with q3 | q3
                      · exact HG2.out.new _ q3
                      · have := HG2.out.fr.size; omega
                    res := HR4.out }
                clear q1 q2 q3 q4 hrow HG2 HR4 HRES HC
                go_wp2
                go_roundw
                case rel => exact ⟨i + 1, 3 :: opn, _, cap2, by omega, by go_num, rfl, by simp; omega, NX⟩
                case measure => simp [intOf]; omega
        · by_cases h4 : cop = 4
          · have hR3 := HR2.out
            rw [if_neg hin, if_pos h4] at hR3
            subst h4
            have HR3 : Hid (nestR code [] = _) := hR3
            clear hR3 HR2 hin
            cases opn with
            | nil =>
              have hr : res = 3 := by rw [HRES.out, HR3.out]; rfl
              have FF : Hid (Fr _ w w1) := HG2.out.fr
              clear HR3 HRES HG2
              simp only [List.length_nil]
              go_wp2
              go_ret
              rw [hr]
              exact ⟨rfl, FF.out⟩
            | cons o r =>
              simp only [List.length_cons] at ho4 ⊢
              have hrow := HG2.out.row
              simp only [List.length_cons] at hrow
              obtain ⟨go, hgo, hcc⟩ := owns_some hrow (by omega)
              subst hgo
              obtain ⟨cur, hcur, _⟩ := owns_has2 hrow
              have z := hcc r.length (by omega)
              have hz0 : (intCells (o :: r).reverse)[r.length]? = some (.int .i64 o) := by simp [intCells]
              rw [hz0] at z
              have zf := hcur.frozen r.length
              have zl := hcur.lt
              by_cases h3 : o = 3
              · subst h3
                have NX : Hid (NestS w code (w1.setCell ⟨go, r.length, none⟩ (.int .i64 4)) (.slice (some ⟨go, 0, none⟩) (r.length + 1) cap) (4 :: r) (i + 1)) :=
                  { row := by
                      have := (hrow.stored r.length (.int .i64 4)).1
                      have e1 : (intCells (3 :: r).reverse).set r.length (.int .i64 4) = intCells (4 :: r).reverse := by simp [intCells]
                      rw [e1] at this
                      simpa using this
                    fr := by
                      have hnew := HG2.out.new go (by rfl)
                      exact HG2.out.fr.setCell (p := ⟨go, r.length, none⟩) (.inr hnew) _
                    new := fun k hk => HG2.out.new k hk
                    res := HR3.out }
                clear hrow hcc hcur hz0 HG2 HR3 HRES HC
                go_wp2
                go_roundw
                case rel => exact ⟨i + 1, 4 :: r, _, cap, by omega, by go_num, rfl, by simp; omega, NX⟩
                case measure => simp [intOf]; omega
              · have hr : res = 3 := by rw [HRES.out, HR3.out]; simp only [nestE]; rw [if_neg h3]
                have b3 : (o != 3) = true := by rw [bne_iff_ne]; exact h3
                have FF : Hid (Fr _ w w1) := HG2.out.fr
                clear hrow hcc hcur hz0 HR3 HRES HG2
                go_wp2
                go_ret
                rw [hr]
                exact ⟨rfl, FF.out⟩
          · by_cases h5 : cop = 5
            · have hR3 := HR2.out
              rw [if_neg hin, if_neg h4, if_pos h5] at hR3
              subst h5
              have HR3 : Hid (nestR code [] = _) := hR3
              clear hR3 HR2 hin h4
              cases opn with
              | nil =>
                have FF : Hid (Fr _ w w1) := HG2.out.fr
                simp only [List.length_nil]
                by_cases hlast : i + 1 = code.length
                · have hr : res = 0 := by rw [HRES.out, HR3.out]; simp only [nestX]; rw [if_pos (hl0.2 hlast)]
                  have hb : ((i : Int) == (code.length : Int) - 1) = true := by rw [beq_iff_eq]; omega
                  clear HR3 HRES HG2 hl0
                  go_wp2
                  go_ret
                  rw [hr]
                  exact ⟨rfl, FF.out⟩
                · have hr : res = 3 := by rw [HRES.out, HR3.out]; simp only [nestX]; rw [if_neg (fun h => hlast (hl0.1 h))]
                  have hb : ((i : Int) == (code.length : Int) - 1) = false := by rw [beq_eq_false_iff_ne]; omega
                  clear HR3 HRES HG2 hl0
                  go_wp2
                  go_ret
                  rw [hr]
                  exact ⟨rfl, FF.out⟩
              | cons o r =>
                simp only [List.length_cons] at ho4 ⊢
                have hrow := HG2.out.row
                simp only [List.length_cons] at hrow
                have hoc : r.length + 1 ≤ cap := by
                  rcases owns_form hrow with ⟨_, n1, _⟩ | ⟨_, _, n1⟩ <;> omega
                have NX : Hid (NestS w code w1 (.slice a r.length cap) r (i + 1)) :=
                  { row := by
                      have := owns_take hrow r.length (by omega)
                      have e1 : (intCells (o :: r).reverse).take (r.length * 1) = intCells r.reverse := by simp [intCells]
                      rw [e1] at this
                      exact this
                    fr := HG2.out.fr
                    new := fun k hk => HG2.out.new k (by rw [ownBlock_any2 _ _ _ r.length cap]; exact hk)
                    res := HR3.out }
                obtain ⟨go, hgo, _⟩ := owns_some hrow (by omega)
                subst hgo
                clear hrow HG2 HR3 HRES HC
                go_wp2
                go_roundw
                case rel => exact ⟨i + 1, r, _, cap, by omega, by go_num, rfl, by omega, NX⟩
                case measure => simp [intOf]; omega
            · have b1 : (cop == 1) = false := beq_eq_false_iff_ne.2 (by omega)
              have b2 : (cop == 2) = false := beq_eq_false_iff_ne.2 (by omega)
              have b3 : (cop == 3) = false := beq_eq_false_iff_ne.2 (by omega)
              have b4 : (cop == 4) = false := beq_eq_false_iff_ne.2 h4
              have b5 : (cop == 5) = false := beq_eq_false_iff_ne.2 h5
              have hR3 := HR2.out
              rw [if_neg hin, if_neg h4, if_neg h5] at hR3
              have NX : Hid (NestS w code w1 (.slice a opn.length cap) opn (i + 1)) := { HG2.out with res := hR3 }
              clear hR3 HR2 HG2 hin h4 h5
              go_wp2
              go_roundw
              case rel => exact ⟨i + 1, opn, a, cap, by omega, by go_num, rfl, ho4, NX⟩
              case measure => simp [intOf]; omega
    · have hie : code.drop i = [] := by rw [List.drop_eq_nil_iff]; omega
      have hr3 : res = 3 := by rw [HRES.out, G1.out.res, hie]; rfl
      have FF : Hid (Fr _ w wr) := G1.out.fr
      clear G1 hie HRES
      go_wp2
      go_ret
      rw [hr3]
      exact ⟨rfl, FF.out⟩
end Go.Proofs.Qxb6500575aGreatDoor
