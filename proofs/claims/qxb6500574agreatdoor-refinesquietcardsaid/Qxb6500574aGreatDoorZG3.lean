/-
  THE WALKS of compm: Run: tables, builtins, the first thread.
-/
import Derived.Test.Qxb6500574aGreatDoorZG2
import Derived.Test.Qxb6500574aGreatDoorZC33
namespace Go.Proofs.Qxb6500574aGreatDoor
open Go Go.RowKit
set_option linter.unusedVariables false
set_option linter.unusedSimpArgs false
/-- the code from Reset on -/
def rnM (c : Option Code) : Code := cR (cR (cR (cR (cR (c.getD .skip)))))
/-- so many builtins are in the table -/
def glT : Nat → TabD
  | 0 => tab0
  | b + 1 => ((glT b).put (strV (builtinN ((b + 1 : Nat) : Int))) ⟨6, b + 1, []⟩).2
theorem glT_all : glT 11 = globals := rfl
theorem glT_ti : ∀ b, b ≤ 11 → TTi (glT b)
  | 0, _ => TTi.nil
  | b + 1, h => by
    unfold glT
    exact (glT_ti b (by omega)).put _ _ (fun z => by cases z)
/-- the base of a run -/
def baseA (br bn bt : Nat) : RnP := { br := br, bn := bn, bt := bt, nd := sl0, cl := sl0, th := sl0, ts := sl0, sk := [], an := ⟨0, 0, 0, [], []⟩, X := [], E := [], tx := [], o := fun k => if k = bt then 2 else 0 }
/-- all that Run has laid before Reset -/
structure RnB (w : World) (W : World) (N : List Nd) (root br bn bt ba : Nat) (nd : Sl) (F : Nat) : Prop where
  f : Fr (fun _ => False) w W
  r : Has W br (rn0 bn bt nd N.length root F) 173
  t : ∃ s, Has W bt #[.pointer (some ⟨bn, 0, none⟩), s] 165
  n : W.ownsRow 0 134 8 (nd.v N.length) N.length (N.flatMap mdV)
  a : Has W ba #[.int .i64 0, .int .i64 0, .int .i64 0, sv [], sv []] 54
  lr : w.heap.size ≤ br
  la : w.heap.size ≤ ba
  lt : bt < w.heap.size
  ra : ba ≠ br
  g : ∀ g, (nd.v N.length).ownBlock = some g → w.heap.size ≤ g ∧ g ≠ br ∧ g ≠ ba
section
variable {w W : World} {N : List Nd} {root br bn bt ba : Nat} {nd : Sl} {F : Nat} {an : AnD} {a : Act}
/-- behind Reset -/
theorem RnB.rx (h : RnB w W N root br bn bt ba nd F) : RX w (baseA br bn bt) N root ba (W.setCell ⟨bt, 1, none⟩ (.slice none 0 0)) (runA br bn bt nd) (md0 F) := by
  obtain ⟨s, ht⟩ := h.t
  have lr := h.lr
  have la := h.la
  have lt := h.lt
  have n1 : br ≠ bt := by omega
  have n2 : ba ≠ bt := by omega
  have hg := h.g
  have g1 : ∀ g, (nd.v N.length).ownBlock = some g → g ≠ bt := fun g hx => by have := (hg g hx).1; omega
  have fs : Fr (fun k => k = bt) W (W.setCell ⟨bt, 1, none⟩ (.slice none 0 0)) := (Fr.refl (fun k => k = bt) W).setCell (p := ⟨bt, 1, none⟩) (.inl rfl) _
  refine ⟨run0 (h.r.other (p := ⟨bt, 1, none⟩) n1 _) (ht.put 1 _) ?_ n1 (fun g hx => ⟨(hg g hx).2.1, g1 g hx⟩), ⟨⟨?_, fun k hk => ?_, fun x k hk => ?_⟩, rfl, rfl, rfl, List.prefix_rfl, fun j x hx => by simp [baseA] at hx⟩, ⟨h.a.other (p := ⟨bt, 1, none⟩) n2 _, ?_⟩⟩
  · exact owns_fr h.n fs (fun g hx e => g1 g hx e)
  · refine ((h.f.weaken (fun k _ x => x.elim)).trans fs (fun k hk e => ?_))
    subst e
    simp [baseA]
  · show (if k = br then 1 else if k = bt then 2 else if (Value.slice nd.a 0 0).ownBlock = some k then 6 else 0) = (if k = bt then 2 else 0)
    have e1 : k ≠ br := by omega
    have e2 : ¬ (Value.slice nd.a 0 0).ownBlock = some k := fun e => by
      have := (hg k (by unfold Sl.v; rw [ownBlock_any _ _ _ 0 0]; exact e)).1
      omega
    simp only [e1, e2, if_false]
  · have hk : W.heap.size ≤ k := by simpa using hk
    have e1 : k ≠ br := fun e => by have := h.r.lt; omega
    have e2 : k ≠ bt := fun e => by have := ht.lt; omega
    have e3 : ¬ (Value.slice nd.a 0 0).ownBlock = some k := fun e => by
      have := owns_lt h.n k (by unfold Sl.v; rw [ownBlock_any _ _ _ 0 0]; exact e)
      omega
    show (if k = br then 1 else if k = bt then 2 else if (Value.slice nd.a 0 0).ownBlock = some k then 6 else 0) = 0
    simp only [e1, e2, e3, if_false]
  · show (if ba = br then 1 else if ba = bt then 2 else if (Value.slice nd.a 0 0).ownBlock = some ba then 6 else 0) = 0
    have e3 : ¬ (Value.slice nd.a 0 0).ownBlock = some ba := fun e => (hg ba (by unfold Sl.v; rw [ownBlock_any _ _ _ 0 0]; exact e)).2.2 rfl
    have ra := h.ra
    simp only [ra, n2, e3, if_false]
/-- so many builtins are laid -/
def RnL (w : World) (A : RnP) (N : List Nd) (root ba F : Nat) (k : Nat) (v11 : Value) (wr : World) : Prop :=
  ∃ (A' : RnP) (b : Nat), v11 = .int .i64 ((b : Int) + 1) ∧ b + k = 11 ∧ RX w A N root ba wr A' { md0 F with tabs := [glT b] }
theorem builtin_well (b : Int) : wellV (strV (builtinN b)) = true := by
  have := builtin_len b
  unfold wellV strV
  simp
  omega
theorem builtin_v {b : Nat} (h1 : 1 ≤ b) (h2 : b ≤ 11) : wellV ⟨6, b, []⟩ = true := by
  unfold wellV
  simp
  omega
set_option maxRecDepth 100000
set_option maxHeartbeats 1000000
theorem run_mid {src : Bs} (hx : treeP src = .inr (N, root)) {fuel : Int} (hA : fuel < 9223372036854775808) {n : Nat} (hrun : runM n N root fuel = some an) (h : RnB w W N root br bn bt ba nd fuel.toNat) (H : FrRn (.pointer (some ⟨ba, 0, none⟩)) (.pointer (some ⟨br, 0, none⟩)) a) :
    (rnM Tryz.f51.body).wp Tryz.prog (bodyPost Tryz.prog Tryz.f51 (RnE w (baseA br bn bt) an)) a W := by
  obtain ⟨Z, hroot⟩ := tree_nz hx
  have hma := start_ma hx hA
  obtain ⟨u, rfl⟩ := H.form
  obtain ⟨A, HAA⟩ : ∃ A, Hid (baseA br bn bt = A) := ⟨_, rfl⟩
  have hAr : A.br = br := by rw [← HAA.out]; rfl
  have hAt : A.bt = bt := by rw [← HAA.out]; rfl
  have B0 := h.rx
  rw [HAA.out] at B0 ⊢
  have HB0 := hid B0
  have hla := hid h.la
  obtain ⟨st, ht⟩ := h.t
  have HRS : Hid (Calls Tryz.prog 72 #[.pointer (some ⟨bt, 0, none⟩)] W fun e w' => e = .returned (.tuple #[]) ∧ w' = W.setCell ⟨bt, 1, none⟩ (.slice none 0 0)) := treset0 ht
  have r1 := h.r.cell 1
  have lr := h.r.lt
  simp only [rn0, List.getElem?_toArray, List.getElem?_cons_succ, List.getElem?_cons_zero] at r1
  obtain ⟨TL, HTL⟩ : ∃ TL, Hid (rnS Tryz.f51.body = TL) := ⟨_, rfl⟩
  have EQ : rnM Tryz.f51.body = Code.seq (cL (rnM Tryz.f51.body)) (Code.seq (cL (cR (rnM Tryz.f51.body))) (Code.seq (cL (cR (cR (rnM Tryz.f51.body)))) (Code.seq (cL (cR (cR (cR (rnM Tryz.f51.body))))) (Code.seq (cL (cR (cR (cR (cR (rnM Tryz.f51.body)))))) (Code.seq (cL (cR (cR (cR (cR (cR (rnM Tryz.f51.body))))))) (rnS Tryz.f51.body)))))) := by kernel_rfl
  obtain ⟨Q, HQ⟩ : ∃ Q : Exit → Act → World → Prop, Hid (bodyPost Tryz.prog Tryz.f51 (RnE w A an) = Q) := ⟨_, rfl⟩
  have HST : Hid (∀ (n : Nat) (W' : World) (a : Act), RnI w A N root ba an n W' → FrRn (.pointer (some ⟨ba, 0, none⟩)) (.pointer (some ⟨br, 0, none⟩)) a → TL.wp Tryz.prog Q a W') := fun n W' a I H => by
    rw [← HTL.out, ← HQ.out]
    rw [← hAr] at H
    exact run_steps Z I hla.out H
  rw [HTL.out] at EQ
  rw [HQ.out, EQ]
  have HZ := hid Z
  have HMA := hid hma
  have HRUN := hid hrun
  have HAR := hid hAr
  have HAT := hid hAt
  clear EQ HTL B0 h ht H hx hA hma Z hrun hroot hAr hAt
  simp only [rnM, cL, cR, Tryz.f51, Option.getD_some]
  go_wp2_with fail
  refine HRS.out.mono ?_
  rintro e1 w1 ⟨rfl, hw1⟩
  rw [← hw1] at HB0
  clear hw1 HRS r1 lr
  clear W
  obtain ⟨r1, lr⟩ := HB0.out.c1
  have C1 := HB0.out.tmake (by show 0 < 12; decide)
  rw [HAR.out] at r1 lr
  rw [HAT.out] at r1 C1
  have HC1 := hid C1
  clear C1
  go_wp2_with fail
  refine HC1.out.mono ?_
  rintro e2 w2 ⟨rfl, A2, B2⟩
  have HI0 : Hid (RnL w A N root ba fuel.toNat 11 (.int .i64 1) w2) := ⟨A2, 0, rfl, rfl, B2⟩
  clear B2 r1 lr HC1 HB0
  clear w1
  go_wp2_with fail
  go_loopg [11] 11 (fun k v11 wr => Hid (RnL w A N root ba fuel.toNat k v11 wr))
  case atStart => exact HI0
  case round =>
    obtain ⟨A4, b, rfl, hbk, B4⟩ := hrel.out
    by_cases hb : b = 11
    · subst hb
      clear hrel hbk
      rw [glT_all] at B4
      have hle : ((11 : Int) + 1 ≤ 11) = False := by simp
      have c4 : wr.cell? ⟨A.br, 4, none⟩ = some (.slice A4.cl.a 0 A4.cl.c) := B4.rc 4 rfl
      have f4 : wr.frozen? ⟨A.br, 4, none⟩ = false := by rw [← B4.s.br]; exact B4.r.run.has.frozen 4
      obtain ⟨r1, lr⟩ := B4.c1
      rw [HAR.out] at c4 f4 lr
      have HB4 := hid B4
      have HO4 : Hid (wr.ownsRow 0 179 2 (.slice A4.cl.a 0 A4.cl.c) 0 []) := B4.r.clo.own
      clear r1 B4
      go_wp2_with (at_builtin; go_must (refine wpList_app rowClo _ rfl (.tmp 82) (.tmp 84) rfl _ _ _ rfl (owns_alloc HO4.out _) _ [.int .i64 0, .pointer none] rfl (Has.new _ _ _) rfl ?one ?bd ?go))
      case one => simp [Value.oneCell']
      case go =>
        intro g3 cap3 w3 q1 q2 q3 q4
        have q3' : (A4.cl.v 0).ownBlock = some g3 ∨ wr.heap.size ≤ g3 := by
          rcases q3 with z | z
          · exact .inl z
          · right; rw [z]; simp
        obtain ⟨hh, A5, s1, s2⟩ := HB4.out.r.cloApp (0, none) ((Fr.refl _ _).alloc _) q1 q2 q3' q4
        have e4 : A4.br = br := HB4.out.s.br.trans HAR.out
        rw [e4] at hh s1 s2
        have x4 := hh.cell 4
        have xf := hh.frozen 4
        have xl := hh.lt
        replace x4 : w3.cell? ⟨br, 4, none⟩ = some (.slice A4.cl.a 0 A4.cl.c) := x4
        obtain ⟨V5, HV5⟩ : ∃ V, Hid (w3.setCell ⟨br, 4, none⟩ (.slice (some ⟨g3, 0, none⟩) (0 + 1) cap3) = V) := ⟨_, rfl⟩
        replace s1 : MRep (w3.setCell ⟨br, 4, none⟩ (.slice (some ⟨g3, 0, none⟩) (0 + 1) cap3)) A5 N root { md0 fuel.toNat with tabs := [globals], clos := [(0, none)] } := s1
        replace s2 : MSt wr A4 (w3.setCell ⟨br, 4, none⟩ (.slice (some ⟨g3, 0, none⟩) (0 + 1) cap3)) A5 := s2
        rw [HV5.out] at s1 s2
        have HB5 : Hid (RX w A N root ba V5 A5 { md0 fuel.toNat with tabs := [globals], clos := [(0, none)] }) := ⟨s1, HB4.out.s.trans s2, HB4.out.l.st s2⟩
        have e5 : w3.setCell ⟨br, 4, none⟩ (.slice (some ⟨g3, 0, none⟩) 1 cap3) = V5 := HV5.out
        have HE5 := hid e5
        clear e5 s1 s2 hh q1 q2 q3 q3' q4 HB4 HO4 e4 c4 f4 lr HV5
        refine list_cut (fun a' w' => FrRn (.pointer (some ⟨ba, 0, none⟩)) (.pointer (some ⟨br, 0, none⟩)) a' ∧ w' = V5) (fun Qk hq => ?_) ?_
        · have HHQ := hid hq
          clear hq
          go_wp2_with fail
          rw [HE5.out]
          exact HHQ.out _ _ ⟨⟨by kernel_rfl, by kernel_rfl, by kernel_rfl, rfl⟩, rfl⟩
        · rintro a9 w9 ⟨H9, hw9⟩
          rw [hw9]
          clear hw9 HE5 x4 xf xl
          clear w9
          clear w3
          clear wr
          obtain ⟨u9, rfl⟩ := H9.form
          clear H9
          have c5 : V5.cell? ⟨A.br, 5, none⟩ = some (.slice A5.th.a 0 A5.th.c) := HB5.out.rc 5 rfl
          have lr := HB5.out.c1.2
          rw [HAR.out] at c5 lr
          obtain ⟨Wb, HWb⟩ : ∃ Wb, Hid (V5.alloc (.cells #[.int .i64 4, .int .i64 0, .int .i64 0, .slice none 0 0, .slice none 0 0] 183) = Wb) := ⟨_, rfl⟩
          have FB : Fr (fun _ => False) V5 Wb := by rw [← HWb.out]; exact (Fr.refl _ _).alloc _
          have hTb : Has Wb V5.heap.size #[.int .i64 4, .int .i64 0, .int .i64 0, .slice none 0 0, .slice none 0 0] 183 := by rw [← HWb.out]; exact Has.new _ _ _
          obtain ⟨RB1, RB2, RB3⟩ := HB5.out.r.newTh FB (T := ⟨4, 0, 0, [], []⟩) (x := ⟨V5.heap.size, sl0, sl0⟩) hTb (Nat.le_refl _) rfl rfl
          have HO5 : Hid (Wb.ownsRow 0 180 1 (.slice A5.th.a 0 A5.th.c) 0 (A5.X.flatMap xtV)) := RB1.ths.own
          have HR1 := hid RB1
          have HR2 := hid RB2
          have HR3 := hid RB3
          rw [← HWb.out] at HO5
          clear RB1 RB2 RB3 hTb
          go_wp2_with (at_builtin; go_must (refine wpList_app rowThP _ rfl (.tmp 92) (.tmp 95) rfl _ _ _ rfl (owns_alloc HO5.out _) _ [.pointer (some ⟨V5.heap.size, 0, none⟩)] rfl (Has.newC _ _ _ (by simp)) rfl ?one2 ?bd2 ?go2))
          case one2 => simp [Value.oneCell']
          case go2 =>
            rw [HWb.out]
            intro g6 cap6 w6 q1 q2 q3 q4
            have FC : Fr (fun _ => False) Wb (Wb.alloc (.cells #[.pointer (some ⟨V5.heap.size, 0, none⟩)] 180)) := (Fr.refl _ _).alloc _
            have q3' : (Sl.v A5.th 0).ownBlock = some g6 ∨ Wb.heap.size ≤ g6 := by
              rcases q3 with z | z
              · exact .inl z
              · right; rw [z]; have hsz : Wb.heap.size = V5.heap.size + 1 := by rw [← HWb.out]; simp
                omega
            obtain ⟨hh, A6, s1, s2⟩ := HR1.out.addTh (by show 0 < 5; decide) HR3.out FC q1 q2 q3' q4
            have e4 : ({ A5 with o := upd A5.o V5.heap.size (10 + ({ md0 fuel.toNat with tabs := [globals], clos := [(0, none)] } : MD).ths.length) } : RnP).br = br := HB5.out.s.br.trans HAR.out
            have s3 := HR2.out.trans s2
            rw [e4] at hh s1 s3
            have x5 := hh.cell 5
            have xf := hh.frozen 5
            have xl := hh.lt
            replace x5 : w6.cell? ⟨br, 5, none⟩ = some (.slice A5.th.a 0 A5.th.c) := x5
            obtain ⟨V6, HV6⟩ : ∃ V, Hid (w6.setCell ⟨br, 5, none⟩ (.slice (some ⟨g6, 0, none⟩) (0 + 1) cap6) = V) := ⟨_, rfl⟩
            replace s1 : MRep (w6.setCell ⟨br, 5, none⟩ (.slice (some ⟨g6, 0, none⟩) (0 + 1) cap6)) A6 N root ⟨[globals], [(0, none)], [], [⟨4, 0, 0, [], []⟩], [], 0, fuel.toNat, 0, [], none⟩ := s1
            replace s3 : MSt V5 A5 (w6.setCell ⟨br, 5, none⟩ (.slice (some ⟨g6, 0, none⟩) (0 + 1) cap6)) A6 := s3
            rw [HV6.out] at s1 s3
            have HB6 : Hid (RX w A N root ba V6 A6 ⟨[globals], [(0, none)], [], [⟨4, 0, 0, [], []⟩], [], 0, fuel.toNat, 0, [], none⟩) := ⟨s1, HB5.out.s.trans s3, HB5.out.l.st s3⟩
            have e6 : w6.setCell ⟨br, 5, none⟩ (.slice (some ⟨g6, 0, none⟩) 1 cap6) = V6 := HV6.out
            have HE6 := hid e6
            clear e6 s1 s2 s3 hh q1 q2 q3 q3' q4 HB5 HO5 e4 c5 lr HV6 HR1 HR2 HR3 FC FB HWb
            refine list_cut (fun a' w' => FrRn (.pointer (some ⟨ba, 0, none⟩)) (.pointer (some ⟨br, 0, none⟩)) a' ∧ w' = V6) (fun Qk hq => ?_) ?_
            · have HHQ := hid hq
              clear hq
              go_wp2_with fail
              rw [HE6.out]
              exact HHQ.out _ _ ⟨⟨by kernel_rfl, by kernel_rfl, by kernel_rfl, rfl⟩, rfl⟩
            · rintro a9 w9 ⟨H9, hw9⟩
              rw [hw9]
              clear hw9 HE6 x5 xf xl
              clear w9
              clear w6
              clear Wb
              clear V5
              obtain ⟨u6, rfl⟩ := H9.form
              clear H9
              have B7 : RB w A N root V6 A6 ⟨[globals], [(0, none)], [], [⟨4, 0, 0, [], []⟩], [], 0, fuel.toNat, 0, [], none⟩ := ⟨HB6.out.r, HB6.out.s, by show 0 < 1; decide⟩
              have no := HZ.out.nds
              have n0 : N.getD 0 nd0 = nd0 := HZ.out.z
              have CE := enter_m B7 ⟨(fun T hT k hk => by
                have : T = ⟨4, 0, 0, [], []⟩ := by simpa using hT
                rw [this] at hk
                cases hk), (fun q hq i hi => by
                have : q = (0, none) := by simpa using hq
                rw [this] at hi
                cases hi), (fun i e hi => by simp at hi)⟩ (by show 0 ≤ 999990; decide) (by show 0 ≤ 1000; decide) (by show 0 ≤ 1000000; decide) (c := 0) (q := (0, none)) rfl no.z (by show 1 ≤ 1000; decide) ⟨[], by rw [n0]; rfl, by decide⟩ (by rw [n0]; exact no.z) no.nx no.l [] (.slice none 0 0) (.inl ⟨rfl, rfl⟩) (by decide) 0 (c' := 0) (p' := 0) rfl rfl
              rw [HAR.out] at CE
              have HCE := hid CE
              clear CE B7 no n0
              go_wp2_with fail
              refine HCE.out.mono ?_
              rintro e8 w8 ⟨rfl, A8, B8, S8⟩
              have HI8 : Hid (RnI w A N root ba an n w8) := ⟨A8, startM N root fuel, ⟨B8.r, B8.s, HB6.out.l.st S8⟩, HRUN.out, fun _ => HMA.out⟩
              clear B8 S8 HCE HB6
              go_wp2_with fail
              exact HST.out n _ _ HI8.out ⟨by kernel_rfl, by kernel_rfl, by kernel_rfl, rfl⟩
    · obtain ⟨k', rfl⟩ : ∃ k', gk = k' + 1 := ⟨gk - 1, by omega⟩
      have hle : ((b : Int) + 1 ≤ 11) = True := by simp; omega
      have hb11 : b < 11 := by omega
      obtain ⟨nm, HNM⟩ : ∃ nm, Hid (builtinN ((b + 1 : Nat) : Int) = nm) := ⟨_, rfl⟩
      have BN : Hid (∀ W2 : World, Calls Tryz.prog 74 #[.int .i64 ((b : Int) + 1)] W2 fun e w' => e = .returned (sv nm) ∧ w' = W2) := fun W2 => by
        rw [← HNM.out]
        exact builtinName_any ((b + 1 : Nat) : Int)
      obtain ⟨r1, lr⟩ := B4.c1
      have CS := B4.tset (h := 0) (fun t ht => by
        have : t = glT b := by simpa using ht
        rw [this]
        exact glT_ti b (by omega)) (by show 0 < 1; decide) (builtin_well ((b + 1 : Nat) : Int)) (builtin_v (b := b + 1) (by omega) (by omega)) (fun z => by cases z)
      rw [HNM.out] at CS
      rw [HAT.out] at CS r1
      rw [HAR.out] at r1 lr
      have HCS : Hid (Calls Tryz.prog 75 #[.pointer (some ⟨bt, 0, none⟩), .int .i64 0, .agg #[.int .i64 3, .int .u64 0, sv nm], .agg #[.int .i64 6, .int .u64 ((b : Int) + 1), sv []]] wr fun e w' => (∃ z : Int, e = .returned (.int .i64 z)) ∧ ∃ A', RX w A N root ba w' A' { md0 fuel.toNat with tabs := [glT (b + 1)] }) := by
        refine CS.mono ?_
        rintro e w' ⟨h1, A', h2⟩
        refine ⟨h1, A', ?_⟩
        rw [← HNM.out] at h2
        exact h2
      clear CS B4 hrel
      go_wp2_with fail
      refine (BN.out _).mono ?_
      rintro e5 w5 ⟨rfl, hw5⟩
      rw [hw5]
      clear hw5
      clear w5
      go_wp2_with fail
      refine HCS.out.mono ?_
      rintro e6 w6 ⟨⟨z6, rfl⟩, A6, B6⟩
      have HI6 : Hid (RnL w A N root ba fuel.toNat k' (.int .i64 ((b : Int) + 1 + 1)) w6) := ⟨A6, b + 1, rfl, by omega, B6⟩
      clear B6 HCS BN r1 lr
      go_wp2_with fail
      go_roundg k'
      case measure => omega
      case rel => exact HI6
end
end Go.Proofs.Qxb6500574aGreatDoor
