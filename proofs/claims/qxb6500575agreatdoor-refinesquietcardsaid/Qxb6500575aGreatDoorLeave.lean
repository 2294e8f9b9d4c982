import Derived.Test.Qxb6500575aGreatDoorTurn
import Derived.Test.Qxb6500575aGreatDoorRegStr
namespace Go.Proofs.Qxb6500575aGreatDoor
open Go Go.RowKit
set_option linter.unusedVariables false
set_option linter.unusedSimpArgs false

/-- an end: the holes that waited are filled with this place; the body's own end is laid -/
def Ck.leave (s : Ck) : Ck × Int :=
  match s.closes.1.opn with
  | [] => s.closes
  | b :: r =>
    ({ st := b.res.reverse ++ s.closes.1.st, opn := r,
       code := patchAll s.closes.1.code s.closes.1.code.length (b.wait ++ b.alt.toList) ++ (if r.isEmpty then [{ op := 5, imm := 0, keep := 0, cut := 0 }] else []) },
     if b.alt.isSome && !b.res.isEmpty then 6 else s.closes.2)

theorem zeroBlk (w : World) : (Instr.alloc 226 true (.tuple #[])).run Tryz.prog w = .ok (.pointer (some ⟨w.heap.size, 0, none⟩)) (w.alloc (.cells #[.string ⟨#[]⟩, .string ⟨#[]⟩, .int .i64 0, .int .i64 0, .bool false, .nilFunc, .slice none 0 0] 226)) := by kernel_rfl

theorem patchAll_snoc (code : List Flat) (t : Int) (ps : List Nat) (a : Nat) : patchAll code t (ps ++ [a]) = patchAt (patchAll code t ps) a t := by simp [patchAll]

set_option maxRecDepth 100000 in
set_option maxHeartbeats 4000000 in
theorem leave_any (B bk : Nat) (fx : CkF) (L : CkL) (s : Ck) (w : World) (h : CkRep B w bk fx L s) {b : Blk} {r : List Blk} (ht : s.Top b r) (hr : r.length ≤ 1000) (hs : s.st.length ≤ 1000) (hc : s.code.length ≤ 900) (hi : b.res.length ≤ 1000) (hw : b.wait.length ≤ 900)
    (hps : ∀ p ∈ b.wait ++ b.alt.toList, p < s.code.length) :
    Calls Tryz.prog 121 #[.pointer (some ⟨bk, 0, none⟩)] w fun e w' => e = .returned (.int .i64 s.leave.2) ∧ ∃ L', CkRep B w' bk fx L' s.leave.1 ∧ CkStep w w' bk L L' := by
  have hcall := closes_any B bk fx L s w h ht hr hs hi
  have p1 := s.closes_opn
  have p2 := s.closes_code
  have p3 := s.closes_len
  have ht1 := Ck.closes_top ht
  have e0 : s.leave = ({ st := b.res.reverse ++ s.closes.1.st, opn := r, code := patchAll s.closes.1.code s.closes.1.code.length (b.wait ++ b.alt.toList) ++ (if r.isEmpty then [{ op := 5, imm := 0, keep := 0, cut := 0 }] else []) },
     if b.alt.isSome && !b.res.isEmpty then 6 else s.closes.2) := by
    unfold Ck.leave; rw [ht1.opn]
  rw [e0]
  clear e0
  generalize s.closes = p at *
  obtain ⟨s1, er⟩ := p
  simp only at hcall p1 p2 p3 ht1 ⊢
  have hc1 : s1.code.length ≤ 900 := by rw [p2]; exact hc
  rw [← p2] at hps
  clear h ht p1 p2 hc
  have HPS : Hid (∀ p ∈ b.wait ++ b.alt.toList, p < s1.code.length) := hps
  clear hps
  have goalE : ∀ (v : Int) (c2 : List Flat), v = (if b.alt.isSome && !b.res.isEmpty then 6 else er) → c2 = patchAll s1.code s1.code.length (b.wait ++ b.alt.toList) ++ (if r.isEmpty then [{ op := 5, imm := 0, keep := 0, cut := 0 }] else []) →
      Calls Tryz.prog 121 #[.pointer (some ⟨bk, 0, none⟩)] w fun e w' => e = .returned (.int .i64 v) ∧ ∃ L', CkRep B w' bk fx L' { st := b.res.reverse ++ s1.st, opn := r, code := c2 } ∧ CkStep w w' bk L L' := ?main
  · exact goalE _ _ rfl rfl
  intro v c2 hv hc2
  have HV : Hid (v = _) := hv
  have HC2 : Hid (c2 = _) := hc2
  clear hv hc2
  go_enter Tryz.func121, Tryz.ntmps121
  go_wp2_with fail
  refine hcall.mono ?_
  clear hcall
  rintro e w1 ⟨rfl, g1, g2⟩
  obtain ⟨go, l, ha, hl, hcl, hf, hlt, hbo⟩ := g1.at 0 (b := b) (by rw [ht1.opn]; rfl)
  have hol : s1.opn.length = r.length + 1 := by rw [ht1.opn]; rfl
  have hml : s1.opn.length - 1 - 0 = r.length := by omega
  have hoc : r.length + 1 ≤ L.oc := by
    rcases owns_form g1.opn with ⟨_, n1, _⟩ | ⟨_, _, n1⟩ <;> omega
  have c3 := g1.here.cell 3
  have f3 := g1.here.frozen 3
  have k0 := hcl 0 (by omega)
  have k1 := hcl 1 (by omega)
  have k2 := hcl 2 (by omega)
  have k3 := hcl 3 (by omega)
  have k4 := hcl 4 (by omega)
  have k5 := hcl 5 (by omega)
  have k6 := hcl 6 (by omega)
  rw [hml] at k0 k1 k2 k3 k4 k5 k6
  rw [hol] at c3
  simp [blkCells, ha] at c3 k0 k1 k2 k3 k4 k5 k6
  have hb := g1.here.lt
  obtain ⟨hA, hvs, hw0, hh0⟩ := g1.blk 0 b l (by rw [ht1.opn]; rfl) hl
  have o2 : ∃ wa wc, l.2 = .slice wa b.wait.length wc := by
    rcases hw0.2 with ⟨h1, h2⟩ | ⟨g, cap, cur, h1, _⟩
    · exact ⟨none, 0, by rw [h1, h2]⟩
    · exact ⟨_, _, h1⟩
  obtain ⟨wa, wc, hl2⟩ := o2
  obtain ⟨lv, lw⟩ := l
  simp only at hl2 k5 k6 hA hw0
  subst hl2
  cases hb2 : b.alt with
  | none =>
    rw [hb2] at hA
    obtain rfl : lv = .nilFunc := hA
    have hns : ∀ g, (Value.slice wa b.wait.length wc).ownBlock = some g → ¬ CkS bk { L with ls := L.ls.tail } g := by
      rintro g hg (rfl | h1 | h1 | h1 | ⟨i, x, hx, h1⟩)
      · exact owns_ne hw0 g1.here (by decide) hg
      · exact owns_apart hw0 g1.st (by decide) g hg (by rw [ownBlock_any]; exact h1)
      · exact owns_apart hw0 g1.opn (by decide) g hg (by rw [ownBlock_any]; exact h1)
      · exact owns_apart hw0 g1.code (by decide) g hg (by rw [ownBlock_any]; exact h1)
      · simp only [List.getElem?_tail] at hx
        exact g1.apart 0 (i + 1) _ x hl hx (by omega) g hg h1
    -- behind the copy and the reslice
    have fin3 : ∀ vo, vo = Value.slice L.oa r.length L.oc → (CkRep B ((((w1.setCell ⟨bk, 3, none⟩ vo).alloc (.cells #[sv b.res, sv b.carry, .int .i64 b.height, .int .i64 b.head, .bool b.dead, .nilFunc, .slice wa b.wait.length wc] 226)).drew).drew) bk fx { L with ls := L.ls.tail } { s1 with opn := r } ∧ CkStep w ((((w1.setCell ⟨bk, 3, none⟩ vo).alloc (.cells #[sv b.res, sv b.carry, .int .i64 b.height, .int .i64 b.head, .bool b.dead, .nilFunc, .slice wa b.wait.length wc] 226)).drew).drew) bk L { L with ls := L.ls.tail }) ∧
        Has ((((w1.setCell ⟨bk, 3, none⟩ vo).alloc (.cells #[sv b.res, sv b.carry, .int .i64 b.height, .int .i64 b.head, .bool b.dead, .nilFunc, .slice wa b.wait.length wc] 226)).drew).drew) w1.heap.size #[sv b.res, sv b.carry, .int .i64 b.height, .int .i64 b.head, .bool b.dead, .nilFunc, .slice wa b.wait.length wc] 226 ∧
        HolesAt ((((w1.setCell ⟨bk, 3, none⟩ vo).alloc (.cells #[sv b.res, sv b.carry, .int .i64 b.height, .int .i64 b.head, .bool b.dead, .nilFunc, .slice wa b.wait.length wc] 226)).drew).drew) bk (.slice wa b.wait.length wc) b.wait hvs ∧ AltV ((((w1.setCell ⟨bk, 3, none⟩ vo).alloc (.cells #[sv b.res, sv b.carry, .int .i64 b.height, .int .i64 b.head, .bool b.dead, .nilFunc, .slice wa b.wait.length wc] 226)).drew).drew) bk .nilFunc none := by
      rintro vo rfl
      have x1 := g1.popOpn ht1.opn
      have F1 : Fr (fun k => k = bk) w1 ((((w1.setCell ⟨bk, 3, none⟩ (.slice L.oa r.length L.oc)).alloc (.cells #[sv b.res, sv b.carry, .int .i64 b.height, .int .i64 b.head, .bool b.dead, .nilFunc, .slice wa b.wait.length wc] 226)).drew).drew) := (((Fr.setCell (S := fun k => k = bk) (Fr.refl _ _) (p := ⟨bk, 3, none⟩) (.inl rfl) _).alloc _).drew).drew
      have knd : ∀ k cs T, Has w1 k cs T → k = bk → T ≠ 189 ∧ T ≠ 3 := by
        rintro k cs T hk rfl
        have := hk.symm.trans g1.here
        simp at this
        rw [this.2]; decide
      have hole : ∀ {u : Value} {a : Nat}, HoleV w1 bk u a → HoleV ((((w1.setCell ⟨bk, 3, none⟩ (.slice L.oa r.length L.oc)).alloc (.cells #[sv b.res, sv b.carry, .int .i64 b.height, .int .i64 b.head, .bool b.dead, .nilFunc, .slice wa b.wait.length wc] 226)).drew).drew) bk u a := fun hu => hu.fr F1 knd
      refine ⟨⟨((x1.1.alloc _).drew).drew, g2.trans (((x1.2.alloc _).drew).drew)⟩, ?_, ⟨?_, ?_⟩, ?_⟩
      · have := Has.new (w1.setCell ⟨bk, 3, none⟩ (.slice L.oa r.length L.oc)) #[sv b.res, sv b.carry, .int .i64 b.height, .int .i64 b.head, .bool b.dead, .nilFunc, .slice wa b.wait.length wc] 226
        have hsz : (w1.setCell ⟨bk, 3, none⟩ (.slice L.oa r.length L.oc)).heap.size = w1.heap.size := by simp [World.setCell]
        rw [hsz] at this
        exact this.drew.drew
      · exact owns_fr hw0 F1 (fun g hg e => by subst e; exact owns_ne hw0 g1.here (by decide) hg)
      · exact fun i u a hi ha => hole (hh0 i u a hi ha)
      · rfl
    have hnb : ¬ CkS bk { L with ls := L.ls.tail } w1.heap.size := by
      rintro (h1 | h1 | h1 | h1 | ⟨i, x, hx, h1⟩)
      · omega
      · exact g1.new (Nat.le_refl _) (.inr (.inl h1))
      · exact g1.new (Nat.le_refl _) (.inr (.inr (.inl h1)))
      · exact g1.new (Nat.le_refl _) (.inr (.inr (.inr (.inl h1))))
      · simp only [List.getElem?_tail] at hx
        exact g1.new (Nat.le_refl _) (.inr (.inr (.inr (.inr ⟨i + 1, x, hx, h1⟩))))
    have FIN3 : Hid (∀ vo : Value, _) := fin3
    have HNS : Hid (∀ g, (Value.slice wa b.wait.length wc).ownBlock = some g → ¬ CkS bk { L with ls := L.ls.tail } g) := hns
    have HNB : Hid (¬ CkS bk { L with ls := L.ls.tail } w1.heap.size) := hnb
    have HVO : Hid (Value.slice (some ⟨go, 0, none⟩) r.length L.oc = .slice L.oa r.length L.oc) := by show _ = _; rw [ha]
    have HL0 : Hid (L.ls[0]? = some _) := hl
    have HSZ : Hid (w.heap.size ≤ w1.heap.size) := g2.fr.size
    clear fin3 hns hnb g1 g2 hw0 hh0 hcl hf ha hl
    have hzb := zeroBlk
    have hnq : ∀ w, (binOp BinOp.neq 221 .nilFunc .nilFunc).run Tryz.prog w = .ok (.bool false) w := fun _ => by kernel_rfl
    have hnq1 : ∀ w x y, (binOp BinOp.neq 221 (.func (.func 144) #[] #[x, y]) .nilFunc).run Tryz.prog w = .ok (.bool true) w := fun _ _ _ => by kernel_rfl
    have hb1 : bk < w1.heap.size + 1 := by omega
    go_wp2
    refine wp_region_head 12 1 (fun x => x = w1.drew ∨ x = (w1.alloc (.cells #[.string ⟨#[]⟩, .string ⟨#[]⟩, .int .i64 0, .int .i64 0, .bool false, .nilFunc, .slice none 0 0] 226)).drew) (by kernel_rfl) (by kernel_rfl) (fun _ _ _ _ _ h => h) (.inl rfl) ?_
    simp only [List.take_succ_cons, List.take_zero, List.drop_succ_cons, List.drop_zero]
    repeat go_big_quiet_step (fail)
    refine wpQuiet_nil ?_
    unfold wpChain
    go_wp2
    refine ⟨by simp, ?_⟩
    rw [wpChain_zero]
    go_wp2
    refine wp_region_tail 12 (by kernel_rfl) (by kernel_rfl) (fun _ _ _ _ _ h => h) ?_
    simp only [List.take_succ_cons, List.take_zero, List.drop_succ_cons, List.drop_zero]
    repeat go_big_quiet_step (fail)
    refine wpQuiet_nil ?_
    go_wp2
    obtain ⟨⟨r3, st3⟩, kl, hh, _⟩ := FIN3.out _ HVO.out
    have R3 : Hid (CkRep B _ bk fx _ _) := r3
    have ST3 : Hid (CkStep w _ bk L _) := st3
    have KLH : Hid (Has _ w1.heap.size _ _) := kl
    have HH : Hid (HolesAt _ bk _ _ _) := hh
    clear r3 st3 kl hh FIN3 hzb hnq hnq1
    go_loopw [51] (fun t wr => ∃ i : Nat, i ≤ b.wait.length ∧ t = .int .i64 i ∧ Hid (CkRep B wr bk fx { L with ls := L.ls.tail } { s1 with opn := r, code := patchAll s1.code s1.code.length (b.wait.take i) }) ∧ Hid (CkStep w wr bk L { L with ls := L.ls.tail }) ∧ Hid (Has wr w1.heap.size #[sv b.res, sv b.carry, .int .i64 b.height, .int .i64 b.head, .bool b.dead, .nilFunc, .slice wa b.wait.length wc] 226) ∧ Hid (HolesAt wr bk (.slice wa b.wait.length wc) b.wait hvs)) (fun t _ => b.wait.length - (intOf t).toNat)
    case atStart => exact ⟨0, Nat.zero_le _, rfl, R3.out, ST3.out, KLH.out, HH.out⟩
    case round =>
      obtain ⟨i, hi', rfl, G1, G2, G3, G4⟩ := hrel
      have PSL : Hid (b.wait.length = b.wait.length) := rfl
      have hil : i ≤ b.wait.length := by have := PSL.out; omega
      by_cases hlt2 : i < b.wait.length
      · -- a round
        have hip : i < b.wait.length := by have := PSL.out; omega
        have hvl : hvs.length = b.wait.length := by have := G4.out.row.1; have := PSL.out; omega
        obtain ⟨gw, hgw, hcw⟩ := owns_some (a := wa) (n := b.wait.length) (cap := wc) (by have := G4.out.row; rw [PSL.out] at this; exact this) (by omega)
        have cw := hcw i (by omega)
        rw [List.getElem?_eq_getElem (by omega)] at cw
        obtain ⟨z1, z2, hz, hz1, hz2⟩ := G4.out.hole i hvs[i] b.wait[i] (List.getElem?_eq_getElem (by omega)) (List.getElem?_eq_getElem hip)
        rw [hz] at cw
        have d4 := G1.out.here.cell 4
        simp [patchAll_len] at d4
        have hpi : b.wait[i] < s1.code.length := HPS.out _ (by simp)
        have hcall2 := patch_any B bk fx _ _ wr G1.out z1 z2 b.wait[i] s1.code.length hz1 hz2 (by simp only [patchAll_len]; exact hpi) (by simp only [patchAll_len]; omega)
        have HC2b : Hid (Calls Tryz.prog 144 _ _ _) := hcall2
        clear hcall2 hcw hz hz1 hz2 hpi
        subst hgw
        go_wp2_with fail
        refine HC2b.out.mono ?_
        rintro e w2 ⟨rfl, g5, g6⟩
        have N1 : Hid (CkRep B w2 bk fx { L with ls := L.ls.tail } { s1 with opn := r, code := patchAll s1.code s1.code.length (b.wait.take (i + 1)) }) := by
          show CkRep _ _ _ _ _ _
          rw [List.take_succ_eq_append_getElem hip, patchAll_snoc]; exact g5
        have N2 : Hid (CkStep w w2 bk L { L with ls := L.ls.tail }) := G2.out.trans g6
        have N3 : Hid (Has w2 w1.heap.size #[sv b.res, sv b.carry, .int .i64 b.height, .int .i64 b.head, .bool b.dead, .nilFunc, .slice (some ⟨gw, 0, none⟩) b.wait.length wc] 226) := g6.has G3.out HNB.out
        have N4 : Hid (HolesAt w2 bk (.slice (some ⟨gw, 0, none⟩) b.wait.length wc) b.wait hvs) := G4.out.step G1.out g6 HNS.out
        clear g5 g6 G1 G2 G3 G4 HC2b
        go_wp2
        go_roundw
        case rel => exact ⟨i + 1, by omega, by go_num, N1, N2, N3, N4⟩
        case measure => simp [intOf]; omega
      · -- behind the loop
        have hie : b.wait.take i = b.wait := List.take_of_length_le (by have := PSL.out; omega)
        have G1' : CkRep B wr bk fx { L with ls := L.ls.tail } { s1 with opn := r, code := patchAll s1.code s1.code.length b.wait } := by have := G1.out; rw [hie] at this; exact this
        clear G1 hie G4
        have d2 := G1'.here.cell 2
        have dk := G3.out.cell 0
        simp at d2 dk
        have l1 := G1'.here.lt
        have hne := owns_ne G1'.st G1'.here (by decide)
        have hne1 : (Value.slice L.sa s1.st.length L.sc).ownBlock ≠ some w1.heap.size := fun e => HNB.out (.inr (.inl (by rw [ownBlock_any _ _ _ s1.st.length L.sc]; exact e)))
        go_wp2
        refine wp_region_appStr rowByte (by kernel_rfl) 7 (by kernel_rfl) (by kernel_rfl) (fun _ _ _ _ _ h => h) _ _ rfl (.tmp 69) (.tmp 67) 70 rfl rfl rfl _ _ _ G1'.st b.res (by simp only; omega) ?_
        intro sa sc w2 q1 q2 q3
        have kb' : Has w2 w1.heap.size _ _ := G3.out.fr q2 hne1
        have hH' : Has w2 bk _ _ := G1'.here.fr q2 hne
        have dk' := kb'.cell 0
        have d2' := hH'.cell 2
        simp at dk' d2'
        have f2' := hH'.frozen 2
        have hbs : (Value.slice sa (s1.st.length + b.res.length) sc).ownBlock ≠ some bk := owns_ne q1 hH' (by decide)
        have e9 : (b.res.reverse ++ s1.st).length = s1.st.length + b.res.length := by simp; omega
        have fin := G1'.putSt (b.res.reverse ++ s1.st) (w2 := w2.setCell ⟨bk, 2, none⟩ (.slice sa (s1.st.length + b.res.length) sc)) (sa2 := sa) (sc2 := sc)
          ((q2.weaken (S' := fun k => (CkL.stV { L with ls := L.ls.tail } { s1 with opn := r, code := patchAll s1.code s1.code.length b.wait }).ownBlock = some k ∨ k = bk) (fun _ _ => .inl)).setCell (p := ⟨bk, 2, none⟩) (.inl (.inr rfl)) _)
          (by rw [e9]; exact hH'.put 2 _)
          (by rw [e9]; refine owns_other ?_ hbs _; simpa [byteCells] using q1)
          (fun g hg => by rw [e9] at hg; exact q3 g hg)
        have F9 : Hid (CkRep B _ bk fx _ _) := fin.1
        have S9 : Hid (CkStep w _ bk L _) := G2.out.trans fin.2
        have n3 := hH'.cell 3
        have n4 := hH'.cell 4
        simp [patchAll_len] at n3 n4
        have l9 := hH'.lt
        have nf4 := hH'.frozen 4
        have FC := fin.1.code
        simp only [CkL.codeV, patchAll_len] at FC
        have FH := fin.1.here
        clear fin q1 q2 q3 kb' hH' hbs G1' G2 G3 hne hne1 e9
        simp only [List.take_succ_cons, List.take_zero]
        repeat go_big_quiet_step (fail)
        refine wpQuiet_nil ⟨rfl, rfl, ?_⟩
        have hvE : v = er := by rw [HV.out, hb2]; simp 
        by_cases hre : r = []
        · have hr0 : r.length = 0 := by rw [hre]; rfl
          rw [hr0] at n3
          have hcE : c2 = patchAll s1.code s1.code.length (b.wait) ++ [{ op := 5, imm := 0, keep := 0, cut := 0 }] := by rw [HC2.out, hb2, hre]; simp
          have HVE : Hid (v = _) := hvE
          have HCE : Hid (c2 = _) := hcE
          clear hvE hcE hre hr0
          have hne := owns_ne FC FH (by decide)
          go_wp2_with (at_builtin; go_must (refine wpList_app rowFlat _ rfl (.tmp 83) (.tmp 85) rfl _ _ _ rfl (owns_alloc FC _) _ [.int .i64 5, .int .i64 0, .int .i64 0, .int .i64 0] rfl (Has.newSet _ _ _ _ _) rfl ?one ?bd ?go))
          case one => simp [Value.oneCell']
          case bd => omega
          case go =>
            intro g9 cap9 w5 q1 q2 q3 q4
            have hH5 : Has w5 bk _ _ := (FH.alloc _).fr q2 hne
            have t4 := hH5.cell 4
            simp [patchAll_len] at t4
            have tf4 := hH5.frozen 4
            obtain ⟨n1, n2, n3', n4', n5⟩ := app_net FH hne q2 q1 (by decide) (by simpa [World.setCell] using q3) q4 4
            have fin9 := F9.out.putCode (patchAll s1.code s1.code.length (b.wait) ++ [{ op := 5, imm := 0, keep := 0, cut := 0 }]) (ca2 := some ⟨g9, 0, none⟩) (cc2 := cap9) (by simpa [CkL.codeV, patchAll_len] using n1) (by simpa [patchAll_len] using n2) (by rw [flatCells_snoc]; simpa [Flat.cells, patchAll_len] using n3') (fun k hk => by simp [Value.ownBlock] at hk; subst hk; simpa [CkL.codeV, patchAll_len, World.setCell] using n4')
            have FIN9 : Hid (_ ∧ _) := And.intro fin9.1 (S9.out.trans fin9.2)
            clear fin9 n1 n2 n3' n4' n5 q1 q2 q3 q4 hH5 F9 S9 FC FH hne
            go_wp2
            go_ret
            rw [HVE.out, HCE.out]
            exact ⟨rfl, _, FIN9.out⟩
        · have hr0 : ((r.length : Int) == 0) = false := by
            rw [beq_eq_false_iff_ne]; intro e; apply hre; exact List.eq_nil_of_length_eq_zero (by omega)
          have hcE : c2 = patchAll s1.code s1.code.length (b.wait) := by
            rw [HC2.out, hb2]
            cases r with
            | nil => exact absurd rfl hre
            | cons x xs => simp
          have HVE : Hid (v = _) := hvE
          have HCE : Hid (c2 = _) := hcE
          clear hvE hcE hre FC FH
          go_wp2
          go_ret
          rw [HVE.out, HCE.out]
          exact ⟨rfl, _, F9.out, S9.out⟩
  | some al =>
    rw [hb2] at hA
    obtain ⟨y1, y2, rfl, hy1, hy2⟩ := hA
    have hns : ∀ g, (Value.slice wa b.wait.length wc).ownBlock = some g → ¬ CkS bk { L with ls := L.ls.tail } g := by
      rintro g hg (rfl | h1 | h1 | h1 | ⟨i, x, hx, h1⟩)
      · exact owns_ne hw0 g1.here (by decide) hg
      · exact owns_apart hw0 g1.st (by decide) g hg (by rw [ownBlock_any]; exact h1)
      · exact owns_apart hw0 g1.opn (by decide) g hg (by rw [ownBlock_any]; exact h1)
      · exact owns_apart hw0 g1.code (by decide) g hg (by rw [ownBlock_any]; exact h1)
      · simp only [List.getElem?_tail] at hx
        exact g1.apart 0 (i + 1) _ x hl hx (by omega) g hg h1
    -- behind the copy and the reslice
    have fin3 : ∀ vo, vo = Value.slice L.oa r.length L.oc → (CkRep B ((((w1.setCell ⟨bk, 3, none⟩ vo).alloc (.cells #[sv b.res, sv b.carry, .int .i64 b.height, .int .i64 b.head, .bool b.dead, (Value.func (Fn.func 144) #[] #[Value.pointer (some ⟨y1, 0, none⟩), Value.pointer (some ⟨y2, 0, none⟩)]), .slice wa b.wait.length wc] 226)).drew).drew) bk fx { L with ls := L.ls.tail } { s1 with opn := r } ∧ CkStep w ((((w1.setCell ⟨bk, 3, none⟩ vo).alloc (.cells #[sv b.res, sv b.carry, .int .i64 b.height, .int .i64 b.head, .bool b.dead, (Value.func (Fn.func 144) #[] #[Value.pointer (some ⟨y1, 0, none⟩), Value.pointer (some ⟨y2, 0, none⟩)]), .slice wa b.wait.length wc] 226)).drew).drew) bk L { L with ls := L.ls.tail }) ∧
        Has ((((w1.setCell ⟨bk, 3, none⟩ vo).alloc (.cells #[sv b.res, sv b.carry, .int .i64 b.height, .int .i64 b.head, .bool b.dead, (Value.func (Fn.func 144) #[] #[Value.pointer (some ⟨y1, 0, none⟩), Value.pointer (some ⟨y2, 0, none⟩)]), .slice wa b.wait.length wc] 226)).drew).drew) w1.heap.size #[sv b.res, sv b.carry, .int .i64 b.height, .int .i64 b.head, .bool b.dead, (Value.func (Fn.func 144) #[] #[Value.pointer (some ⟨y1, 0, none⟩), Value.pointer (some ⟨y2, 0, none⟩)]), .slice wa b.wait.length wc] 226 ∧
        HolesAt ((((w1.setCell ⟨bk, 3, none⟩ vo).alloc (.cells #[sv b.res, sv b.carry, .int .i64 b.height, .int .i64 b.head, .bool b.dead, (Value.func (Fn.func 144) #[] #[Value.pointer (some ⟨y1, 0, none⟩), Value.pointer (some ⟨y2, 0, none⟩)]), .slice wa b.wait.length wc] 226)).drew).drew) bk (.slice wa b.wait.length wc) b.wait hvs ∧ AltV ((((w1.setCell ⟨bk, 3, none⟩ vo).alloc (.cells #[sv b.res, sv b.carry, .int .i64 b.height, .int .i64 b.head, .bool b.dead, (Value.func (Fn.func 144) #[] #[Value.pointer (some ⟨y1, 0, none⟩), Value.pointer (some ⟨y2, 0, none⟩)]), .slice wa b.wait.length wc] 226)).drew).drew) bk (Value.func (Fn.func 144) #[] #[Value.pointer (some ⟨y1, 0, none⟩), Value.pointer (some ⟨y2, 0, none⟩)]) (some al) := by
      rintro vo rfl
      have x1 := g1.popOpn ht1.opn
      have F1 : Fr (fun k => k = bk) w1 ((((w1.setCell ⟨bk, 3, none⟩ (.slice L.oa r.length L.oc)).alloc (.cells #[sv b.res, sv b.carry, .int .i64 b.height, .int .i64 b.head, .bool b.dead, (Value.func (Fn.func 144) #[] #[Value.pointer (some ⟨y1, 0, none⟩), Value.pointer (some ⟨y2, 0, none⟩)]), .slice wa b.wait.length wc] 226)).drew).drew) := (((Fr.setCell (S := fun k => k = bk) (Fr.refl _ _) (p := ⟨bk, 3, none⟩) (.inl rfl) _).alloc _).drew).drew
      have knd : ∀ k cs T, Has w1 k cs T → k = bk → T ≠ 189 ∧ T ≠ 3 := by
        rintro k cs T hk rfl
        have := hk.symm.trans g1.here
        simp at this
        rw [this.2]; decide
      have hole : ∀ {u : Value} {a : Nat}, HoleV w1 bk u a → HoleV ((((w1.setCell ⟨bk, 3, none⟩ (.slice L.oa r.length L.oc)).alloc (.cells #[sv b.res, sv b.carry, .int .i64 b.height, .int .i64 b.head, .bool b.dead, (Value.func (Fn.func 144) #[] #[Value.pointer (some ⟨y1, 0, none⟩), Value.pointer (some ⟨y2, 0, none⟩)]), .slice wa b.wait.length wc] 226)).drew).drew) bk u a := fun hu => hu.fr F1 knd
      refine ⟨⟨((x1.1.alloc _).drew).drew, g2.trans (((x1.2.alloc _).drew).drew)⟩, ?_, ⟨?_, ?_⟩, ?_⟩
      · have := Has.new (w1.setCell ⟨bk, 3, none⟩ (.slice L.oa r.length L.oc)) #[sv b.res, sv b.carry, .int .i64 b.height, .int .i64 b.head, .bool b.dead, (Value.func (Fn.func 144) #[] #[Value.pointer (some ⟨y1, 0, none⟩), Value.pointer (some ⟨y2, 0, none⟩)]), .slice wa b.wait.length wc] 226
        have hsz : (w1.setCell ⟨bk, 3, none⟩ (.slice L.oa r.length L.oc)).heap.size = w1.heap.size := by simp [World.setCell]
        rw [hsz] at this
        exact this.drew.drew
      · exact owns_fr hw0 F1 (fun g hg e => by subst e; exact owns_ne hw0 g1.here (by decide) hg)
      · exact fun i u a hi ha => hole (hh0 i u a hi ha)
      · exact hole ⟨y1, y2, rfl, hy1, hy2⟩
    have hnb : ¬ CkS bk { L with ls := L.ls.tail } w1.heap.size := by
      rintro (h1 | h1 | h1 | h1 | ⟨i, x, hx, h1⟩)
      · omega
      · exact g1.new (Nat.le_refl _) (.inr (.inl h1))
      · exact g1.new (Nat.le_refl _) (.inr (.inr (.inl h1)))
      · exact g1.new (Nat.le_refl _) (.inr (.inr (.inr (.inl h1))))
      · simp only [List.getElem?_tail] at hx
        exact g1.new (Nat.le_refl _) (.inr (.inr (.inr (.inr ⟨i + 1, x, hx, h1⟩))))
    have FIN3 : Hid (∀ vo : Value, _) := fin3
    have HNS : Hid (∀ g, (Value.slice wa b.wait.length wc).ownBlock = some g → ¬ CkS bk { L with ls := L.ls.tail } g) := hns
    have HNB : Hid (¬ CkS bk { L with ls := L.ls.tail } w1.heap.size) := hnb
    have HVO : Hid (Value.slice (some ⟨go, 0, none⟩) r.length L.oc = .slice L.oa r.length L.oc) := by show _ = _; rw [ha]
    have HL0 : Hid (L.ls[0]? = some _) := hl
    have HSZ : Hid (w.heap.size ≤ w1.heap.size) := g2.fr.size
    clear fin3 hns hnb g1 g2 hy1 hy2 hw0 hh0 hcl hf ha hl
    have hzb := zeroBlk
    have hnq : ∀ w, (binOp BinOp.neq 221 .nilFunc .nilFunc).run Tryz.prog w = .ok (.bool false) w := fun _ => by kernel_rfl
    have hnq1 : ∀ w x y, (binOp BinOp.neq 221 (.func (.func 144) #[] #[x, y]) .nilFunc).run Tryz.prog w = .ok (.bool true) w := fun _ _ _ => by kernel_rfl
    have hb1 : bk < w1.heap.size + 1 := by omega
    go_wp2
    refine wp_region_head 12 1 (fun x => x = w1.drew ∨ x = (w1.alloc (.cells #[.string ⟨#[]⟩, .string ⟨#[]⟩, .int .i64 0, .int .i64 0, .bool false, .nilFunc, .slice none 0 0] 226)).drew) (by kernel_rfl) (by kernel_rfl) (fun _ _ _ _ _ h => h) (.inl rfl) ?_
    simp only [List.take_succ_cons, List.take_zero, List.drop_succ_cons, List.drop_zero]
    repeat go_big_quiet_step (fail)
    refine wpQuiet_nil ?_
    unfold wpChain
    go_wp2
    refine ⟨by simp, ?_⟩
    rw [wpChain_zero]
    go_wp2
    refine wp_region_tail 12 (by kernel_rfl) (by kernel_rfl) (fun _ _ _ _ _ h => h) ?_
    simp only [List.take_succ_cons, List.take_zero, List.drop_succ_cons, List.drop_zero]
    repeat go_big_quiet_step (fail)
    refine wpQuiet_nil ?_
    obtain ⟨⟨r3, st3⟩, kl, hh, hA3⟩ := FIN3.out _ HVO.out
    have hB0 : Has ((((((w1.setCell ⟨bk, 3, none⟩ (.slice (some ⟨go, 0, none⟩) r.length L.oc)).alloc (.cells #[sv b.res, sv b.carry, .int .i64 b.height, .int .i64 b.head, .bool b.dead, (Value.func (Fn.func 144) #[] #[Value.pointer (some ⟨y1, 0, none⟩), Value.pointer (some ⟨y2, 0, none⟩)]), .slice wa b.wait.length wc] 226))).alloc (.cells #[(Value.func (Fn.func 144) #[] #[Value.pointer (some ⟨y1, 0, none⟩), Value.pointer (some ⟨y2, 0, none⟩)])] 221)).drew).drew) (w1.heap.size + 1) #[(Value.func (Fn.func 144) #[] #[Value.pointer (some ⟨y1, 0, none⟩), Value.pointer (some ⟨y2, 0, none⟩)])] 221 := by
      have := (Has.new ((w1.setCell ⟨bk, 3, none⟩ (.slice (some ⟨go, 0, none⟩) r.length L.oc)).alloc (.cells #[sv b.res, sv b.carry, .int .i64 b.height, .int .i64 b.head, .bool b.dead, (Value.func (Fn.func 144) #[] #[Value.pointer (some ⟨y1, 0, none⟩), Value.pointer (some ⟨y2, 0, none⟩)]), .slice wa b.wait.length wc] 226)) #[(Value.func (Fn.func 144) #[] #[Value.pointer (some ⟨y1, 0, none⟩), Value.pointer (some ⟨y2, 0, none⟩)])] 221).drew.drew
      simpa [World.setCell] using this
    have hrow : World.ownsRow ((((((w1.setCell ⟨bk, 3, none⟩ (.slice (some ⟨go, 0, none⟩) r.length L.oc)).alloc (.cells #[sv b.res, sv b.carry, .int .i64 b.height, .int .i64 b.head, .bool b.dead, (Value.func (Fn.func 144) #[] #[Value.pointer (some ⟨y1, 0, none⟩), Value.pointer (some ⟨y2, 0, none⟩)]), .slice wa b.wait.length wc] 226))).alloc (.cells #[(Value.func (Fn.func 144) #[] #[Value.pointer (some ⟨y1, 0, none⟩), Value.pointer (some ⟨y2, 0, none⟩)])] 221)).drew).drew) 0 221 1 (.slice wa b.wait.length wc) b.wait.length hvs := owns_drew (owns_drew (owns_alloc (w := ((w1.setCell ⟨bk, 3, none⟩ (.slice (some ⟨go, 0, none⟩) r.length L.oc)).alloc (.cells #[sv b.res, sv b.carry, .int .i64 b.height, .int .i64 b.head, .bool b.dead, (Value.func (Fn.func 144) #[] #[Value.pointer (some ⟨y1, 0, none⟩), Value.pointer (some ⟨y2, 0, none⟩)]), .slice wa b.wait.length wc] 226))) hh.row _))
    have FX : Fr (fun _ => False) (((((w1.setCell ⟨bk, 3, none⟩ (.slice (some ⟨go, 0, none⟩) r.length L.oc)).alloc (.cells #[sv b.res, sv b.carry, .int .i64 b.height, .int .i64 b.head, .bool b.dead, (Value.func (Fn.func 144) #[] #[Value.pointer (some ⟨y1, 0, none⟩), Value.pointer (some ⟨y2, 0, none⟩)]), .slice wa b.wait.length wc] 226))).drew).drew) ((((((w1.setCell ⟨bk, 3, none⟩ (.slice (some ⟨go, 0, none⟩) r.length L.oc)).alloc (.cells #[sv b.res, sv b.carry, .int .i64 b.height, .int .i64 b.head, .bool b.dead, (Value.func (Fn.func 144) #[] #[Value.pointer (some ⟨y1, 0, none⟩), Value.pointer (some ⟨y2, 0, none⟩)]), .slice wa b.wait.length wc] 226))).alloc (.cells #[(Value.func (Fn.func 144) #[] #[Value.pointer (some ⟨y1, 0, none⟩), Value.pointer (some ⟨y2, 0, none⟩)])] 221)).drew).drew) := ⟨rfl, rfl, rfl, by simp, fun k hk _ => Below.heap_alloc (((w1.setCell ⟨bk, 3, none⟩ (.slice (some ⟨go, 0, none⟩) r.length L.oc)).alloc (.cells #[sv b.res, sv b.carry, .int .i64 b.height, .int .i64 b.head, .bool b.dead, (Value.func (Fn.func 144) #[] #[Value.pointer (some ⟨y1, 0, none⟩), Value.pointer (some ⟨y2, 0, none⟩)]), .slice wa b.wait.length wc] 226))) _ k hk⟩
    have hnl : (Value.slice wa b.wait.length wc).ownBlock ≠ some w1.heap.size := owns_ne hh.row kl (by decide)
    go_wp2_with (at_builtin; go_must (refine wpList_app rowFunc _ rfl (.tmp 39) (.tmp 42) rfl _ _ _ rfl hrow _ [(Value.func (Fn.func 144) #[] #[Value.pointer (some ⟨y1, 0, none⟩), Value.pointer (some ⟨y2, 0, none⟩)])] rfl hB0 rfl ?one ?bd ?go))
    case one => simp [Value.oneCell']
    case bd => omega
    case go =>
      intro g cap w5 q1 q2 q3 q4
      have kl5 : Has w5 w1.heap.size _ _ := (kl.fr FX (fun h => h)).fr q2 hnl
      have j6 := kl5.cell 6
      have j0 := kl5.cell 0
      simp at j6 j0
      have jf6 := kl5.frozen 6
      have lt5 := kl5.lt
      obtain ⟨W5, hW5⟩ : ∃ W5, W5 = w5.setCell ⟨w1.heap.size, 6, none⟩ (.slice (some ⟨g, 0, none⟩) (b.wait.length + 1) cap) := ⟨_, rfl⟩
      have kl6 := kl5.put 6 (.slice (some ⟨g, 0, none⟩) (b.wait.length + 1) cap)
      rw [← hW5] at kl6
      simp at kl6
      have F5 : Fr (fun k => (Value.slice wa b.wait.length wc).ownBlock = some k ∨ k = w1.heap.size) (((((w1.setCell ⟨bk, 3, none⟩ (.slice (some ⟨go, 0, none⟩) r.length L.oc)).alloc (.cells #[sv b.res, sv b.carry, .int .i64 b.height, .int .i64 b.head, .bool b.dead, (Value.func (Fn.func 144) #[] #[Value.pointer (some ⟨y1, 0, none⟩), Value.pointer (some ⟨y2, 0, none⟩)]), .slice wa b.wait.length wc] 226))).drew).drew) W5 := by
        rw [hW5]
        exact (Fr.trans (S := fun k => (Value.slice wa b.wait.length wc).ownBlock = some k ∨ k = w1.heap.size) (FX.weaken (fun _ _ h => h.elim)) q2 (fun k _ hk => .inl hk)).setCell (p := ⟨w1.heap.size, 6, none⟩) (.inl (.inr rfl)) _
      have knd5 : ∀ k cs T, Has (((((w1.setCell ⟨bk, 3, none⟩ (.slice (some ⟨go, 0, none⟩) r.length L.oc)).alloc (.cells #[sv b.res, sv b.carry, .int .i64 b.height, .int .i64 b.head, .bool b.dead, (Value.func (Fn.func 144) #[] #[Value.pointer (some ⟨y1, 0, none⟩), Value.pointer (some ⟨y2, 0, none⟩)]), .slice wa b.wait.length wc] 226))).drew).drew) k cs T → ((Value.slice wa b.wait.length wc).ownBlock = some k ∨ k = w1.heap.size) → T ≠ 189 ∧ T ≠ 3 := by
        rintro k cs T hk (h1 | rfl)
        · rw [owns_type hh.row h1 hk]; decide
        · have := hk.symm.trans kl
          simp at this
          rw [this.2]; decide
      have r5 := r3.fr F5 (fun k hk hS => by
        rcases hS with hS | rfl
        · exact HNS.out k hS hk
        · exact HNB.out hk) knd5
      have hgb : (Value.slice (some ⟨g, 0, none⟩) (b.wait.length + 1) cap).ownBlock ≠ some w1.heap.size := owns_ne q1 kl5 (by decide)
      have hh5 : HolesAt W5 bk (.slice (some ⟨g, 0, none⟩) (b.wait.length + 1) cap) (b.wait ++ [al]) (hvs ++ [(Value.func (Fn.func 144) #[] #[Value.pointer (some ⟨y1, 0, none⟩), Value.pointer (some ⟨y2, 0, none⟩)])]) := by
        refine ⟨?_, ?_⟩
        · rw [hW5]
          have := owns_other q1 (p := ⟨w1.heap.size, 6, none⟩) hgb (.slice (some ⟨g, 0, none⟩) (b.wait.length + 1) cap)
          simpa using this
        · intro i u a hi ha
          have hvl : hvs.length = b.wait.length := by have := hh.row.1; omega
          by_cases hlt2 : i < b.wait.length
          · rw [List.getElem?_append_left (by omega)] at hi
            rw [List.getElem?_append_left hlt2] at ha
            exact (hh.hole i u a hi ha).fr F5 knd5
          · have hib : i = b.wait.length := by
              have := (List.getElem?_eq_some_iff.1 ha).1
              simp at this; omega
            subst hib
            rw [List.getElem?_append_right (by omega), hvl] at hi
            simp at hi ha
            subst hi; subst ha
            exact HoleV.fr hA3 F5 knd5
      have st5 : CkStep w W5 bk L { L with ls := L.ls.tail } := ⟨st3.fr.trans F5 (fun j hj hS => by
        rcases hS with hS | rfl
        · exact .inr (.inr (.inr (.inr ⟨0, _, HL0.out, hS⟩)))
        · have := HSZ.out; omega), st3.sub⟩
      have HNS5 : Hid (∀ k, (Value.slice (some ⟨g, 0, none⟩) (b.wait.length + 1) cap).ownBlock = some k → ¬ CkS bk { L with ls := L.ls.tail } k) := by
        intro k hk
        simp [Value.ownBlock] at hk
        subst hk
        rcases q3 with q3 | q3
        · exact HNS.out _ q3
        · refine r3.new (k := g) ?_
          rw [q3]
          simp [World.setCell]
      have R3 : Hid (CkRep B W5 bk fx _ _) := r5
      have ST3 : Hid (CkStep w W5 bk L _) := st5
      have KLH : Hid (Has W5 w1.heap.size _ _) := kl6
      have HH : Hid (HolesAt W5 bk _ _ _) := hh5
      rw [hW5] at R3 ST3 KLH HH
      clear r5 st5 kl6 hh5 hW5 W5 F5 knd5 hgb kl hh hA3 r3 st3 FIN3 hzb hnq hnq1 HNS FX hrow hB0 hnl q1 q2 q3 q4 kl5
      by_cases hre0 : b.res.isEmpty = true
      · go_wp2
        go_loopw [51] (fun t wr => ∃ i : Nat, i ≤ (b.wait ++ [al]).length ∧ t = .int .i64 i ∧ Hid (CkRep B wr bk fx { L with ls := L.ls.tail } { s1 with opn := r, code := patchAll s1.code s1.code.length ((b.wait ++ [al]).take i) }) ∧ Hid (CkStep w wr bk L { L with ls := L.ls.tail }) ∧ Hid (Has wr w1.heap.size #[sv b.res, sv b.carry, .int .i64 b.height, .int .i64 b.head, .bool b.dead, (Value.func (Fn.func 144) #[] #[Value.pointer (some ⟨y1, 0, none⟩), Value.pointer (some ⟨y2, 0, none⟩)]), (.slice (some ⟨g, 0, none⟩) (b.wait.length + 1) cap)] 226) ∧ Hid (HolesAt wr bk (.slice (some ⟨g, 0, none⟩) (b.wait.length + 1) cap) (b.wait ++ [al]) (hvs ++ [(Value.func (Fn.func 144) #[] #[Value.pointer (some ⟨y1, 0, none⟩), Value.pointer (some ⟨y2, 0, none⟩)])]))) (fun t _ => (b.wait ++ [al]).length - (intOf t).toNat)
        case atStart => exact ⟨0, Nat.zero_le _, rfl, R3.out, ST3.out, KLH.out, HH.out⟩
        case round =>
          obtain ⟨i, hi', rfl, G1, G2, G3, G4⟩ := hrel
          have PSL : Hid ((b.wait ++ [al]).length = (b.wait.length + 1)) := by show _ = _; simp
          have hil : i ≤ (b.wait.length + 1) := by have := PSL.out; omega
          by_cases hlt2 : i < (b.wait.length + 1)
          · -- a round
            have hip : i < (b.wait ++ [al]).length := by have := PSL.out; omega
            have hvl : (hvs ++ [(Value.func (Fn.func 144) #[] #[Value.pointer (some ⟨y1, 0, none⟩), Value.pointer (some ⟨y2, 0, none⟩)])]).length = (b.wait.length + 1) := by have := G4.out.row.1; have := PSL.out; omega
            obtain ⟨gw, hgw, hcw⟩ := owns_some (a := (some ⟨g, 0, none⟩)) (n := (b.wait.length + 1)) (cap := cap) (by have := G4.out.row; rw [PSL.out] at this; exact this) (by omega)
            have cw := hcw i (by omega)
            rw [List.getElem?_eq_getElem (by omega)] at cw
            obtain ⟨z1, z2, hz, hz1, hz2⟩ := G4.out.hole i (hvs ++ [(Value.func (Fn.func 144) #[] #[Value.pointer (some ⟨y1, 0, none⟩), Value.pointer (some ⟨y2, 0, none⟩)])])[i] (b.wait ++ [al])[i] (List.getElem?_eq_getElem (by omega)) (List.getElem?_eq_getElem hip)
            rw [hz] at cw
            have d4 := G1.out.here.cell 4
            simp [patchAll_len] at d4
            have hpi : (b.wait ++ [al])[i] < s1.code.length := HPS.out _ (by simp [hb2])
            have hcall2 := patch_any B bk fx _ _ wr G1.out z1 z2 (b.wait ++ [al])[i] s1.code.length hz1 hz2 (by simp only [patchAll_len]; exact hpi) (by simp only [patchAll_len]; omega)
            have HC2b : Hid (Calls Tryz.prog 144 _ _ _) := hcall2
            clear hcall2 hcw hz hz1 hz2 hpi
            obtain rfl : g = gw := by simpa using hgw
            go_wp2_with fail
            refine HC2b.out.mono ?_
            rintro e w2 ⟨rfl, g5, g6⟩
            have N1 : Hid (CkRep B w2 bk fx { L with ls := L.ls.tail } { s1 with opn := r, code := patchAll s1.code s1.code.length ((b.wait ++ [al]).take (i + 1)) }) := by
              show CkRep _ _ _ _ _ _
              rw [List.take_succ_eq_append_getElem hip, patchAll_snoc]; exact g5
            have N2 : Hid (CkStep w w2 bk L { L with ls := L.ls.tail }) := G2.out.trans g6
            have N3 : Hid (Has w2 w1.heap.size #[sv b.res, sv b.carry, .int .i64 b.height, .int .i64 b.head, .bool b.dead, (Value.func (Fn.func 144) #[] #[Value.pointer (some ⟨y1, 0, none⟩), Value.pointer (some ⟨y2, 0, none⟩)]), (.slice (some ⟨g, 0, none⟩) (b.wait.length + 1) cap)] 226) := g6.has G3.out HNB.out
            have N4 : Hid (HolesAt w2 bk (.slice (some ⟨g, 0, none⟩) (b.wait.length + 1) cap) (b.wait ++ [al]) (hvs ++ [(Value.func (Fn.func 144) #[] #[Value.pointer (some ⟨y1, 0, none⟩), Value.pointer (some ⟨y2, 0, none⟩)])])) := G4.out.step G1.out g6 HNS5.out
            clear g5 g6 G1 G2 G3 G4 HC2b
            go_wp2
            go_roundw
            case rel => exact ⟨i + 1, by omega, by go_num, N1, N2, N3, N4⟩
            case measure => simp [intOf]; have := PSL.out; simp at this; omega
          · -- behind the loop
            have hie : (b.wait ++ [al]).take i = (b.wait ++ [al]) := List.take_of_length_le (by have := PSL.out; omega)
            have G1' : CkRep B wr bk fx { L with ls := L.ls.tail } { s1 with opn := r, code := patchAll s1.code s1.code.length (b.wait ++ [al]) } := by have := G1.out; rw [hie] at this; exact this
            clear G1 hie G4
            have d2 := G1'.here.cell 2
            have dk := G3.out.cell 0
            simp at d2 dk
            have l1 := G1'.here.lt
            have hne := owns_ne G1'.st G1'.here (by decide)
            have hne1 : (Value.slice L.sa s1.st.length L.sc).ownBlock ≠ some w1.heap.size := fun e => HNB.out (.inr (.inl (by rw [ownBlock_any _ _ _ s1.st.length L.sc]; exact e)))
            go_wp2
            refine wp_region_appStr rowByte (by kernel_rfl) 7 (by kernel_rfl) (by kernel_rfl) (fun _ _ _ _ _ h => h) _ _ rfl (.tmp 69) (.tmp 67) 70 rfl rfl rfl _ _ _ G1'.st b.res (by simp only; omega) ?_
            intro sa sc w2 q1 q2 q3
            have kb' : Has w2 w1.heap.size _ _ := G3.out.fr q2 hne1
            have hH' : Has w2 bk _ _ := G1'.here.fr q2 hne
            have dk' := kb'.cell 0
            have d2' := hH'.cell 2
            simp at dk' d2'
            have f2' := hH'.frozen 2
            have hbs : (Value.slice sa (s1.st.length + b.res.length) sc).ownBlock ≠ some bk := owns_ne q1 hH' (by decide)
            have e9 : (b.res.reverse ++ s1.st).length = s1.st.length + b.res.length := by simp; omega
            have fin := G1'.putSt (b.res.reverse ++ s1.st) (w2 := w2.setCell ⟨bk, 2, none⟩ (.slice sa (s1.st.length + b.res.length) sc)) (sa2 := sa) (sc2 := sc)
              ((q2.weaken (S' := fun k => (CkL.stV { L with ls := L.ls.tail } { s1 with opn := r, code := patchAll s1.code s1.code.length (b.wait ++ [al]) }).ownBlock = some k ∨ k = bk) (fun _ _ => .inl)).setCell (p := ⟨bk, 2, none⟩) (.inl (.inr rfl)) _)
              (by rw [e9]; exact hH'.put 2 _)
              (by rw [e9]; refine owns_other ?_ hbs _; simpa [byteCells] using q1)
              (fun g hg => by rw [e9] at hg; exact q3 g hg)
            have F9 : Hid (CkRep B _ bk fx _ _) := fin.1
            have S9 : Hid (CkStep w _ bk L _) := G2.out.trans fin.2
            have n3 := hH'.cell 3
            have n4 := hH'.cell 4
            simp [patchAll_len] at n3 n4
            have l9 := hH'.lt
            have nf4 := hH'.frozen 4
            have FC := fin.1.code
            simp only [CkL.codeV, patchAll_len] at FC
            have FH := fin.1.here
            clear fin q1 q2 q3 kb' hH' hbs G1' G2 G3 hne hne1 e9
            simp only [List.take_succ_cons, List.take_zero]
            repeat go_big_quiet_step (fail)
            refine wpQuiet_nil ⟨rfl, rfl, ?_⟩
            have hvE : v = er := by rw [HV.out, hb2]; simp [hre0]
            by_cases hre : r = []
            · have hr0 : r.length = 0 := by rw [hre]; rfl
              rw [hr0] at n3
              have hcE : c2 = patchAll s1.code s1.code.length ((b.wait ++ [al])) ++ [{ op := 5, imm := 0, keep := 0, cut := 0 }] := by rw [HC2.out, hb2, hre]; simp
              have HVE : Hid (v = _) := hvE
              have HCE : Hid (c2 = _) := hcE
              clear hvE hcE hre hr0
              have hne := owns_ne FC FH (by decide)
              go_wp2_with (at_builtin; go_must (refine wpList_app rowFlat _ rfl (.tmp 83) (.tmp 85) rfl _ _ _ rfl (owns_alloc FC _) _ [.int .i64 5, .int .i64 0, .int .i64 0, .int .i64 0] rfl (Has.newSet _ _ _ _ _) rfl ?one ?bd ?go))
              case one => simp [Value.oneCell']
              case bd => omega
              case go =>
                intro g9 cap9 w5 q1 q2 q3 q4
                have hH5 : Has w5 bk _ _ := (FH.alloc _).fr q2 hne
                have t4 := hH5.cell 4
                simp [patchAll_len] at t4
                have tf4 := hH5.frozen 4
                obtain ⟨n1, n2, n3', n4', n5⟩ := app_net FH hne q2 q1 (by decide) (by simpa [World.setCell] using q3) q4 4
                have fin9 := F9.out.putCode (patchAll s1.code s1.code.length ((b.wait ++ [al])) ++ [{ op := 5, imm := 0, keep := 0, cut := 0 }]) (ca2 := some ⟨g9, 0, none⟩) (cc2 := cap9) (by simpa [CkL.codeV, patchAll_len] using n1) (by simpa [patchAll_len] using n2) (by rw [flatCells_snoc]; simpa [Flat.cells, patchAll_len] using n3') (fun k hk => by simp [Value.ownBlock] at hk; subst hk; simpa [CkL.codeV, patchAll_len, World.setCell] using n4')
                have FIN9 : Hid (_ ∧ _) := And.intro fin9.1 (S9.out.trans fin9.2)
                clear fin9 n1 n2 n3' n4' n5 q1 q2 q3 q4 hH5 F9 S9 FC FH hne
                go_wp2
                go_ret
                rw [HVE.out, HCE.out]
                exact ⟨rfl, _, FIN9.out⟩
            · have hr0 : ((r.length : Int) == 0) = false := by
                rw [beq_eq_false_iff_ne]; intro e; apply hre; exact List.eq_nil_of_length_eq_zero (by omega)
              have hcE : c2 = patchAll s1.code s1.code.length ((b.wait ++ [al])) := by
                rw [HC2.out, hb2]
                cases r with
                | nil => exact absurd rfl hre
                | cons x xs => simp
              have HVE : Hid (v = _) := hvE
              have HCE : Hid (c2 = _) := hcE
              clear hvE hcE hre FC FH
              go_wp2
              go_ret
              rw [HVE.out, HCE.out]
              exact ⟨rfl, _, F9.out, S9.out⟩
      · rw [Bool.not_eq_true] at hre0
        go_wp2
        go_loopw [51] (fun t wr => ∃ i : Nat, i ≤ (b.wait ++ [al]).length ∧ t = .int .i64 i ∧ Hid (CkRep B wr bk fx { L with ls := L.ls.tail } { s1 with opn := r, code := patchAll s1.code s1.code.length ((b.wait ++ [al]).take i) }) ∧ Hid (CkStep w wr bk L { L with ls := L.ls.tail }) ∧ Hid (Has wr w1.heap.size #[sv b.res, sv b.carry, .int .i64 b.height, .int .i64 b.head, .bool b.dead, (Value.func (Fn.func 144) #[] #[Value.pointer (some ⟨y1, 0, none⟩), Value.pointer (some ⟨y2, 0, none⟩)]), (.slice (some ⟨g, 0, none⟩) (b.wait.length + 1) cap)] 226) ∧ Hid (HolesAt wr bk (.slice (some ⟨g, 0, none⟩) (b.wait.length + 1) cap) (b.wait ++ [al]) (hvs ++ [(Value.func (Fn.func 144) #[] #[Value.pointer (some ⟨y1, 0, none⟩), Value.pointer (some ⟨y2, 0, none⟩)])]))) (fun t _ => (b.wait ++ [al]).length - (intOf t).toNat)
        case atStart => exact ⟨0, Nat.zero_le _, rfl, R3.out, ST3.out, KLH.out, HH.out⟩
        case round =>
          obtain ⟨i, hi', rfl, G1, G2, G3, G4⟩ := hrel
          have PSL : Hid ((b.wait ++ [al]).length = (b.wait.length + 1)) := by show _ = _; simp
          have hil : i ≤ (b.wait.length + 1) := by have := PSL.out; omega
          by_cases hlt2 : i < (b.wait.length + 1)
          · -- a round
            have hip : i < (b.wait ++ [al]).length := by have := PSL.out; omega
            have hvl : (hvs ++ [(Value.func (Fn.func 144) #[] #[Value.pointer (some ⟨y1, 0, none⟩), Value.pointer (some ⟨y2, 0, none⟩)])]).length = (b.wait.length + 1) := by have := G4.out.row.1; have := PSL.out; omega
            obtain ⟨gw, hgw, hcw⟩ := owns_some (a := (some ⟨g, 0, none⟩)) (n := (b.wait.length + 1)) (cap := cap) (by have := G4.out.row; rw [PSL.out] at this; exact this) (by omega)
            have cw := hcw i (by omega)
            rw [List.getElem?_eq_getElem (by omega)] at cw
            obtain ⟨z1, z2, hz, hz1, hz2⟩ := G4.out.hole i (hvs ++ [(Value.func (Fn.func 144) #[] #[Value.pointer (some ⟨y1, 0, none⟩), Value.pointer (some ⟨y2, 0, none⟩)])])[i] (b.wait ++ [al])[i] (List.getElem?_eq_getElem (by omega)) (List.getElem?_eq_getElem hip)
            rw [hz] at cw
            have d4 := G1.out.here.cell 4
            simp [patchAll_len] at d4
            have hpi : (b.wait ++ [al])[i] < s1.code.length := HPS.out _ (by simp [hb2])
            have hcall2 := patch_any B bk fx _ _ wr G1.out z1 z2 (b.wait ++ [al])[i] s1.code.length hz1 hz2 (by simp only [patchAll_len]; exact hpi) (by simp only [patchAll_len]; omega)
            have HC2b : Hid (Calls Tryz.prog 144 _ _ _) := hcall2
            clear hcall2 hcw hz hz1 hz2 hpi
            obtain rfl : g = gw := by simpa using hgw
            go_wp2_with fail
            refine HC2b.out.mono ?_
            rintro e w2 ⟨rfl, g5, g6⟩
            have N1 : Hid (CkRep B w2 bk fx { L with ls := L.ls.tail } { s1 with opn := r, code := patchAll s1.code s1.code.length ((b.wait ++ [al]).take (i + 1)) }) := by
              show CkRep _ _ _ _ _ _
              rw [List.take_succ_eq_append_getElem hip, patchAll_snoc]; exact g5
            have N2 : Hid (CkStep w w2 bk L { L with ls := L.ls.tail }) := G2.out.trans g6
            have N3 : Hid (Has w2 w1.heap.size #[sv b.res, sv b.carry, .int .i64 b.height, .int .i64 b.head, .bool b.dead, (Value.func (Fn.func 144) #[] #[Value.pointer (some ⟨y1, 0, none⟩), Value.pointer (some ⟨y2, 0, none⟩)]), (.slice (some ⟨g, 0, none⟩) (b.wait.length + 1) cap)] 226) := g6.has G3.out HNB.out
            have N4 : Hid (HolesAt w2 bk (.slice (some ⟨g, 0, none⟩) (b.wait.length + 1) cap) (b.wait ++ [al]) (hvs ++ [(Value.func (Fn.func 144) #[] #[Value.pointer (some ⟨y1, 0, none⟩), Value.pointer (some ⟨y2, 0, none⟩)])])) := G4.out.step G1.out g6 HNS5.out
            clear g5 g6 G1 G2 G3 G4 HC2b
            go_wp2
            go_roundw
            case rel => exact ⟨i + 1, by omega, by go_num, N1, N2, N3, N4⟩
            case measure => simp [intOf]; have := PSL.out; simp at this; omega
          · -- behind the loop
            have hie : (b.wait ++ [al]).take i = (b.wait ++ [al]) := List.take_of_length_le (by have := PSL.out; omega)
            have G1' : CkRep B wr bk fx { L with ls := L.ls.tail } { s1 with opn := r, code := patchAll s1.code s1.code.length (b.wait ++ [al]) } := by have := G1.out; rw [hie] at this; exact this
            clear G1 hie G4
            have d2 := G1'.here.cell 2
            have dk := G3.out.cell 0
            simp at d2 dk
            have l1 := G1'.here.lt
            have hne := owns_ne G1'.st G1'.here (by decide)
            have hne1 : (Value.slice L.sa s1.st.length L.sc).ownBlock ≠ some w1.heap.size := fun e => HNB.out (.inr (.inl (by rw [ownBlock_any _ _ _ s1.st.length L.sc]; exact e)))
            go_wp2
            refine wp_region_appStr rowByte (by kernel_rfl) 7 (by kernel_rfl) (by kernel_rfl) (fun _ _ _ _ _ h => h) _ _ rfl (.tmp 69) (.tmp 67) 70 rfl rfl rfl _ _ _ G1'.st b.res (by simp only; omega) ?_
            intro sa sc w2 q1 q2 q3
            have kb' : Has w2 w1.heap.size _ _ := G3.out.fr q2 hne1
            have hH' : Has w2 bk _ _ := G1'.here.fr q2 hne
            have dk' := kb'.cell 0
            have d2' := hH'.cell 2
            simp at dk' d2'
            have f2' := hH'.frozen 2
            have hbs : (Value.slice sa (s1.st.length + b.res.length) sc).ownBlock ≠ some bk := owns_ne q1 hH' (by decide)
            have e9 : (b.res.reverse ++ s1.st).length = s1.st.length + b.res.length := by simp; omega
            have fin := G1'.putSt (b.res.reverse ++ s1.st) (w2 := w2.setCell ⟨bk, 2, none⟩ (.slice sa (s1.st.length + b.res.length) sc)) (sa2 := sa) (sc2 := sc)
              ((q2.weaken (S' := fun k => (CkL.stV { L with ls := L.ls.tail } { s1 with opn := r, code := patchAll s1.code s1.code.length (b.wait ++ [al]) }).ownBlock = some k ∨ k = bk) (fun _ _ => .inl)).setCell (p := ⟨bk, 2, none⟩) (.inl (.inr rfl)) _)
              (by rw [e9]; exact hH'.put 2 _)
              (by rw [e9]; refine owns_other ?_ hbs _; simpa [byteCells] using q1)
              (fun g hg => by rw [e9] at hg; exact q3 g hg)
            have F9 : Hid (CkRep B _ bk fx _ _) := fin.1
            have S9 : Hid (CkStep w _ bk L _) := G2.out.trans fin.2
            have n3 := hH'.cell 3
            have n4 := hH'.cell 4
            simp [patchAll_len] at n3 n4
            have l9 := hH'.lt
            have nf4 := hH'.frozen 4
            have FC := fin.1.code
            simp only [CkL.codeV, patchAll_len] at FC
            have FH := fin.1.here
            clear fin q1 q2 q3 kb' hH' hbs G1' G2 G3 hne hne1 e9
            simp only [List.take_succ_cons, List.take_zero]
            repeat go_big_quiet_step (fail)
            refine wpQuiet_nil ⟨rfl, rfl, ?_⟩
            have hvE : v = 6 := by rw [HV.out, hb2]; simp [hre0]
            by_cases hre : r = []
            · have hr0 : r.length = 0 := by rw [hre]; rfl
              rw [hr0] at n3
              have hcE : c2 = patchAll s1.code s1.code.length ((b.wait ++ [al])) ++ [{ op := 5, imm := 0, keep := 0, cut := 0 }] := by rw [HC2.out, hb2, hre]; simp
              have HVE : Hid (v = _) := hvE
              have HCE : Hid (c2 = _) := hcE
              clear hvE hcE hre hr0
              have hne := owns_ne FC FH (by decide)
              go_wp2_with (at_builtin; go_must (refine wpList_app rowFlat _ rfl (.tmp 83) (.tmp 85) rfl _ _ _ rfl (owns_alloc FC _) _ [.int .i64 5, .int .i64 0, .int .i64 0, .int .i64 0] rfl (Has.newSet _ _ _ _ _) rfl ?one ?bd ?go))
              case one => simp [Value.oneCell']
              case bd => omega
              case go =>
                intro g9 cap9 w5 q1 q2 q3 q4
                have hH5 : Has w5 bk _ _ := (FH.alloc _).fr q2 hne
                have t4 := hH5.cell 4
                simp [patchAll_len] at t4
                have tf4 := hH5.frozen 4
                obtain ⟨n1, n2, n3', n4', n5⟩ := app_net FH hne q2 q1 (by decide) (by simpa [World.setCell] using q3) q4 4
                have fin9 := F9.out.putCode (patchAll s1.code s1.code.length ((b.wait ++ [al])) ++ [{ op := 5, imm := 0, keep := 0, cut := 0 }]) (ca2 := some ⟨g9, 0, none⟩) (cc2 := cap9) (by simpa [CkL.codeV, patchAll_len] using n1) (by simpa [patchAll_len] using n2) (by rw [flatCells_snoc]; simpa [Flat.cells, patchAll_len] using n3') (fun k hk => by simp [Value.ownBlock] at hk; subst hk; simpa [CkL.codeV, patchAll_len, World.setCell] using n4')
                have FIN9 : Hid (_ ∧ _) := And.intro fin9.1 (S9.out.trans fin9.2)
                clear fin9 n1 n2 n3' n4' n5 q1 q2 q3 q4 hH5 F9 S9 FC FH hne
                go_wp2
                go_ret
                rw [HVE.out, HCE.out]
                exact ⟨rfl, _, FIN9.out⟩
            · have hr0 : ((r.length : Int) == 0) = false := by
                rw [beq_eq_false_iff_ne]; intro e; apply hre; exact List.eq_nil_of_length_eq_zero (by omega)
              have hcE : c2 = patchAll s1.code s1.code.length ((b.wait ++ [al])) := by
                rw [HC2.out, hb2]
                cases r with
                | nil => exact absurd rfl hre
                | cons x xs => simp
              have HVE : Hid (v = _) := hvE
              have HCE : Hid (c2 = _) := hcE
              clear hvE hcE hre FC FH
              go_wp2
              go_ret
              rw [HVE.out, HCE.out]
              exact ⟨rfl, _, F9.out, S9.out⟩
end Go.Proofs.Qxb6500575aGreatDoor
