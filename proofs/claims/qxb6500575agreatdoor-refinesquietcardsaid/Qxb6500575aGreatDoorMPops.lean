/-
  THE WALKS of prepm.chk: pops, swap, dead, closes.
-/
import Derived.Test.Qxb6500575aGreatDoorMPop
namespace Go.Proofs.Qxb6500575aGreatDoor
open Go Go.RowKit
set_option linter.unusedVariables false
set_option linter.unusedSimpArgs false

/-- the model's stack, popped by the real checker's plain function -/
theorem Mk.pops_from (s sk : Mk) (hcs : sk.cs = s.cs) (hcode : sk.code = s.code) {l : List UInt8} {q : Ck × Int} (h : s.ck.pops l = q) (hq : q.1.st = sk.st) : (s.pops l).1 = sk := by
  unfold Mk.pops
  rw [h]
  obtain ⟨a, b, c⟩ := sk
  obtain ⟨a', b', c'⟩ := s
  simp at hcs hcode hq
  subst hcs; subst hcode; subst hq
  rfl

set_option maxHeartbeats 1000000 in
theorem mpops_any (bk : Nat) (L : MkL) (s : Mk) (types : List UInt8) (w : World) (h : MkRep w bk L s) {c : Ctl} {r : List Ctl} (ht : s.Top c r) (hr : r.length ≤ 1000) (hs : s.st.length ≤ 1000) (hty : types.length ≤ 1000) :
    Calls Tryz.prog 75 #[.pointer (some ⟨bk, 0, none⟩), sv types] w fun e w' => e = .returned (.bool (s.pops types).2) ∧ MkRep w' bk L (s.pops types).1 ∧ MkStep w w' bk L L := by
  go_enter Tryz.func75, Tryz.ntmps75
  go_wp2
  go_loopw [5] (fun i wr => ∃ (k : Nat) (sk : Mk), k ≤ types.length ∧ i = .int .i64 ((k : Int) - 1) ∧ Hid (MkRep wr bk L sk) ∧ Hid (MkStep w wr bk L L) ∧ Hid (sk.Top c r) ∧ sk.st.length ≤ 1000 ∧ Hid (sk.cs = s.cs ∧ sk.code = s.code ∧ s.ck.pops types = Ck.popsR (types.take k).reverse sk.ck)) (fun i _ => (intOf i + 1).toNat)
  case atStart => exact ⟨types.length, s, Nat.le_refl _, rfl, h, MkStep.refl _ _ _, ht, hs, ⟨rfl, rfl, by rw [List.take_length]; rfl⟩⟩
  case round =>
    obtain ⟨k, sk, hk, rfl, H1, H2, H3, hsk, H4⟩ := hrel
    cases k with
    | zero =>
      go_wp2
      go_ret
      obtain ⟨e1, e2, e3⟩ := H4.out
      have e0 : (s.pops types).1 = sk := Mk.pops_from s sk e1 e2 e3 rfl
      have e4 : (s.pops types).2 = true := by unfold Mk.pops; rw [e3]; rfl
      rw [e0, e4]
      exact ⟨rfl, H1.out, H2.out⟩
    | succ k =>
      have hlt : k < types.length := by omega
      obtain ⟨e1, e2, e3⟩ := H4.out
      rw [popsR_take types k hlt] at e3
      have E1 : Hid (sk.cs = s.cs ∧ sk.code = s.code ∧ _) := ⟨e1, e2, e3⟩
      clear e1 e2 e3 H4
      go_wp2_with fail
      refine (mpop_any bk L sk types[k] wr H1.out H3.out hr hsk).mono ?_
      rintro e w1 ⟨rfl, g1, g2⟩
      have G1 : Hid (MkRep w1 bk L (sk.pop types[k]).1) := g1
      have G2 : Hid (MkStep w w1 bk L L) := H2.out.trans g2
      have G3 : Hid ((sk.pop types[k]).1.Top c r) := Mk.pop_top H3.out _
      have hl2 := sk.pop_len2 types[k]
      have hckp : (sk.pop types[k]).1.ck = (sk.ck.pop types[k]).1 := by
        have h1 := sk.ck.pop_opn types[k]
        have h2 := sk.ck.pop_code types[k]
        show Ck.mk (sk.ck.pop types[k]).1.st sk.ck.opn sk.ck.code = _
        rw [← h1, ← h2]
      have HCK : Hid ((sk.pop types[k]).1.ck = (sk.ck.pop types[k]).1) := hckp
      clear g1 g2 H1 H2 H3 hckp
      cases hok : (sk.pop types[k]).2.2 with
      | true =>
        have E2 : Hid ((sk.pop types[k]).1.cs = s.cs ∧ (sk.pop types[k]).1.code = s.code ∧ s.ck.pops types = Ck.popsR (types.take k).reverse (sk.pop types[k]).1.ck) := by
          obtain ⟨e1, e2, e3⟩ := E1.out
          refine ⟨e1, e2, ?_⟩
          have hok2 : (sk.ck.pop types[k]).2.2 = true := hok
          rw [if_pos hok2] at e3
          rw [HCK.out]; exact e3
        clear E1
        go_wp2
        go_roundw
        case rel => exact ⟨k, (sk.pop types[k]).1, by omega, by go_num, G1, G2, G3, by omega, E2⟩
        case measure => simp [intOf]
      | false =>
        have E2 : Hid ((s.pops types).1 = (sk.pop types[k]).1 ∧ (s.pops types).2 = false) := by
          obtain ⟨e1, e2, e3⟩ := E1.out
          have hok2 : ¬ (sk.ck.pop types[k]).2.2 = true := by
            intro h
            have h2 : (sk.pop types[k]).2.2 = true := h
            rw [hok] at h2; cases h2
          rw [if_neg hok2] at e3
          refine ⟨Mk.pops_from s (sk.pop types[k]).1 e1 e2 e3 rfl, ?_⟩
          unfold Mk.pops; rw [e3]; rfl
        clear E1
        go_wp2
        go_ret
        rw [E2.out.1, E2.out.2]
        exact ⟨rfl, G1.out, G2.out⟩

set_option maxHeartbeats 1000000 in
theorem mswap_any (bk : Nat) (L : MkL) (s : Mk) (i o : List UInt8) (w : World) (h : MkRep w bk L s) {c : Ctl} {r : List Ctl} (ht : s.Top c r) (hr : r.length ≤ 1000) (hs : s.st.length ≤ 1000) (hi : i.length ≤ 1000) (ho : o.length ≤ 1000) :
    Calls Tryz.prog 83 #[.pointer (some ⟨bk, 0, none⟩), sv i, sv o] w fun e w' => ∃ sa sc, e = .returned (.bool (s.swap i o).2) ∧ MkRep w' bk { L with sa := sa, sc := sc } (s.swap i o).1 ∧ MkStep w w' bk L { L with sa := sa, sc := sc } := by
  go_enter Tryz.func83, Tryz.ntmps83
  go_wp2_with fail
  refine (mpops_any bk L s i w h ht hr hs hi).mono ?_
  rintro e w1 ⟨rfl, g1, g2⟩
  have hl := s.pops_len2 i
  have c0 := g1.here.cell 0
  simp at c0
  have f0 := g1.here.frozen 0
  go_wp2_with (at_builtin; refine wpList_appStr rowByte (by kernel_rfl) _ rfl (.tmp 15) (.tmp 16) rfl _ _ _ rfl g1.st o rfl (by omega) ?go)
  case go =>
    intro sa sc w2 q1 q2 q3
    have hne := owns_ne g1.st g1.here (by decide)
    have hH2 : Has w2 bk _ _ := g1.here.fr q2 hne
    have c0' := hH2.cell 0
    simp at c0'
    have f0' := hH2.frozen 0
    have hbs : (Value.slice sa ((s.pops i).1.st.length + o.length) sc).ownBlock ≠ some bk := owns_ne q1 hH2 (by decide)
    have fin := g1.putSt (o.reverse ++ (s.pops i).1.st) (w2 := w2.setCell ⟨bk, 0, none⟩ (.slice sa ((s.pops i).1.st.length + o.length) sc)) (sa2 := sa) (sc2 := sc)
      ((q2.weaken (S' := fun k => (L.stV (s.pops i).1).ownBlock = some k ∨ k = bk) (fun _ _ => .inl)).setCell (p := ⟨bk, 0, none⟩) (.inl (.inr rfl)) _)
      (by have := hH2.put 0 (.slice sa ((s.pops i).1.st.length + o.length) sc); rw [show (o.reverse ++ (s.pops i).1.st).length = (s.pops i).1.st.length + o.length by simp; omega]; exact this)
      (by
        rw [show (o.reverse ++ (s.pops i).1.st).length = (s.pops i).1.st.length + o.length by simp; omega]
        refine owns_other ?_ hbs _
        simpa [byteCells] using q1)
      (fun g hg => by
        rw [show (o.reverse ++ (s.pops i).1.st).length = (s.pops i).1.st.length + o.length by simp; omega] at hg
        exact q3 g hg)
    have FIN : Hid (_ ∧ _) := ⟨fin.1, g2.trans fin.2⟩
    clear fin q1 q2 q3 hne hH2 hbs g1 g2
    go_wp2
    go_ret
    exact ⟨sa, sc, rfl, FIN.out⟩

set_option maxHeartbeats 1000000 in
theorem mdead_any (bk : Nat) (L : MkL) (s : Mk) (w : World) (h : MkRep w bk L s) {c : Ctl} {r : List Ctl} (ht : s.Top c r) (hr : r.length ≤ 1000) (hs : s.st.length ≤ 1000) :
    Calls Tryz.prog 84 #[.pointer (some ⟨bk, 0, none⟩)] w fun e w' => e = .returned (.tuple #[]) ∧ MkRep w' bk L s.kill ∧ MkStep w w' bk L L := by
  have e0 : s.kill = { s with st := cut c.height s.st, cs := { c with dead := true } :: r } := by unfold Mk.kill; rw [ht.cs]
  rw [e0]
  clear e0
  obtain ⟨go, ha, hc, hf, hlt, hbo⟩ := h.at 0 (c := c) (by rw [ht.cs]; rfl)
  have hol : s.cs.length = r.length + 1 := by rw [ht.cs]; rfl
  have hml : s.cs.length - 1 - 0 = r.length := by omega
  have fin : ∀ n v, v = Value.slice L.sa c.height L.sc → MkRep (((w.drewN n).setCell ⟨bk, 0, none⟩ v).setCell ⟨go, r.length * 5 + 4, none⟩ (.bool true)) bk L { s with st := cut c.height s.st, cs := { c with dead := true } :: r } ∧
      MkStep w (((w.drewN n).setCell ⟨bk, 0, none⟩ v).setCell ⟨go, r.length * 5 + 4, none⟩ (.bool true)) bk L L := by
    rintro n v rfl
    have q1 := (h.drewN n).cutSt c.height ht.fl
    have q2 := q1.1.setTop 4 (c := c) (r := r) (go := go) ht.cs ha { c with dead := true } (.bool true) (by decide) rfl
    exact ⟨q2.1, ((MkStep.refl _ _ _).drewN n).trans (q1.2.trans q2.2)⟩
  have FIN : Hid (∀ n, _) := fin
  clear fin
  have c0 := h.here.cell 0
  have c1 := h.here.cell 1
  have hh := hc 2 (by omega)
  have hd := hc 4 (by omega)
  rw [hml] at hh hd
  rw [hol] at c1
  simp [ctlCells, ha] at c0 c1 hh hd
  have f0 := h.here.frozen 0
  have f4 := hf (r.length * 5 + 4)
  have hfl : c.height ≤ s.st.length := ht.fl
  rcases owns_form h.st with ⟨n1, n2, n3⟩ | ⟨gs, n1, n2⟩
  · have hb0 : c.height = 0 := by omega
    have HV : Hid (Value.slice none 0 0 = .slice L.sa c.height L.sc) := by show _ = _; rw [n1, n3, hb0]
    rw [n1, n2, n3] at c0
    rw [hb0] at hh
    clear hb0 hfl n1 n2 n3
    clear h hc hf ha ht
    go_enter Tryz.func84, Tryz.ntmps84
    go_wp2
    go_quiet (fail)
    go_wp2
    refine wp_region_tail 10 (by kernel_rfl) (by kernel_rfl) (fun _ _ _ _ _ h => h) ?_
    simp only [List.take_succ_cons, List.take_zero, List.drop_succ_cons, List.drop_zero]
    repeat go_big_quiet_step (fail)
    refine wpQuiet_nil ?_
    go_wp2
    go_end0
    exact ⟨rfl, FIN.out _ _ HV.out⟩
  · have HV : Hid (Value.slice (some ⟨gs, 0, none⟩) c.height L.sc = .slice L.sa c.height L.sc) := by show _ = _; rw [n1]
    rw [n1] at c0
    clear h hc hf ha ht
    go_enter Tryz.func84, Tryz.ntmps84
    go_wp2
    go_quiet (fail)
    go_wp2
    refine wp_region_tail 10 (by kernel_rfl) (by kernel_rfl) (fun _ _ _ _ _ h => h) ?_
    simp only [List.take_succ_cons, List.take_zero, List.drop_succ_cons, List.drop_zero]
    repeat go_big_quiet_step (fail)
    refine wpQuiet_nil ?_
    go_wp2
    go_end0
    exact ⟨rfl, FIN.out _ _ HV.out⟩

set_option maxRecDepth 100000 in
set_option maxHeartbeats 2000000 in
theorem mcloses_any (bk : Nat) (L : MkL) (s : Mk) (w : World) (h : MkRep w bk L s) {c : Ctl} {r : List Ctl} (ht : s.Top c r) (hr : r.length ≤ 1000) (hs : s.st.length ≤ 1000) (h0 : 0 ≤ c.bt) (h1 : c.bt ≤ 255) (hhm : c.height ≤ 1000) :
    Calls Tryz.prog 79 #[.pointer (some ⟨bk, 0, none⟩)] w fun e w' => e = .returned (.bool s.closes.2) ∧ MkRep w' bk L s.closes.1 ∧ MkStep w w' bk L L := by
  have e0 : s.closes = ((s.pops (resOf c.bt)).1, (s.pops (resOf c.bt)).2 && decide ((s.pops (resOf c.bt)).1.st.length = c.height)) := by
    unfold Mk.closes; rw [ht.cs]
  rw [e0]
  clear e0
  have hrl : (resOf c.bt).length ≤ 1000 := by unfold resOf; split <;> simp
  have hcall := fun w1 (h1 : MkRep w1 bk L s) => mpops_any bk L s (resOf c.bt) w1 h1 ht hr hs hrl
  generalize hp : s.pops (resOf c.bt) = p at *
  obtain ⟨s1, er⟩ := p
  have hps : s1.st.length ≤ 1000 := by have := s.pops_len2 (resOf c.bt); rw [hp] at this; simp at this; omega
  simp only at hcall ⊢
  obtain ⟨go, ha, hc, hf, hlt, hbo⟩ := h.at 0 (c := c) (by rw [ht.cs]; rfl)
  have hol : s.cs.length = r.length + 1 := by rw [ht.cs]; rfl
  have hml : s.cs.length - 1 - 0 = r.length := by omega
  have c1 := h.here.cell 1
  have k0 := hc 0 (by omega)
  have k1 := hc 1 (by omega)
  have k2 := hc 2 (by omega)
  have k3 := hc 3 (by omega)
  have k4 := hc 4 (by omega)
  rw [hml] at k0 k1 k2 k3 k4
  rw [hol] at c1
  simp [ctlCells, ha] at c1 k0 k1 k2 k3 k4
  have hb := h.here.lt
  have hb1 : bk < w.heap.size + 1 := by omega
  have hzb := zeroCtl
  have HC : Hid (∀ w1 (_ : MkRep w1 bk L s), _) := hcall
  have HK : Hid (∀ w, _) := fun w => kind_any c.bt w h0 h1
  have H : Hid (MkRep w bk L s) := h
  have HN : Hid (¬ MkS bk L w.heap.size) := h.new (Nat.le_refl _)
  clear hcall hc h hf ha hp hol hml ht
  go_enter Tryz.func79, Tryz.ntmps79
  go_wp2
  refine wp_region_head 12 1 (fun x => x = w.drew ∨ x = (w.alloc (.cells #[.int .i64 0, .int .i64 0, .int .i64 0, .int .i64 0, .bool false] 132)).drew) (by kernel_rfl) (by kernel_rfl) (fun _ _ _ _ _ h => h) (.inl rfl) ?_
  simp only [List.take_succ_cons, List.take_zero, List.drop_succ_cons, List.drop_zero]
  repeat go_big_quiet_step (fail)
  refine wpQuiet_nil ?_
  unfold wpChain
  go_wp2
  refine ⟨by simp, ?_⟩
  rw [wpChain_zero]
  go_wp2_with fail
  refine (HK.out _).mono ?_
  rintro e w2 ⟨rfl, hf2⟩
  have F2 : Fr (fun _ => False) w w2 := (((Fr.refl _ w).alloc _).drew).trans hf2 (fun _ _ h => h)
  have R2 : MkRep w2 bk L s := H.out.fr F2 (fun _ _ h => h)
  have S2 : MkStep w w2 bk L L := ⟨F2.weaken (fun _ _ h => h.elim), fun _ _ h => h⟩
  have C2 : Has w2 w.heap.size #[.int .i64 c.op, .int .i64 c.bt, .int .i64 c.height, .int .i64 c.at_, .bool c.dead] 132 := ((Has.new w _ _).drew).fr hf2 id
  have hsz := F2.size
  have HR2 : Hid (MkRep w2 bk L s) := R2
  have HS2 : Hid (MkStep w w2 bk L L) := S2
  have HC2 : Hid (Has w2 w.heap.size #[.int .i64 c.op, .int .i64 c.bt, .int .i64 c.height, .int .i64 c.at_, .bool c.dead] 132) := C2
  have hbw := C2.lt
  clear R2 S2 C2 F2 hf2 c1 k0 k1 k2 k3 k4 H hzb
  go_wp2_with fail
  refine (HC.out w2 HR2.out).mono ?_
  rintro e w3 ⟨rfl, g1, g2⟩
  have C3 : Has w3 w.heap.size #[.int .i64 c.op, .int .i64 c.bt, .int .i64 c.height, .int .i64 c.at_, .bool c.dead] 132 := HC2.out.fr g2.fr HN.out
  have c2 := C3.cell 2
  have d0 := g1.here.cell 0
  simp at c2 d0
  have hl3 := C3.lt
  have FIN : Hid (∀ n, MkRep (w3.drewN n) bk L s1 ∧ MkStep w (w3.drewN n) bk L L) := fun n => ⟨g1.drewN n, (HS2.out.trans g2).drewN n⟩
  clear g1 g2 C3 HS2 HR2 HC2 HC HK
  cases er with
  | false =>
    go_wp2
    go_quiet (fail)
    go_wp2
    go_ret
    exact ⟨rfl, FIN.out _⟩
  | true =>
    by_cases hq : s1.st.length = c.height
    · have e9 : (true && decide (s1.st.length = c.height)) = true := by simp [hq]
      have E9 : Hid (_ = true) := e9
      rw [← hq] at c2
      clear e9
      go_wp2
      go_quiet (fail)
      go_wp2
      go_ret
      exact ⟨by rw [E9.out]; rfl, FIN.out _⟩
    · have e9 : (true && decide (s1.st.length = c.height)) = false := by simp [hq]
      have E9 : Hid (_ = false) := e9
      have b9 : ((s1.st.length : Int) == (c.height : Int)) = false := beq_eq_false_iff_ne.2 (by omega)
      clear e9
      go_wp2
      go_quiet (fail)
      go_wp2
      go_ret
      exact ⟨by rw [E9.out]; rfl, FIN.out _⟩
end Go.Proofs.Qxb6500575aGreatDoor
