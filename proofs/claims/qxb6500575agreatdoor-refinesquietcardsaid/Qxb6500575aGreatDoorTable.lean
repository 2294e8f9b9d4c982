import Derived.Test.Qxb6500575aGreatDoorCall
import Derived.Test.Qxb6500575aGreatDoorCk3
namespace Go.Proofs.Qxb6500575aGreatDoor
open Go Go.RowKit
set_option linter.unusedVariables false
set_option linter.unusedSimpArgs false

/-- the same checker but for its code and for the holes that wait -/
structure Ck.Sim (s s' : Ck) (n : Nat) : Prop where
  st : s'.st = s.st
  len : s'.opn.length = s.opn.length
  code : s'.code.length = s.code.length + n
  at_ : ∀ (i : Nat) (b : Blk), s.opn[i]? = some b → ∃ b', s'.opn[i]? = some b' ∧ b'.res = b.res ∧ b'.carry = b.carry ∧ b'.height = b.height ∧ b'.head = b.head ∧ b'.dead = b.dead ∧ b'.alt = b.alt ∧ b'.wait.length ≤ b.wait.length + n
theorem Ck.Sim.refl (s : Ck) : s.Sim s 0 := ⟨rfl, rfl, rfl, fun _ b h => ⟨b, h, rfl, rfl, rfl, rfl, rfl, rfl, Nat.le_refl _⟩⟩
theorem Ck.Sim.trans {s s1 s2 : Ck} {n m : Nat} (h : s.Sim s1 n) (h' : s1.Sim s2 m) : s.Sim s2 (n + m) :=
  ⟨h'.st.trans h.st, h'.len.trans h.len, by rw [h'.code, h.code]; omega, fun i b hb => by
    obtain ⟨b1, h1, a1, a2, a3, a4, a5, a6, a7⟩ := h.at_ i b hb
    obtain ⟨b2, h2, c1, c2, c3, c4, c5, c6, c7⟩ := h'.at_ i b1 h1
    exact ⟨b2, h2, c1.trans a1, c2.trans a2, c3.trans a3, c4.trans a4, c5.trans a5, c6.trans a6, by omega⟩⟩
theorem Ck.jump_sim (s : Ck) (op : Int) (l : Nat) (h : l < s.opn.length) : s.Sim (s.jump op l).1 1 :=
  ⟨s.jump_st op l, s.jump_opn_len op l, s.jump_code_len op l h, fun i _ hb => s.jump_at op l i hb⟩
theorem Ck.Sim.top {s s1 : Ck} {n : Nat} (h : s.Sim s1 n) {b : Blk} {r : List Blk} (ht : s.Top b r) : ∃ b' r', s1.Top b' r' ∧ r'.length = r.length := by
  obtain ⟨b', hb', h1, _, h3, _⟩ := h.at_ 0 b (by rw [ht.opn]; rfl)
  have hlen := h.len
  cases ho : s1.opn with
  | nil => rw [ho] at hb'; simp at hb'
  | cons x xs =>
    rw [ho] at hb' hlen
    simp at hb'
    subst hb'
    refine ⟨x, xs, ⟨ho, ?_⟩, ?_⟩
    · rw [h.st, h3]; exact ht.fl
    · rw [ht.opn] at hlen; simpa using hlen

theorem CkRep.typIns {B : Nat} {w : World} {bk : Nat} {fx : CkF} {L : CkL} {s : Ck} (h : CkRep B w bk fx L s) {k : Nat} {cs : Array Value} (hk : Has w k cs 67) : ¬ CkS bk L k := by
  have key : ∀ {T : TypeId}, 67 = T → T ≠ 195 → T ≠ 5 → T ≠ 226 → T ≠ 176 → T ≠ 221 → ¬ CkS bk L k := by
    rintro T rfl a1 a2 a3 a4 a5 (rfl | h1 | h1 | h1 | ⟨i, l, hl, h1⟩)
    · have := hk.symm.trans h.here
      simp at this
    · exact a2 (owns_type h.st (by rw [ownBlock_any]; exact h1) hk)
    · exact a3 (owns_type h.opn (by rw [ownBlock_any]; exact h1) hk)
    · exact a4 (owns_type h.code (by rw [ownBlock_any]; exact h1) hk)
    · have hi : i < s.opn.length := by rw [← h.lsl]; exact (List.getElem?_eq_some_iff.1 hl).1
      obtain ⟨_, hv, h2, _⟩ := h.blk i s.opn[i] l (by simp [hi]) hl
      exact a5 (owns_type h2 h1 hk)
  exact key rfl (by decide) (by decide) (by decide) (by decide) (by decide)
theorem wrap_three (m t : Nat) (hm : m ≤ 10000) (ht : t ≤ 10000) : IntKind.i64.wrap (IntKind.i64.wrap ((m : Int) + 1 + (t : Int) - 1) - IntKind.i64.wrap (t : Int)) = m := by
  rw [IntWalk.i64_in ((m : Int) + 1 + (t : Int) - 1) (by omega), IntWalk.i64_in (t : Int) (by omega), IntWalk.i64_in _ (by omega)]
  omega
theorem tab_ix (tab : List UInt8) (k : Nat) (h : k < tab.length) : wrap64 (((⟨tab.toArray⟩ : ByteArray)[k]'h).toNat : Int) = tab[k].toNat := by
  have h1 := tab[k].toNat_lt
  have e1 : ((⟨tab.toArray⟩ : ByteArray)[k]'h) = tab[k] := rfl
  rw [e1, ← IntWalk.i64_left, IntWalk.i64_in _ (by omega)]
theorem tab_xx (tab : List UInt8) (k : Nat) (h : k < tab.length) (m : Nat) (hm : m ≤ 10000) : IntKind.i64.wrap (IntKind.i64.wrap ((m : Int) + 1 + (tab[k].toNat : Int) - 1) - IntKind.i64.wrap (((⟨tab.toArray⟩ : ByteArray)[k]'h).toNat : Int)) = m := by
  have h1 := tab[k].toNat_lt
  exact wrap_three m tab[k].toNat hm (by omega)
/-- the jumps of a table, one a label -/
def Ck.jumps (s : Ck) (d : List UInt8) (tab : List UInt8) : Ck × Bool :=
  tab.foldl (fun p t => ((p.1.jump 6 t.toNat).1, p.2 && (p.1.jump 6 t.toNat).2 == d)) (s, true)
theorem Ck.jumps_snoc (s : Ck) (d : List UInt8) (tab : List UInt8) (t : UInt8) : s.jumps d (tab ++ [t]) = (((s.jumps d tab).1.jump 6 t.toNat).1, (s.jumps d tab).2 && ((s.jumps d tab).1.jump 6 t.toNat).2 == d) := by
  simp [Ck.jumps]
theorem Ck.jumps_sim (s : Ck) (d : List UInt8) (tab : List UInt8) (h : ∀ t ∈ tab, t.toNat < s.opn.length) : ∀ i, i ≤ tab.length → s.Sim (s.jumps d (tab.take i)).1 i
  | 0, _ => by simpa [Ck.jumps] using Ck.Sim.refl s
  | i + 1, hi => by
    have ih := s.jumps_sim d tab h i (by omega)
    rw [List.take_succ_eq_append_getElem (by omega), Ck.jumps_snoc]
    exact ih.trans (Ck.jump_sim _ _ _ (by rw [ih.len]; exact h _ (List.getElem_mem _)))

/-- what the label of the table's last entry carries -/
def Ck.def_ (s : Ck) (tab : List UInt8) : List UInt8 :=
  match s.opn[(tab.getLast?.getD 0).toNat]? with
  | none => []
  | some b => b.carry
def Ck.table (s : Ck) (tab : List UInt8) : Ck × Int :=
  if tab.any (fun t => decide (s.opn.length ≤ t.toNat)) then (s, 5) else
  ((({ s with code := s.code ++ [{ op := 8, imm := (tab.length : Int) - 1, keep := 0, cut := 0 }] } : Ck).jumps (s.def_ tab) tab).1.leaves (s.def_ tab ++ [105])).1 |> fun s2 =>
  (s2, if (({ s with code := s.code ++ [{ op := 8, imm := (tab.length : Int) - 1, keep := 0, cut := 0 }] } : Ck).jumps (s.def_ tab) tab).2 then ((({ s with code := s.code ++ [{ op := 8, imm := (tab.length : Int) - 1, keep := 0, cut := 0 }] } : Ck).jumps (s.def_ tab) tab).1.leaves (s.def_ tab ++ [105])).2 else 6)

set_option maxRecDepth 100000 in
set_option maxHeartbeats 4000000 in
theorem table_any (B bk : Nat) (fx : CkF) (L : CkL) (s : Ck) (imm : Int) (tab : List UInt8) (w : World) (h : CkRep B w bk fx L s) {b : Blk} {r : List Blk} (ht : s.Top b r) (hr : r.length ≤ 900) (hs : s.st.length ≤ 900) (hc : s.code.length ≤ 900) (hw : ∀ b ∈ s.opn, b.wait.length ≤ 900) (hcr : ∀ b ∈ s.opn, b.carry.length ≤ 900) (htab : 1 ≤ tab.length) (htab2 : tab.length ≤ 50) :
    Calls Tryz.prog 123 #[.pointer (some ⟨bk, 0, none⟩), .agg #[.int .i64 8, .int .i64 imm, sv tab]] w fun e w' => e = .returned (.int .i64 (s.table tab).2) ∧ ∃ L', CkRep B w' bk fx L' (s.table tab).1 ∧ CkStep w w' bk L L' := by
  have hol : s.opn.length ≤ 1000 := by rw [ht.opn]; simp; omega
  obtain ⟨v, s9, hv⟩ : ∃ v s9, (s9, v) = s.table tab := ⟨_, _, rfl⟩
  have HV : Hid ((s9, v) = s.table tab) := hv
  rw [← hv]
  clear hv
  simp only
  have HT : Hid (s.Top b r) := ht
  have HW : Hid (∀ b ∈ s.opn, b.wait.length ≤ 900) := hw
  have HCR : Hid (∀ b ∈ s.opn, b.carry.length ≤ 900) := hcr
  have R0 : Hid (CkRep B (w.alloc (.cells #[.int .i64 8, .int .i64 imm, sv tab] 67)) bk fx L s) := h.alloc _
  have S0 : Hid (CkStep w (w.alloc (.cells #[.int .i64 8, .int .i64 imm, sv tab] 67)) bk L L) := (CkStep.refl _ _ _).alloc _
  have K0 : Hid (Has (w.alloc (.cells #[.int .i64 8, .int .i64 imm, sv tab] 67)) w.heap.size #[.int .i64 8, .int .i64 imm, sv tab] 67) := Has.new _ _ _
  have HNB : Hid (¬ CkS bk L w.heap.size) := h.new (Nat.le_refl _)
  clear h ht hw hcr
  go_enter Tryz.func123, Tryz.ntmps123
  go_wp2
  go_loopw [14] (fun t wr => ∃ i : Nat, i ≤ tab.length ∧ t = .int .i64 i ∧ Hid (CkRep B wr bk fx L s) ∧ Hid (CkStep w wr bk L L) ∧ Hid (Has wr w.heap.size #[.int .i64 8, .int .i64 imm, sv tab] 67) ∧ Hid (∀ t ∈ tab.take i, t.toNat < s.opn.length)) (fun t _ => tab.length - (intOf t).toNat)
  case atStart => exact ⟨0, Nat.zero_le _, rfl, R0, S0, K0, by intro t ht; simp at ht⟩
  case round =>
    obtain ⟨i, hi, rfl, G1, G2, G3, G4⟩ := hrel
    have d2 := G3.out.cell 2
    have c3 := G1.out.here.cell 3
    simp at d2 c3
    have l1 := G1.out.here.lt
    have l2 := G3.out.lt
    by_cases hlt : i < tab.length
    · have hix : wrap64 (((⟨tab.toArray⟩ : ByteArray)[i]'hlt).toNat : Int) = tab[i].toNat := by
        have := tab[i].toNat_lt
        have e1 : ((⟨tab.toArray⟩ : ByteArray)[i]'hlt) = tab[i] := rfl
        rw [e1, ← IntWalk.i64_left, IntWalk.i64_in _ (by omega)]
      by_cases hbad : s.opn.length ≤ tab[i].toNat
      · go_wp2
        go_quiet (fail)
        go_wp2
        go_ret
        have e0 : s.table tab = (s, 5) := by
          unfold Ck.table
          rw [if_pos]
          rw [List.any_eq_true]
          exact ⟨tab[i], List.getElem_mem _, by simpa using hbad⟩
        have := HV.out
        rw [e0] at this
        simp at this
        obtain ⟨rfl, rfl⟩ := this
        exact ⟨rfl, L, G1.out.drewN _, G2.out.drewN _⟩
      · have G4' : Hid (∀ t ∈ tab.take (i + 1), t.toNat < s.opn.length) := by
          intro t ht
          rw [List.take_succ_eq_append_getElem hlt, List.mem_append] at ht
          rcases ht with ht | ht
          · exact G4.out t ht
          · simp at ht; subst ht; omega
        go_wp2
        go_quiet (fail)
        go_wp2
        go_roundw
        case rel => exact ⟨i + 1, by omega, by go_num, G1.out.drewN _, G2.out.drewN _, G3.out.drewN _, G4'⟩
        case measure => simp [intOf]; omega
    · have hall : ∀ t ∈ tab, t.toNat < s.opn.length := by
        have := G4.out
        rwa [List.take_of_length_le (by omega)] at this
      have hfold : ¬ (tab.any (fun t => decide (s.opn.length ≤ t.toNat)) = true) := by
        rw [List.any_eq_true]
        rintro ⟨t, h1, h2⟩
        have := hall t h1
        simp at h2
        omega
      have e0 := HV.out
      unfold Ck.table at e0
      rw [if_neg hfold] at e0
      obtain ⟨d, hd⟩ : ∃ d, d = s.def_ tab := ⟨_, rfl⟩
      rw [← hd] at e0
      obtain ⟨k, hk⟩ : ∃ k, tab.length = k + 1 := ⟨tab.length - 1, by omega⟩
      have hkl : k < tab.length := by omega
      have hk50 : k ≤ 50 := by omega
      have hlast : tab.getLast?.getD 0 = tab[k] := by
        rw [List.getLast?_eq_getElem?, show tab.length - 1 = k by omega, List.getElem?_eq_getElem hkl]; rfl
      have hll : (tab[k]).toNat < s.opn.length := hall _ (List.getElem_mem _)
      obtain ⟨bd, hbd⟩ : ∃ bd, s.opn[(tab[k]).toNat]? = some bd := ⟨_, List.getElem?_eq_getElem hll⟩
      have hdd : d = bd.carry := by rw [hd]; unfold Ck.def_; rw [hlast, hbd]
      have hdl : d.length ≤ 900 := by rw [hdd]; exact HCR.out _ (List.mem_of_getElem? hbd)
      clear hd
      subst hdd
      have E0 : Hid (_ = _) := e0
      have HK : Hid (tab.length = k + 1) := hk
      clear hk
      have HALL : Hid (∀ t ∈ tab, t.toNat < s.opn.length) := hall
      have c4 := G1.out.here.cell 4
      simp at c4
      have HBD : Hid (s.opn[(tab[k]).toNat]? = some bd) := hbd
      clear e0 hfold hall hlast hbd HV G4 R0 S0 K0
      have hne := owns_ne G1.out.code G1.out.here (by decide)
      have hne1 : (L.codeV s).ownBlock ≠ some w.heap.size := fun hh => HNB.out (.inr (.inr (.inr (.inl (by rw [ownBlock_any]; exact hh)))))
      go_wp2
      refine wp_region_app rowFlat 10 (by kernel_rfl) (by kernel_rfl) (fun _ _ _ _ _ h => h) _ _ _ rfl (.tmp 38) (.tmp 33) 39 40 rfl rfl rfl rfl rfl rfl _ _ _ G1.out.code (.agg #[.int .i64 8, .int .i64 ((tab.length : Int) - 1), .int .i64 0, .int .i64 0]) rfl (by decide) (by simp [Value.cells, Value.oneCell']) (by omega) ?_
      intro g cap w2 q1 q2 q3 q4
      have K1 : Hid (Has w2 w.heap.size _ _) := (G3.out.alloc _).fr q2 hne1
      have hH' : Has w2 bk _ _ := (G1.out.here.alloc _).fr q2 hne
      have d5' := hH'.cell 4
      have e5' := hH'.frozen 4
      have d2' := K1.out.cell 2
      simp at d5' d2'
      have l3 := hH'.lt
      have l4 := K1.out.lt
      obtain ⟨n1, n2, n3, n4, n5⟩ := app_net G1.out.here hne q2 q1 (by decide) q3 q4 4
      have fin := G1.out.putCode (s.code ++ [{ op := 8, imm := (tab.length : Int) - 1, keep := 0, cut := 0 }]) (ca2 := some ⟨g, 0, none⟩) (cc2 := cap) n1 (by simpa using n2) (by rw [flatCells_snoc]; simpa [Flat.cells, Value.cells] using n3) (fun k hk => by simp [Value.ownBlock] at hk; subst hk; exact n4)
      have R1 : Hid (CkRep B _ bk fx _ _) := fin.1
      have S1 : Hid (CkStep w _ bk L _) := G2.out.trans fin.2
      have K2 : Hid (Has _ w.heap.size _ _) := K1.out.other (K1.out.ne hH' (by decide)) (p := ⟨bk, 4, none⟩) (.slice (some ⟨g, 0, none⟩) (s.code.length + 1) cap)
      clear n1 n2 n3 n4 n5 fin q1 q2 q3 q4 hne hne1 G1 G2 G3 K1 hH'
      simp only [List.take_succ_cons, List.take_zero]
      repeat go_big_quiet_step (fail)
      refine wpQuiet_nil ⟨rfl, rfl, by simp, rfl, ?_⟩
      go_wp2
      obtain ⟨W, hW⟩ : ∃ W, W = w2.setCell ⟨bk, 4, none⟩ (.slice (some ⟨g, 0, none⟩) (s.code.length + 1) cap) := ⟨_, rfl⟩
      rw [← hW] at R1 S1 K2 ⊢
      clear hW d5' e5' d2' l3 l4 d2 c3 l1 l2
      obtain ⟨t, ht⟩ : ∃ t, tab[k].toNat = t := ⟨_, rfl⟩
      have ht5 : t ≤ 255 := by have := tab[k].toNat_lt; omega
      have HBD' := HBD.out
      rw [ht] at HBD' hll
      obtain ⟨go, l, ha, hl, hcc, hf, hlo, hbo⟩ := R1.out.at t (b := bd) HBD'
      obtain ⟨m, hm⟩ : ∃ m, s.opn.length = m + 1 + t := ⟨s.opn.length - 1 - t, by omega⟩
      have hm4 : m ≤ 1000 := by omega
      have hml : s.opn.length - 1 - t = m := by omega
      have c3 := R1.out.here.cell 3
      have k1 := hcc 1 (by omega)
      have d2 := K2.out.cell 2
      simp only [hml] at k1
      simp [blkCells] at k1 c3 d2
      simp only at ha
      rw [hm, ha] at c3
      have l1 := R1.out.here.lt
      have l2 := K2.out.lt
      have hk1 : ((tab.length : Int) - 1) = (k : Int) := by have := HK.out; omega
      have hz : ((⟨tab.toArray⟩ : ByteArray)[k]'hkl).toNat = t := ht
      have HM : Hid (s.opn.length = m + 1 + t) := hm
      have HTT : Hid (tab[k].toNat = t) := ht
      have HBDD : Hid (s.opn[t]? = some bd) := HBD'
      have hmx : m + 1 + t ≤ 2000 := by omega
      clear hcc hf hbo ht hm hml HBD' HBD hl hlo ha
      refine wp_region_quiet_lit (by kernel_rfl) (by kernel_rfl) ?_
      repeat go_big_quiet_step (fail)
      refine wpQuiet_nil ?_
      rintro _ ⟨nq, rfl⟩
      go_wp2
      rw [show m + 1 + t - 1 - t = m by omega]
      obtain ⟨s0, hs0⟩ : ∃ s0 : Ck, s0 = { s with code := s.code ++ [{ op := 8, imm := (tab.length : Int) - 1, keep := 0, cut := 0 }] } := ⟨_, rfl⟩
      have E1 := E0.out
      have R2 := R1.out.drewN nq
      have S2 := S1.out.drewN nq
      have K3 := K2.out.drewN nq
      rw [← hs0] at E1 R2
      have hst0 : s0.st = s.st := by rw [hs0]
      have hopn0 : s0.opn = s.opn := by rw [hs0]
      have hcd0 : s0.code.length = s.code.length + 1 := by rw [hs0]; simp
      have HR2 : Hid (CkRep B _ bk fx _ s0) := R2
      have HS2 : Hid (CkStep w _ bk L _) := S2
      have HK3 : Hid (Has _ w.heap.size _ _) := K3
      have HE1 : Hid (_ = _) := E1
      have HSIM : Hid (∀ i, i ≤ tab.length → s0.Sim (s0.jumps bd.carry (tab.take i)).1 i) := s0.jumps_sim bd.carry tab (by rw [hopn0]; exact HALL.out)
      have HT0 : Hid (s0.Top b r) := ⟨by rw [hopn0]; exact HT.out.opn, by rw [hst0]; exact HT.out.fl⟩
      have HOPN : Hid (s0.opn = s.opn) := hopn0
      have HST0 : Hid (s0.st = s.st) := hst0
      clear E0 R1 S1 K2 R2 S2 K3 E1 hs0 hst0 hopn0 HM HTT HBDD c3 k1 d2 l1 l2 hz hk1 hkl hk50 ht5 hm4 hmx hll c4
      go_loopw [68, 7] (fun t u wr => ∃ (i : Nat) (L' : CkL), i ≤ tab.length ∧ t = .int .i64 i ∧ u = .bool (s0.jumps bd.carry (tab.take i)).2 ∧ Hid (CkRep B wr bk fx L' (s0.jumps bd.carry (tab.take i)).1) ∧ Hid (CkStep w wr bk L L') ∧ Hid (Has wr w.heap.size #[.int .i64 8, .int .i64 imm, sv tab] 67)) (fun t _ _ => tab.length - (intOf t).toNat)
      case atStart => exact ⟨0, _, Nat.zero_le _, rfl, rfl, HR2, HS2, HK3⟩
      case round =>
        obtain ⟨i, L', hi, rfl, rfl, G1, G2, G3⟩ := hrel
        have d2 := G3.out.cell 2
        simp at d2
        have l2 := G3.out.lt
        have SIM : Hid _ := HSIM.out i hi
        by_cases hlt : i < tab.length
        · obtain ⟨t, ht⟩ : ∃ t, tab[i].toNat = t := ⟨_, rfl⟩
          have ht5 : t ≤ 255 := by have := tab[i].toNat_lt; omega
          have hz : ((⟨tab.toArray⟩ : ByteArray)[i]'hlt).toNat = t := ht
          have hto : t < s.opn.length := by rw [← ht]; exact HALL.out _ (List.getElem_mem _)
          have hto0 : t < s0.opn.length := by rw [HOPN.out]; exact hto
          obtain ⟨b', hb', hb7⟩ : ∃ b', (s0.jumps bd.carry (tab.take i)).1.opn[t]? = some b' ∧ b'.wait.length ≤ 950 := by
            obtain ⟨b', hb', _, _, _, _, _, _, hb7⟩ := SIM.out.at_ t s0.opn[t] (List.getElem?_eq_getElem hto0)
            have hw0 : s0.opn[t].wait.length ≤ 900 := HW.out _ (by rw [← HOPN.out]; exact List.getElem_mem _)
            exact ⟨b', hb', by omega⟩
          have N0 : Hid (s0.jumps bd.carry (tab.take (i + 1)) = (((s0.jumps bd.carry (tab.take i)).1.jump 6 t).1, (s0.jumps bd.carry (tab.take i)).2 && ((s0.jumps bd.carry (tab.take i)).1.jump 6 t).2 == bd.carry)) := by
            show _ = _
            rw [List.take_succ_eq_append_getElem hlt, Ck.jumps_snoc, ht]
          have hcl : (s0.jumps bd.carry (tab.take i)).1.code.length ≤ 1000 := by rw [SIM.out.code]; omega
          have hol2 : (s0.jumps bd.carry (tab.take i)).1.opn.length ≤ 1000 := by rw [SIM.out.len, HOPN.out]; omega
          have HJ : Hid (Calls _ _ _ _ _) := jump_any B bk fx L' (s0.jumps bd.carry (tab.take i)).1 6 t wr G1.out hb' hcl hol2 (by omega)
          clear hcl hol2 hb7 hb' ht hto hto0
          generalize s0.jumps bd.carry (tab.take i) = p at *
          obtain ⟨s1, same⟩ := p
          simp only at G1 HJ N0 ⊢
          generalize s1.jump 6 t = q at *
          obtain ⟨s2, carry⟩ := q
          simp only at HJ N0
          go_wp2_with fail
          refine HJ.out.mono ?_
          rintro e w1 ⟨rfl, ca, cc, ls, g1, g2⟩
          have N1 : Hid (CkRep B w1 bk fx { L' with ca := ca, cc := cc, ls := ls } s2) := g1
          have N2 : Hid (CkStep w w1 bk L { L' with ca := ca, cc := cc, ls := ls }) := G2.out.trans g2
          have N3 : Hid (Has w1 w.heap.size #[.int .i64 8, .int .i64 imm, sv tab] 67) := g2.has G3.out (G1.out.typIns G3.out)
          clear g1 g2 G1 G2 G3 HJ
          cases same with
          | false =>
            go_wp2
            go_roundw
            case rel => exact ⟨i + 1, _, by omega, by go_num, by rw [N0.out]; rfl, by rw [N0.out]; exact N1, N2, N3⟩
            case measure => simp [intOf]; omega
          | true =>
            go_wp2
            go_roundw
            case rel => exact ⟨i + 1, _, by omega, by go_num, by rw [N0.out]; rfl, by rw [N0.out]; exact N1, N2, N3⟩
            case measure => simp [intOf]; omega
        · have hie : tab.take i = tab := List.take_of_length_le (by omega)
          have G1' := G1.out
          have SIM' := SIM.out
          rw [hie] at G1' SIM'
          obtain ⟨b2, r2, ht2, hr2⟩ := SIM'.top HT0.out
          have hst2 := SIM'.st
          have HSM : Hid ((s0.jumps bd.carry (tab.take i)).2 = (s0.jumps bd.carry tab).2) := by show _ = _; rw [hie]
          have HJ : Hid (Calls _ _ _ _ _) := leaves_any B bk fx L' (s0.jumps bd.carry tab).1 (bd.carry ++ [105]) wr G1' ht2 (by omega) (by rw [hst2, HST0.out]; omega) (by simp; omega)
          have hE := HE1.out
          clear G1' SIM' ht2 hst2 hie G1
          generalize s0.jumps bd.carry (tab.take i) = p0 at *
          generalize s0.jumps bd.carry tab = p at *
          obtain ⟨s1, same⟩ := p
          obtain ⟨s1', same'⟩ := p0
          obtain rfl : same' = same := HSM.out
          simp only at hE HJ ⊢
          generalize s1.leaves (bd.carry ++ [105]) = q at *
          obtain ⟨s2, er⟩ := q
          simp only at hE HJ
          have HE : Hid (_ = _) := hE
          clear hE HE1 HSM SIM
          go_wp2_with fail
          refine HJ.out.mono ?_
          rintro e w1 ⟨rfl, g1, g2⟩
          have N1 : Hid (CkRep B w1 bk fx L' s2) := g1
          have N2 : Hid (CkStep w w1 bk L L') := G2.out.trans g2
          clear g1 g2 G2 G3 HJ
          cases same' with
          | false =>
            go_wp2
            go_ret
            have := HE.out
            simp at this
            obtain ⟨rfl, rfl⟩ := this
            exact ⟨rfl, _, N1.out, N2.out⟩
          | true =>
            go_wp2
            go_ret
            have := HE.out
            simp at this
            obtain ⟨rfl, rfl⟩ := this
            exact ⟨rfl, _, N1.out, N2.out⟩
end Go.Proofs.Qxb6500575aGreatDoor
