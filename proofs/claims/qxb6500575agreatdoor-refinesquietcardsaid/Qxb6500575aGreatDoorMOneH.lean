/-
  THE WALKS of prepm.Prog.one: br_table (written by tools/gen_mone.py).
-/
import Derived.Test.Qxb6500575aGreatDoorMOne1
import Derived.Test.Qxb6500575aGreatDoorMOneF
import Derived.Test.Qxb6500575aGreatDoorRegC
namespace Go.Proofs.Qxb6500575aGreatDoor
open Go Go.RowKit
set_option linter.unusedVariables false
set_option linter.unusedSimpArgs false

/-- label, its world told ahead -/
theorem label_ex (c : Ctl) (w : World) (h0 : 0 ≤ c.bt) (h1 : c.bt ≤ 255) : ∃ w2, Fr (fun _ => False) w w2 ∧ Calls Tryz.prog 82 #[.agg #[.int .i64 c.op, .int .i64 c.bt, .int .i64 c.height, .int .i64 c.at_, .bool c.dead]] w fun e w' => e = .returned (sv c.label) ∧ w' = w2 := by
  by_cases h2 : c.op = 2
  · have e0 : c.label = [] := by unfold Ctl.label; rw [if_pos h2]
    rw [e0, h2]
    refine ⟨w.alloc (.cells #[.int .i64 2, .int .i64 c.bt, .int .i64 c.height, .int .i64 c.at_, .bool c.dead] 132), (Fr.refl _ _).alloc _, ?_⟩
    go_enter Tryz.func82, Tryz.ntmps82
    go_wp2
    go_ret
    exact ⟨rfl, rfl⟩
  · have e0 : c.label = resOf c.bt := by unfold Ctl.label; rw [if_neg h2]
    rw [e0]
    have b2 : (c.op == 2) = false := beq_eq_false_iff_ne.2 h2
    obtain ⟨wk, fk, hk⟩ := kind_ex c.bt (w.alloc (ctlObj c)) h0 h1
    have HK : Hid (Calls _ _ _ _ _) := hk
    refine ⟨wk, ((Fr.refl _ w).alloc _).trans fk (fun _ _ h => h), ?_⟩
    clear e0 h2 hk fk
    go_enter Tryz.func82, Tryz.ntmps82
    go_wp2_with fail
    refine HK.out.mono ?_
    rintro e w1 ⟨rfl, rfl⟩
    go_wp2
    go_ret
    exact ⟨rfl, rfl⟩

def tabCode (s : Mk) (src : List Ins) (tab : List UInt8) (k : Nat) : List Flat := s.code ++ ⟨8, (tab.length : Int) - 1, 0, 0⟩ :: (tab.take (min k (tab.length - 1))).map (fun t => s.jump src t.toNat)
def tabOut (s : Mk) (src : List Ins) (tab : List UInt8) : Nat → Flat
  | 0 => ⟨8, (tab.length : Int) - 1, 0, 0⟩
  | k + 1 => s.jump src (tab.getD k 0).toNat
theorem tabCode_len (s : Mk) (src : List Ins) (tab : List UInt8) (k : Nat) : (tabCode s src tab k).length ≤ s.code.length + 1 + tab.length := by
  unfold tabCode; simp; omega
theorem tabCode_last (s : Mk) (src : List Ins) (tab : List UInt8) (h : 0 < tab.length) : tabCode s src tab tab.length ++ [tabOut s src tab tab.length] = s.code ++ ⟨8, (tab.length : Int) - 1, 0, 0⟩ :: tab.map (fun t => s.jump src t.toNat) := by
  obtain ⟨k, hk⟩ : ∃ k, tab.length = k + 1 := ⟨tab.length - 1, by omega⟩
  unfold tabCode
  rw [hk]
  have e : min (k + 1) (k + 1 - 1) = k := by omega
  rw [e]
  simp only [tabOut, List.append_assoc, List.cons_append]
  congr 2
  have hkl : k < tab.length := by omega
  have : tab = tab.take k ++ [tab[k]] := by
    have h1 := List.take_succ_eq_append_getElem hkl
    rw [List.take_of_length_le (by omega)] at h1
    exact h1
  conv => rhs; rw [this]
  simp [List.getD, List.getElem?_eq_getElem hkl]
  rw [List.take_succ_eq_append_getElem (i := k) (by simpa using hkl)]
  simp
theorem tabCode_more (s : Mk) (src : List Ins) (tab : List UInt8) (k : Nat) (h : k < tab.length - 1) : tabCode s src tab (k + 1) = tabCode s src tab k ++ [tabOut s src tab (k + 1)] := by
  unfold tabCode
  have e1 : min (k + 1) (tab.length - 1) = k + 1 := by omega
  have e2 : min k (tab.length - 1) = k := by omega
  have hkl : k < tab.length := by omega
  rw [e1, e2, List.take_succ_eq_append_getElem hkl]
  simp [tabOut, List.getD, List.getElem?_eq_getElem hkl]
  rw [List.take_succ_eq_append_getElem (i := k) (by simpa using hkl)]
  simp
theorem tabCode_same (s : Mk) (src : List Ins) (tab : List UInt8) (k : Nat) (h : ¬ k < tab.length - 1) : tabCode s src tab (k + 1) = tabCode s src tab k := by
  unfold tabCode
  have e1 : min (k + 1) (tab.length - 1) = tab.length - 1 := by omega
  have e2 : min k (tab.length - 1) = tab.length - 1 := by omega
  rw [e1, e2]

set_option maxRecDepth 100000 in
set_option maxHeartbeats 4000000 in
theorem mone_8 (X : OneP) (L : MkL) (cv : Value) (s : Mk) (E : Env) (i : Nat) (c0 : Ctl) (r0 : List Ctl) (h : OneCtx X L cv s E i c0 r0) (hop : X.c.op = 8) (htb0 : 0 < X.c.tab.length) (htb1 : X.c.tab.length ≤ 50) :
    Calls Tryz.prog 58 #[.pointer (some ⟨X.bp, 0, none⟩), .pointer (some ⟨X.bk, 0, none⟩), .pointer (some ⟨X.g, X.f * 5, none⟩), .int .i64 i] X.w0 fun e w' => OnePost X (s.one E X.src i X.c) e w' := by
  have CODELEN : Hid (s.code.length ≤ 500) := h.code
  have EONE : Hid (s.one E X.src i X.c = if X.c.tab.any (fun t => decide (s.cs.length ≤ t.toNat)) then (s, 5) else
     ({ (s.pops (s.lastLab X.c.tab ++ [105])).1.kill with code := s.code ++ ⟨8, (X.c.tab.length : Int) - 1, 0, 0⟩ :: X.c.tab.map (fun t => s.jump X.src t.toNat) }, typedM (s.tableOk X.c.tab (s.lastLab X.c.tab) && (s.pops (s.lastLab X.c.tab ++ [105])).2))) := by
    show _ = _
    simp only [Mk.one, hop]
    simp
  have hX := h.inn.ok
  obtain ⟨gs, scap, hsv, hgl, q0, q1, q2, hil⟩ := h.at
  obtain ⟨m0, m2, m3, lg⟩ := h.inn.pre h.me
  have hsl := h.sl
  have hsst := h.st
  have hscs := h.cs
  have hscd := h.code
  have hfl := h.fl
  have hmp := h.ps E.me (List.mem_of_getElem? h.me)
  obtain ⟨hmp1, hmp2, hmp3⟩ := hmp
  have START : Hid (∀ n, OneL X (((X.w0.alloc (insObj X.c)).alloc (flatObj ⟨X.c.op, X.c.imm, 0, 0⟩)).drewN n) L cv s ⟨X.c.op, X.c.imm, 0, 0⟩) := h.inn.start
  have hbc : Hid (X.w0.heap.size = X.bc) := h.inn.hbc.symm
  have hbo : Hid (X.bc + 1 = X.bo) := by show _ = _; rw [h.inn.hbo, h.inn.hbc]
  have CTX : Hid (OneCtx X L cv s E i c0 r0) := h
  have HX : Hid X.Ok := hX
  have hrl : r0.length ≤ 500 := by have := h.top.cs; have hh := h.cs; rw [this] at hh; simp at hh; omega
  rw [hsv] at m3
  have lg1 : X.g < X.w0.heap.size + 1 := by omega
  have lg2 : X.g < X.w0.heap.size + 1 + 1 := by omega
  have hgl1 : gs < X.w0.heap.size + 1 := by omega
  clear h hX
  go_enter Tryz.func58, Tryz.ntmps58
  go_wp2
  go_quiet (fail)
  rename_i nq
  obtain ⟨W, hW⟩ : ∃ W, W = (((X.w0.alloc (.cells #[.int .i64 8, .int .i64 X.c.imm, .string ⟨X.c.tab.toArray⟩] 67)).alloc (.cells #[.int .i64 8, .int .i64 X.c.imm, .int .i64 0, .int .i64 0] 176)).drewN nq) := ⟨_, rfl⟩
  have ST := START.out nq
  unfold insObj flatObj at ST
  simp only [hop] at ST ⊢
  rw [← hW]
  rw [hbc.out, hbo.out]
  have HL : Hid (OneL X W L cv s ⟨8, X.c.imm, 0, 0⟩) := by rw [hW]; exact ST
  clear ST hW START q0 q1 q2 m0 m2 m3 hbc hbo lg1 lg2 hgl1 lg
  generalize htg : X.c.tab = tab at *
  obtain ⟨i0, i1, i2, o0, o1, o2, o3, of, p4, k0, k1, kf, m0, m1, m2, m3, m4, gf, lc, lo, lp, lk, lg⟩ := HL.out.facts HX.out CTX.out.me
  rw [hsv] at m3
  rw [htg] at i2
  have HTG : Hid (X.c.tab = tab) := htg
  go_wp2
  clear htg
  clear i0 i1 i2 o0 o1 o2 o3 of p4 k0 k1 kf m0 m1 m2 m3 m4 gf lc lo lp lk lg
  go_loopw [20] (fun t wr => ∃ k : Nat, k ≤ tab.length ∧ t = .int .i64 k ∧ Hid (OneL X wr L cv s ⟨8, X.c.imm, 0, 0⟩) ∧ Hid (∀ t ∈ tab.take k, t.toNat < s.cs.length)) (fun t _ => tab.length - (intOf t).toNat)
  case atStart => exact ⟨0, Nat.zero_le _, rfl, HL, by intro t ht; simp at ht⟩
  case round =>
    obtain ⟨k, hk, rfl, G1, G4⟩ := hrel
    clear HL
    obtain ⟨i0, i1, i2, o0, o1, o2, o3, of, p4, k0, k1, kf, m0, m1, m2, m3, m4, gf, lc, lo, lp, lk, lg⟩ := G1.out.facts HX.out CTX.out.me
    rw [hsv] at m3
    rw [HTG.out] at i2
    by_cases hlt : k < tab.length
    · have hix : wrap64 (((⟨tab.toArray⟩ : ByteArray)[k]'hlt).toNat : Int) = tab[k].toNat := tab_ix tab k hlt
      by_cases hbad : s.cs.length ≤ tab[k].toNat
      · have FR : Hid (Fr X.S0 X.w0 wr) := G1.out.fr
        have E0 : Hid (s.one E X.src i X.c = (s, 5)) := by
          have := EONE.out
          rw [if_pos (List.any_eq_true.2 ⟨tab[k], List.getElem_mem _, by simpa using hbad⟩)] at this
          exact this
        clear EONE G1 G4
        go_wp2
        go_quiet (fail)
        go_wp2
        go_ret
        rw [E0.out]
        exact ⟨rfl, FR.out.drewN _, fun e => by cases e⟩
      · have G4' : Hid (∀ t ∈ tab.take (k + 1), t.toNat < s.cs.length) := by
          intro t ht
          rw [List.take_succ_eq_append_getElem hlt, List.mem_append] at ht
          rcases ht with ht | ht
          · exact G4.out t ht
          · simp at ht; subst ht; omega
        go_wp2
        go_quiet (fail)
        go_wp2
        go_roundw
        case rel => exact ⟨k + 1, by omega, by go_num, G1.out.drewN _, G4'⟩
        case measure => simp [intOf]; omega
    · have hall : ∀ t ∈ tab, t.toNat < s.cs.length := by
        have := G4.out
        rwa [List.take_of_length_le (by omega)] at this
      have hfold : ¬ (tab.any (fun t => decide (s.cs.length ≤ t.toNat)) = true) := by
        rw [List.any_eq_true]
        rintro ⟨t, h1, h2⟩
        have := hall t h1
        simp at h2
        omega
      have e0 := EONE.out
      rw [if_neg hfold, ← tabCode_last s X.src tab htb0] at e0
      have E0 : Hid (s.one E X.src i X.c = _) := e0
      have HALL : Hid (∀ t ∈ tab, t.toNat < s.cs.length) := hall
      obtain ⟨kk, hkk⟩ : ∃ kk, tab.length = kk + 1 := ⟨tab.length - 1, by omega⟩
      clear EONE e0 hfold hall G4
      -- out.Imm = len(Tab) - 1
      have HL2 := G1.out.setImm HX.out (kk : Int)
      obtain ⟨w2, hw2⟩ : ∃ w2, w2 = wr.setCell ⟨X.bo, 1, none⟩ (.int .i64 (kk : Int)) := ⟨_, rfl⟩
      rw [← hw2] at HL2
      have H2 : Hid (OneL X w2 L cv s ⟨8, kk, 0, 0⟩) := HL2
      have HW2 : Hid (w2 = wr.setCell ⟨X.bo, 1, none⟩ (.int .i64 (kk : Int))) := hw2
      clear hw2 HL2
      go_wp2
      rw [← HW2.out]
      clear HW2 G1
      clear i0 i1 i2 o0 o1 o2 o3 of p4 k0 k1 kf m0 m1 m2 m3 m4 gf lc lo lp lk lg
      obtain ⟨i07, i17, i27, o07, o17, o27, o37, of7, p47, k07, k17, kf7, m07, m17, m27, m37, m47, gf7, lc7, lo7, lp7, lk7, lg7⟩ := H2.out.facts HX.out CTX.out.me
      clear i07 i17 i27 p47 k07 k17 kf7 m07 m17 m27 m37 lc7 lp7 lk7
      have hcl7 : (s : Mk).code.length ≤ 600 := by have := CODELEN.out; exact Nat.le_trans this (by decide)
      refine wp_region_app rowFlat 6 (by kernel_rfl) (by kernel_rfl) (fun _ _ _ _ _ h => h) _ _ _ rfl (.tmp 303) (.tmp 302) 304 305 rfl rfl rfl rfl rfl rfl _ _ _ H2.out.code (.agg #[.int .i64 (8), .int .i64 ((kk : Int)), .int .i64 (0), .int .i64 (0)]) rfl (by decide) (by simp [Value.cells, Value.oneCell']) (by omega) ?_
      intro g2 cap w97 q1 q2 q3 q4
      have H3 : Hid (OneL X _ _ _ _ _) := H2.out.app HX.out q2 (by simpa [Flat.cells, Value.cells] using q1) q3
      obtain ⟨y07, y17, y27, y37, y47, yf7⟩ := H2.out.mid HX.out CTX.out.me q2
      clear q1 q2 q3 q4 H2
      simp only [List.take_succ_cons, List.take_zero]
      repeat go_big_quiet_step (fail)
      refine wpQuiet_nil ⟨rfl, rfl, by simp, rfl, ?_⟩
      obtain ⟨w3, hw3⟩ : ∃ w3, w3 = w97.setCell ⟨X.g, X.f * 5 + 4, none⟩ (.slice (some ⟨g2, 0, none⟩) (s.code.length + 1) cap) := ⟨_, rfl⟩
      rw [← hw3] at H3
      have HW3 : Hid (w3 = w97.setCell ⟨X.g, X.f * 5 + 4, none⟩ (.slice (some ⟨g2, 0, none⟩) (s.code.length + 1) cap)) := hw3
      clear hw3
      go_wp2
      rw [← HW3.out]
      clear HW3 y07 y17 y27 y37 y47 yf7 o07 o17 o27 o37 of7 m47 gf7 lo7 lg7
      -- the last label
      have hkl : kk < tab.length := by omega
      obtain ⟨t, ht⟩ : ∃ t, tab[kk].toNat = t := ⟨_, rfl⟩
      have ht5 : t ≤ 255 := by have := tab[kk].toNat_lt; omega
      have hto : t < s.cs.length := by rw [← ht]; exact HALL.out _ (List.getElem_mem _)
      have hz : ((⟨tab.toArray⟩ : ByteArray)[kk]'hkl).toNat = t := ht
      have hlastl : s.lastLab tab = s.label t := by
        unfold Mk.lastLab
        rw [List.getLast?_eq_getElem?, show tab.length - 1 = kk by omega, List.getElem?_eq_getElem hkl]
        simp [ht]
      obtain ⟨c, hc⟩ : ∃ c, s.cs[t]? = some c := ⟨_, List.getElem?_eq_getElem hto⟩
      have hcf := CTX.out.fit c (List.mem_of_getElem? hc)
      obtain ⟨go, ha, hcl2, _, hlt2, _⟩ := H3.out.k.at t hc
      obtain ⟨m, hm⟩ : ∃ m, s.cs.length = m + 1 + t := ⟨s.cs.length - 1 - t, by omega⟩
      have hmx : m + 1 + t ≤ 2000 := by omega
      have hml : s.cs.length - 1 - t = m := by omega
      have d0 := hcl2 0 (by omega)
      have d1 := hcl2 1 (by omega)
      have d2 := hcl2 2 (by omega)
      have d3 := hcl2 3 (by omega)
      have d4 := hcl2 4 (by omega)
      simp only [hml] at d0 d1 d2 d3 d4
      simp [ctlCells] at d0 d1 d2 d3 d4
      clear hcl2
      have hlb : s.label t = c.label := by unfold Mk.label; rw [hc]
      have HC2 : Hid (∀ w', _) := fun w' => label_any c w' hcf.b0 hcf.b1
      have hk1 : ((tab.length : Int) - 1) = (kk : Int) := by omega
      obtain ⟨i0, i1, i2, o0, o1, o2, o3, of, p4, k0, k1, kf, m0, m1, m2, m3, m4, gf, lc, lo, lp, lk, lg⟩ := H3.out.facts HX.out CTX.out.me
      rw [hsv] at m3
      rw [HTG.out] at i2
      simp only at k1
      rw [hm, ha] at k1
      refine C.wp_region_tail 19 (by kernel_rfl) (by kernel_rfl) (fun _ _ _ _ _ h => h) ?_
      simp only [List.take_succ_cons, List.take_zero, List.drop_succ_cons, List.drop_zero]
      repeat go_big_quiet_step (fail)
      refine wpQuiet_nil ?_
      go_wp2_with fail
      refine (HC2.out _).mono ?_
      rintro e w4 ⟨rfl, hf4⟩
      have HL4 : OneL X w4 L (.slice (some ⟨g2, 0, none⟩) (s.code.length + 1) cap) { s with code := tabCode s X.src tab 0 } (tabOut s X.src tab 0) := by
        have e1 : tabCode s X.src tab 0 = s.code ++ [⟨8, kk, 0, 0⟩] := by unfold tabCode; rw [hk1]; simp
        have e2 : tabOut s X.src tab 0 = ⟨8, kk, 0, 0⟩ := by unfold tabOut; rw [hk1]
        rw [e1, e2]
        exact OneL.fresh H3.out.drew hf4
      have H4 : Hid (OneL X w4 L (.slice (some ⟨g2, 0, none⟩) (s.code.length + 1) cap) { s with code := tabCode s X.src tab 0 } (tabOut s X.src tab 0)) := HL4
      have hlab1 : c.label.length ≤ 1 := by unfold Ctl.label resOf; split; simp; split <;> simp
      have HLAB : Hid (s.lastLab tab = c.label) := by show _ = _; rw [hlastl, hlb]
      clear hf4 HL4 H3 HC2 d0 d1 d2 d3 d4 hlb hlastl hz hcf ha hm hmx hml hlt2 hc ht ht5 hto
      clear i0 i1 i2 o0 o1 o2 o3 of p4 k0 k1 kf m0 m1 m2 m3 m4 gf lc lo lp lk lg
      generalize c.label = lab at *
      go_wp2
      go_loopw [22, 10] (fun t u wr => ∃ (k : Nat) (cv' : Value), k ≤ tab.length ∧ t = .int .i64 k ∧ u = .bool (s.tableOk (tab.take k) lab) ∧ Hid (OneL X wr L cv' { s with code := tabCode s X.src tab k } (tabOut s X.src tab k))) (fun t _ _ => tab.length - (intOf t).toNat)
      case atStart => exact ⟨0, _, Nat.zero_le _, rfl, rfl, H4⟩
      case round =>
        obtain ⟨k, cv', hk, rfl, rfl, G1⟩ := hrel
        clear H4
        by_cases hlt2 : k < tab.length
        · obtain ⟨t, ht⟩ : ∃ t, tab[k].toNat = t := ⟨_, rfl⟩
          have ht5 : t ≤ 255 := by have := tab[k].toNat_lt; omega
          have hto : t < s.cs.length := by rw [← ht]; exact HALL.out _ (List.getElem_mem _)
          have hz : ((⟨tab.toArray⟩ : ByteArray)[k]'hlt2).toNat = t := ht
          obtain ⟨c, hc⟩ : ∃ c, s.cs[t]? = some c := ⟨_, List.getElem?_eq_getElem hto⟩
          have hcf := CTX.out.fit c (List.mem_of_getElem? hc)
          obtain ⟨go, ha, hcl2, _, hlt9, _⟩ := G1.out.k.at t hc
          obtain ⟨m, hm⟩ : ∃ m, s.cs.length = m + 1 + t := ⟨s.cs.length - 1 - t, by omega⟩
          have hmx : m + 1 + t ≤ 2000 := by omega
          have hml : s.cs.length - 1 - t = m := by omega
          have d0 := hcl2 0 (by omega)
          have d1 := hcl2 1 (by omega)
          have d2 := hcl2 2 (by omega)
          have d3 := hcl2 3 (by omega)
          have d4 := hcl2 4 (by omega)
          simp only [hml] at d0 d1 d2 d3 d4
          simp [ctlCells] at d0 d1 d2 d3 d4
          clear hcl2
          have hc' : ({ s with code := tabCode s X.src tab k } : Mk).cs[t]? = some c := hc
          have hlb : s.label t = c.label := by unfold Mk.label; rw [hc]
          have hjm : s.jump X.src t = c.jump X.src := by unfold Mk.jump; rw [hc]
          have hgd : (tab.getD k 0).toNat = t := by rw [List.getD, List.getElem?_eq_getElem hlt2]; exact ht
          have HTO : Hid (tabOut s X.src tab (k + 1) = c.jump X.src) := by
            show s.jump X.src (tab.getD k 0).toNat = _
            rw [hgd, hjm]
          have HOK : Hid (s.tableOk (tab.take (k + 1)) lab = (s.tableOk (tab.take k) lab && decide (c.label = lab))) := by
            show _ = _
            rw [List.take_succ_eq_append_getElem hlt2]
            unfold Mk.tableOk
            rw [List.all_append]
            simp only [List.all_cons, List.all_nil, Bool.and_true, ht, hlb]
          have HC1 : Hid (∀ w' o, OneL X w' L cv' { s with code := tabCode s X.src tab k } o → _) := fun w' o h' => mjump_any X.bk L { s with code := tabCode s X.src tab k } X.src (some ⟨gs, 0, none⟩) scap t w' h'.k (by have := h'.src; rw [hsv] at this; exact this) hc' hcf (by show s.cs.length ≤ _; omega) (by omega) (by omega) CTX.out.tab
          have htcl := tabCode_len s X.src tab k
          have CLK : Hid ((tabCode s X.src tab k).length ≤ 600) := by show _ ≤ _; have := CODELEN.out; omega
          obtain ⟨wl, fl, hl⟩ := label_ex c wr.drew hcf.b0 hcf.b1
          have GL : Hid (OneL X wl L cv' { s with code := tabCode s X.src tab k } (tabOut s X.src tab k)) := G1.out.drew.fresh fl
          obtain ⟨go3, ha3, hcl3, _, hlt3, _⟩ := GL.out.k.at t hc'
          obtain rfl : go = go3 := by have : some (⟨go, 0, none⟩ : Addr) = some ⟨go3, 0, none⟩ := ha.symm.trans ha3; simpa using this
          have x0 := hcl3 0 (by omega)
          have x1 := hcl3 1 (by omega)
          have x2 := hcl3 2 (by omega)
          have x3 := hcl3 3 (by omega)
          have x4 := hcl3 4 (by omega)
          simp only [hml] at x0 x1 x2 x3 x4
          simp [ctlCells] at x0 x1 x2 x3 x4
          have HCL : Hid (Calls _ _ _ _ _) := hl
          clear hcl3 hl fl hgd hjm hlb ht ha3
          obtain ⟨i0, i1, i2, o0, o1, o2, o3, of, p4, k0, k1, kf, m0, m1, m2, m3, m4, gf, lc, lo, lp, lk, lg⟩ := G1.out.facts HX.out CTX.out.me
          rw [hsv] at m3
          rw [HTG.out] at i2
          simp only at k1
          rw [hm, ha] at k1
          obtain ⟨i0l, i1l, i2l, o0l, o1l, o2l, o3l, ofl, p4l, k0l, k1l, kfl, m0l, m1l, m2l, m3l, m4l, gfl, lcl, lol, lpl, lkl, lgl⟩ := GL.out.facts HX.out CTX.out.me
          rw [hsv] at m3l
          rw [HTG.out] at i2l
          simp only at k1l
          rw [hm, ha] at k1l
          go_wp2
          refine C.wp_region_mid [0, 1, 2, 3, 4, 5, 6, 7, 8, 9, 10, 11, 12, 13, 14, 15, 16, 17, 19] 18 20 (fun x => x = wr.drew ∨ x = wl) (by kernel_rfl) (by kernel_rfl) (fun _ _ _ _ _ h => h) (.inl rfl) [_, _, _, _, _, _, _, _, _, _, _, _, _, _, _, _, _, _, _] rfl _ rfl ?_
          simp only [List.getElem_toArray, List.getElem_cons_zero, List.getElem_cons_succ]
          repeat go_big_quiet_step (fail)
          refine wpQuiet_nil ?_
          go_wp2_with fail
          refine HCL.out.mono ?_
          rintro e w5 ⟨rfl, rfl⟩
          go_wp2
          refine ⟨by simp, ?_⟩
          clear d0 d1 d2 d3 d4 x0 x1 x2 x3 x4
          clear i0 i1 i2 o0 o1 o2 o3 of p4 k0 k1 kf m0 m1 m2 m3 m4 gf lc lo lp lk lg
          clear HCL G1
          generalize c.label = cl at HOK ⊢
          by_cases hcl : cl = lab
          · subst hcl
            have HOK2 : Hid (s.tableOk (tab.take (k + 1)) cl = s.tableOk (tab.take k) cl) := by show _ = _; rw [HOK.out]; simp
            clear HOK
            go_wp2
            refine C.wp_region_tail 10 (by kernel_rfl) (by kernel_rfl) (fun _ _ _ _ _ h => h) ?_
            simp only [List.take_succ_cons, List.take_zero, List.drop_succ_cons, List.drop_zero]
            repeat go_big_quiet_step (fail)
            refine wpQuiet_nil ?_
            go_wp2_with fail
            refine (HC1.out _ _ (GL.out.drew)).mono ?_
            rintro e w6 ⟨rfl, hf6⟩
            have HL6 : Hid (OneL X w6 L cv' { s with code := tabCode s X.src tab k } (tabOut s X.src tab k)) := GL.out.drew.fresh hf6
            clear hf6 HC1 GL
            clear i0l i1l i2l o0l o1l o2l o3l ofl p4l k0l k1l kfl m0l m1l m2l m3l m4l gfl lcl lol lpl lkl lgl
            generalize c.jump X.src = cj at *
            obtain ⟨jop, jimm, jkeep, jcut⟩ := cj
            have HL7 := HL6.out.setAll HX.out ⟨jop, jimm, jkeep, jcut⟩
            simp only at HL7
            obtain ⟨w7, hw7⟩ : ∃ w7, w7 = ((((w6.setCell ⟨X.bo, 0, none⟩ (.int .i64 jop)).setCell ⟨X.bo, 1, none⟩ (.int .i64 jimm)).setCell ⟨X.bo, 2, none⟩ (.int .i64 jkeep)).setCell ⟨X.bo, 3, none⟩ (.int .i64 jcut)) := ⟨_, rfl⟩
            rw [← hw7] at HL7
            have H7 : Hid (OneL X w7 L cv' { s with code := tabCode s X.src tab k } ⟨jop, jimm, jkeep, jcut⟩) := HL7
            have HW7 : Hid (w7 = _) := hw7
            clear hw7 HL7
            have nb1 : X.bc ≠ X.bo := HL6.out.ci.ne HL6.out.bo (by decide)
            have nb2 : X.bo ≠ X.bc := fun e => nb1 e.symm
            obtain ⟨i0, i1, i2, o0, o1, o2, o3, of, p4, k0, k1, kf, m0, m1, m2, m3, m4, gf, lc, lo, lp, lk, lg⟩ := HL6.out.facts HX.out CTX.out.me
            rw [hsv] at m3
            rw [HTG.out] at i2
            unfold Flat.val
            by_cases hk1 : k < kk
            · go_wp2
              rw [← HW7.out]
              clear HW7 HL6 nb1 nb2
              clear i0 i1 i2 o0 o1 o2 o3 of p4 k0 k1 kf m0 m1 m2 m3 m4 gf lc lo lp lk lg
              obtain ⟨i07, i17, i27, o07, o17, o27, o37, of7, p47, k07, k17, kf7, m07, m17, m27, m37, m47, gf7, lc7, lo7, lp7, lk7, lg7⟩ := H7.out.facts HX.out CTX.out.me
              clear i07 i17 i27 p47 k07 k17 kf7 m07 m17 m27 m37 lc7 lp7 lk7
              have hcl7 : ({ s with code := tabCode s X.src tab k } : Mk).code.length ≤ 600 := CLK.out
              refine wp_region_app rowFlat 6 (by kernel_rfl) (by kernel_rfl) (fun _ _ _ _ _ h => h) _ _ _ rfl (.tmp 378) (.tmp 377) 379 380 rfl rfl rfl rfl rfl rfl _ _ _ H7.out.code (.agg #[.int .i64 (jop), .int .i64 (jimm), .int .i64 (jkeep), .int .i64 (jcut)]) rfl (by decide) (by simp [Value.cells, Value.oneCell']) (by omega) ?_
              intro g2 cap w97 q1 q2 q3 q4
              have H8 : Hid (OneL X _ _ _ _ _) := H7.out.app HX.out q2 (by simpa [Flat.cells, Value.cells] using q1) q3
              obtain ⟨y07, y17, y27, y37, y47, yf7⟩ := H7.out.mid HX.out CTX.out.me q2
              clear q1 q2 q3 q4 H7
              simp only [List.take_succ_cons, List.take_zero]
              repeat go_big_quiet_step (fail)
              refine wpQuiet_nil ⟨rfl, rfl, by simp, rfl, ?_⟩
              have H9 : Hid (OneL X (w97.setCell ⟨X.g, X.f * 5 + 4, none⟩ (.slice (some ⟨g2, 0, none⟩) ((tabCode s X.src tab k).length + 1) cap)) L (.slice (some ⟨g2, 0, none⟩) ((tabCode s X.src tab k).length + 1) cap) { s with code := tabCode s X.src tab (k + 1) } (tabOut s X.src tab (k + 1))) := by
                have := H8.out
                rw [tabCode_more s X.src tab k (by omega), HTO.out]
                exact this
              clear H8
              go_wp2
              go_roundw
              case rel => exact ⟨k + 1, _, by omega, by go_num, by rw [HOK2.out], H9⟩
              case measure => simp [intOf]; omega
            · have H9 : Hid (OneL X ((((w6.setCell ⟨X.bo, 0, none⟩ (.int .i64 jop)).setCell ⟨X.bo, 1, none⟩ (.int .i64 jimm)).setCell ⟨X.bo, 2, none⟩ (.int .i64 jkeep)).setCell ⟨X.bo, 3, none⟩ (.int .i64 jcut)) L cv' { s with code := tabCode s X.src tab (k + 1) } (tabOut s X.src tab (k + 1))) := by
                have := H7.out
                rw [HW7.out] at this
                rw [tabCode_same s X.src tab k (by omega), HTO.out]
                exact this
              clear HW7 H7
              go_wp2
              go_roundw
              case rel => exact ⟨k + 1, _, by omega, by go_num, by rw [HOK2.out], H9⟩
              case measure => simp [intOf]; omega
          · have HOK2 : Hid (s.tableOk (tab.take (k + 1)) lab = false) := by show _ = _; rw [HOK.out]; simp [hcl]
            have hbn : ¬ ((⟨cl.toArray⟩ : ByteArray) = ⟨lab.toArray⟩) := by
              intro e
              apply hcl
              have := congrArg ByteArray.data e
              simpa using this
            have hb1 : (cl == lab) = false := beq_eq_false_iff_ne.2 hcl
            have hb2 : (cl != lab) = true := by simp [bne, hb1]
            have hb3 : ((⟨cl.toArray⟩ : ByteArray).toList == (⟨lab.toArray⟩ : ByteArray).toList) = false := by
              rw [beq_eq_false_iff_ne, ByteArray.toList_eq, ByteArray.toList_eq]
              simpa using hcl
            have hb4 : ((⟨cl.toArray⟩ : ByteArray).toList != (⟨lab.toArray⟩ : ByteArray).toList) = true := by simp only [bne, hb3]; rfl
            clear HOK
            go_wp2
            refine C.wp_region_tail 10 (by kernel_rfl) (by kernel_rfl) (fun _ _ _ _ _ h => h) ?_
            simp only [List.take_succ_cons, List.take_zero, List.drop_succ_cons, List.drop_zero]
            repeat go_big_quiet_step (fail)
            refine wpQuiet_nil ?_
            go_wp2_with fail
            refine (HC1.out _ _ (GL.out.drew)).mono ?_
            rintro e w6 ⟨rfl, hf6⟩
            have HL6 : Hid (OneL X w6 L cv' { s with code := tabCode s X.src tab k } (tabOut s X.src tab k)) := GL.out.drew.fresh hf6
            clear hf6 HC1 GL
            clear i0l i1l i2l o0l o1l o2l o3l ofl p4l k0l k1l kfl m0l m1l m2l m3l m4l gfl lcl lol lpl lkl lgl
            generalize c.jump X.src = cj at *
            obtain ⟨jop, jimm, jkeep, jcut⟩ := cj
            have HL7 := HL6.out.setAll HX.out ⟨jop, jimm, jkeep, jcut⟩
            simp only at HL7
            obtain ⟨w7, hw7⟩ : ∃ w7, w7 = ((((w6.setCell ⟨X.bo, 0, none⟩ (.int .i64 jop)).setCell ⟨X.bo, 1, none⟩ (.int .i64 jimm)).setCell ⟨X.bo, 2, none⟩ (.int .i64 jkeep)).setCell ⟨X.bo, 3, none⟩ (.int .i64 jcut)) := ⟨_, rfl⟩
            rw [← hw7] at HL7
            have H7 : Hid (OneL X w7 L cv' { s with code := tabCode s X.src tab k } ⟨jop, jimm, jkeep, jcut⟩) := HL7
            have HW7 : Hid (w7 = _) := hw7
            clear hw7 HL7
            have nb1 : X.bc ≠ X.bo := HL6.out.ci.ne HL6.out.bo (by decide)
            have nb2 : X.bo ≠ X.bc := fun e => nb1 e.symm
            obtain ⟨i0, i1, i2, o0, o1, o2, o3, of, p4, k0, k1, kf, m0, m1, m2, m3, m4, gf, lc, lo, lp, lk, lg⟩ := HL6.out.facts HX.out CTX.out.me
            rw [hsv] at m3
            rw [HTG.out] at i2
            unfold Flat.val
            by_cases hk1 : k < kk
            · go_wp2
              rw [← HW7.out]
              clear HW7 HL6 nb1 nb2
              clear i0 i1 i2 o0 o1 o2 o3 of p4 k0 k1 kf m0 m1 m2 m3 m4 gf lc lo lp lk lg
              obtain ⟨i07, i17, i27, o07, o17, o27, o37, of7, p47, k07, k17, kf7, m07, m17, m27, m37, m47, gf7, lc7, lo7, lp7, lk7, lg7⟩ := H7.out.facts HX.out CTX.out.me
              clear i07 i17 i27 p47 k07 k17 kf7 m07 m17 m27 m37 lc7 lp7 lk7
              have hcl7 : ({ s with code := tabCode s X.src tab k } : Mk).code.length ≤ 600 := CLK.out
              refine wp_region_app rowFlat 6 (by kernel_rfl) (by kernel_rfl) (fun _ _ _ _ _ h => h) _ _ _ rfl (.tmp 378) (.tmp 377) 379 380 rfl rfl rfl rfl rfl rfl _ _ _ H7.out.code (.agg #[.int .i64 (jop), .int .i64 (jimm), .int .i64 (jkeep), .int .i64 (jcut)]) rfl (by decide) (by simp [Value.cells, Value.oneCell']) (by omega) ?_
              intro g2 cap w97 q1 q2 q3 q4
              have H8 : Hid (OneL X _ _ _ _ _) := H7.out.app HX.out q2 (by simpa [Flat.cells, Value.cells] using q1) q3
              obtain ⟨y07, y17, y27, y37, y47, yf7⟩ := H7.out.mid HX.out CTX.out.me q2
              clear q1 q2 q3 q4 H7
              simp only [List.take_succ_cons, List.take_zero]
              repeat go_big_quiet_step (fail)
              refine wpQuiet_nil ⟨rfl, rfl, by simp, rfl, ?_⟩
              have H9 : Hid (OneL X (w97.setCell ⟨X.g, X.f * 5 + 4, none⟩ (.slice (some ⟨g2, 0, none⟩) ((tabCode s X.src tab k).length + 1) cap)) L (.slice (some ⟨g2, 0, none⟩) ((tabCode s X.src tab k).length + 1) cap) { s with code := tabCode s X.src tab (k + 1) } (tabOut s X.src tab (k + 1))) := by
                have := H8.out
                rw [tabCode_more s X.src tab k (by omega), HTO.out]
                exact this
              clear H8
              go_wp2
              go_roundw
              case rel => exact ⟨k + 1, _, by omega, by go_num, by rw [HOK2.out], H9⟩
              case measure => simp [intOf]; omega
            · have H9 : Hid (OneL X ((((w6.setCell ⟨X.bo, 0, none⟩ (.int .i64 jop)).setCell ⟨X.bo, 1, none⟩ (.int .i64 jimm)).setCell ⟨X.bo, 2, none⟩ (.int .i64 jkeep)).setCell ⟨X.bo, 3, none⟩ (.int .i64 jcut)) L cv' { s with code := tabCode s X.src tab (k + 1) } (tabOut s X.src tab (k + 1))) := by
                have := H7.out
                rw [HW7.out] at this
                rw [tabCode_same s X.src tab k (by omega), HTO.out]
                exact this
              clear HW7 H7
              go_wp2
              go_roundw
              case rel => exact ⟨k + 1, _, by omega, by go_num, by rw [HOK2.out], H9⟩
              case measure => simp [intOf]; omega
        · obtain rfl : k = tab.length := by omega
          have htl := tabCode_len s X.src tab tab.length
          have htk : tab.take tab.length = tab := List.take_length
          have E1 : Hid (s.one E X.src i X.c = ({ (({ s with code := tabCode s X.src tab tab.length } : Mk).pops (lab ++ [105])).1.kill with code := (({ s with code := tabCode s X.src tab tab.length } : Mk).pops (lab ++ [105])).1.kill.code ++ [tabOut s X.src tab tab.length] }, typedM (s.tableOk (tab.take tab.length) lab && (({ s with code := tabCode s X.src tab tab.length } : Mk).pops (lab ++ [105])).2))) := by
            show _ = _
            rw [E0.out, HLAB.out, htk, Mk.kill_code]
            have e1 : (({ s with code := tabCode s X.src tab tab.length } : Mk).pops (lab ++ [105])).2 = (s.pops (lab ++ [105])).2 := rfl
            have e2 : (({ s with code := tabCode s X.src tab tab.length } : Mk).pops (lab ++ [105])).1.code = tabCode s X.src tab tab.length := rfl
            have e3 : (({ s with code := tabCode s X.src tab tab.length } : Mk).pops (lab ++ [105])).1 = { (s.pops (lab ++ [105])).1 with code := tabCode s X.src tab tab.length } := rfl
            rw [e1, e2, e3]
            have hcsp : (s.pops (lab ++ [105])).1.cs = c0 :: r0 := CTX.out.top.cs
            unfold Mk.kill
            simp only [hcsp]
          clear E0 htk
          obtain ⟨sk, hsk⟩ : ∃ sk : Mk, sk = { s with code := tabCode s X.src tab tab.length } := ⟨_, rfl⟩
          have hskt : sk.Top c0 r0 := by rw [hsk]; exact ⟨CTX.out.top.cs, CTX.out.top.fl⟩
          have hskl : sk.st.length ≤ 500 := by rw [hsk]; exact CTX.out.st
          have hskc : sk.code.length ≤ 600 := by rw [hsk]; have := CODELEN.out; show (tabCode s X.src tab tab.length).length ≤ 600; omega
          have G2 := G1.out
          have E2 := E1.out
          rw [← hsk] at G2 E2
          generalize tabOut s X.src tab tab.length = fo at *
          obtain ⟨fop, fimm, fkeep, fcut⟩ := fo
          generalize s.tableOk (tab.take tab.length) lab = tok at *
          have H5 : Hid (OneL X wr L cv' sk ⟨fop, fimm, fkeep, fcut⟩) := G2
          have E3 : Hid (s.one E X.src i X.c = _) := E2
          have CODE5 : Hid (sk.code.length ≤ 600) := hskc
          have HT5 : Hid (sk.Top c0 r0) := hskt
          clear G1 G2 E1 E2 hsk hskc hskt
          obtain ⟨i0, i1, i2, o0, o1, o2, o3, of, p4, k0, k1, kf, m0, m1, m2, m3, m4, gf, lc, lo, lp, lk, lg⟩ := H5.out.facts HX.out CTX.out.me
          rw [hsv] at m3
          rw [HTG.out] at i2
          go_wp2_with fail
          rw [show (Value.string (⟨lab.toArray⟩ ++ ⟨#[105]⟩)) = sv (lab ++ [105]) from by congr 1]
          refine (mpops_any X.bk L sk (lab ++ [105]) wr H5.out.k HT5.out (by omega) (by omega) (by simp; omega)).mono ?_
          rintro e w5 ⟨rfl, g1, g2⟩
          have H6 : Hid (OneL X w5 L cv' (sk.pops (lab ++ [105])).1 ⟨fop, fimm, fkeep, fcut⟩) := H5.out.chk g1 g2 rfl
          have hl5 := sk.pops_len2 (lab ++ [105])
          have HT6 : Hid ((sk.pops (lab ++ [105])).1.Top c0 r0) := Mk.pops_top HT5.out _
          clear g1 g2 H5
          clear i0 i1 i2 o0 o1 o2 o3 of p4 k0 k1 kf m0 m1 m2 m3 m4 gf lc lo lp lk lg
          have KEY : Hid (∀ b, b = (tok && (sk.pops (lab ++ [105])).2) → s.one E X.src i X.c = ({ (sk.pops (lab ++ [105])).1.kill with code := (sk.pops (lab ++ [105])).1.kill.code ++ [⟨fop, fimm, fkeep, fcut⟩] }, typedM b)) := fun b hb => by rw [E3.out, hb]
          have HPC : Hid ((sk.pops (lab ++ [105])).1.kill.code.length ≤ 600) := by show _ ≤ _; rw [Mk.kill_code]; exact CODE5.out
          clear E3
          have HD : Hid (∀ w', MkRep w' X.bk L (sk.pops (lab ++ [105])).1 → _) := fun w' h' => mdead_any X.bk L (sk.pops (lab ++ [105])).1 w' h' HT6.out (by omega) (by omega)
          cases hpk : (sk.pops (lab ++ [105])).2 with
          | true =>
            rw [hpk] at KEY
            go_wp2_with fail
            refine (HD.out _ H6.out.k).mono ?_
            rintro e w6 ⟨rfl, g1, g2⟩
            have H7 : Hid (OneL X w6 L cv' (sk.pops (lab ++ [105])).1.kill ⟨fop, fimm, fkeep, fcut⟩) := H6.out.chk g1 g2 (Mk.kill_code _)
            clear g1 g2 H6
            go_wp2
            obtain ⟨i09, i19, i29, o09, o19, o29, o39, of9, p49, k09, k19, kf9, m09, m19, m29, m39, m49, gf9, lc9, lo9, lp9, lk9, lg9⟩ := H7.out.facts HX.out CTX.out.me
            clear i09 i19 i29 p49 k09 k19 kf9 m09 m19 m29 m39 lc9 lp9 lk9
            have hcl9 : ((sk.pops (lab ++ [105])).1.kill : Mk).code.length ≤ 600 := HPC.out
            refine wp_region_app rowFlat 6 (by kernel_rfl) (by kernel_rfl) (fun _ _ _ _ _ h => h) _ _ _ rfl (.tmp 511) (.tmp 510) 512 513 rfl rfl rfl rfl rfl rfl _ _ _ H7.out.code (.agg #[.int .i64 (fop), .int .i64 (fimm), .int .i64 (fkeep), .int .i64 (fcut)]) rfl (by decide) (by simp [Value.cells, Value.oneCell']) (by omega) ?_
            intro g2 cap w99 q1 q2 q3 q4
            have FIN : Hid (OneL X _ _ _ _ _) := H7.out.app HX.out q2 (by simpa [Flat.cells, Value.cells] using q1) q3
            obtain ⟨y09, y19, y29, y39, y49, yf9⟩ := H7.out.mid HX.out CTX.out.me q2
            clear q1 q2 q3 q4 H7
            simp only [List.take_succ_cons, List.take_zero]
            repeat go_big_quiet_step (fail)
            refine wpQuiet_nil ⟨rfl, rfl, by simp, rfl, ?_⟩
            go_wp2_with fail
            refine (typed_any tok _).mono ?_
            rintro e w8 ⟨rfl, rfl⟩
            go_wp2
            go_ret
            rw [KEY.out tok (by simp)]
            exact ⟨rfl, FIN.out.fr, fun _ => ⟨_, _, _, FIN.out⟩⟩
          | false =>
            rw [hpk] at KEY
            go_wp2_with fail
            refine (HD.out _ H6.out.k).mono ?_
            rintro e w6 ⟨rfl, g1, g2⟩
            have H7 : Hid (OneL X w6 L cv' (sk.pops (lab ++ [105])).1.kill ⟨fop, fimm, fkeep, fcut⟩) := H6.out.chk g1 g2 (Mk.kill_code _)
            clear g1 g2 H6
            go_wp2
            obtain ⟨i09, i19, i29, o09, o19, o29, o39, of9, p49, k09, k19, kf9, m09, m19, m29, m39, m49, gf9, lc9, lo9, lp9, lk9, lg9⟩ := H7.out.facts HX.out CTX.out.me
            clear i09 i19 i29 p49 k09 k19 kf9 m09 m19 m29 m39 lc9 lp9 lk9
            have hcl9 : ((sk.pops (lab ++ [105])).1.kill : Mk).code.length ≤ 600 := HPC.out
            refine wp_region_app rowFlat 6 (by kernel_rfl) (by kernel_rfl) (fun _ _ _ _ _ h => h) _ _ _ rfl (.tmp 511) (.tmp 510) 512 513 rfl rfl rfl rfl rfl rfl _ _ _ H7.out.code (.agg #[.int .i64 (fop), .int .i64 (fimm), .int .i64 (fkeep), .int .i64 (fcut)]) rfl (by decide) (by simp [Value.cells, Value.oneCell']) (by omega) ?_
            intro g2 cap w99 q1 q2 q3 q4
            have FIN : Hid (OneL X _ _ _ _ _) := H7.out.app HX.out q2 (by simpa [Flat.cells, Value.cells] using q1) q3
            obtain ⟨y09, y19, y29, y39, y49, yf9⟩ := H7.out.mid HX.out CTX.out.me q2
            clear q1 q2 q3 q4 H7
            simp only [List.take_succ_cons, List.take_zero]
            repeat go_big_quiet_step (fail)
            refine wpQuiet_nil ⟨rfl, rfl, by simp, rfl, ?_⟩
            go_wp2_with fail
            refine (typed_any false _).mono ?_
            rintro e w8 ⟨rfl, rfl⟩
            go_wp2
            go_ret
            rw [KEY.out false (by simp)]
            exact ⟨rfl, FIN.out.fr, fun _ => ⟨_, _, _, FIN.out⟩⟩

end Go.Proofs.Qxb6500575aGreatDoor
