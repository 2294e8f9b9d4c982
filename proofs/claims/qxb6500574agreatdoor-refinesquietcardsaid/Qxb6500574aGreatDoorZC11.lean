/-
  THE WALKS of compm: the tables seen from the interpreter; set.
-/
import Derived.Test.Qxb6500574aGreatDoorZC10
namespace Go.Proofs.Qxb6500574aGreatDoor
open Go Go.RowKit
set_option linter.unusedVariables false
set_option linter.unusedSimpArgs false
section
variable {w W W1 : World} {A A1 A2 : RnP} {N : List Nd} {root : Nat} {M : MD}
theorem tput_err {t : TabD} {k v : Vl} (h : (t.put k v).1 ≠ 0) : (t.put k v).2 = t := by
  unfold TabD.put at h ⊢
  split
  · rfl
  · rename_i h1
    rw [if_neg h1] at h
    split
    · rfl
    · rename_i h2
      rw [if_neg h2] at h
      split
      · rfl
      · rename_i h3
        rw [if_neg h3] at h
        dsimp only at h ⊢
        split
        · rename_i p hp
          rw [hp] at h
          exact absurd rfl h
        · rename_i hp
          rw [hp] at h
          dsimp only at h
          split
          · rfl
          · rename_i h4
            rw [if_neg h4] at h
            split
            · rfl
            · rename_i h5
              rw [if_neg h5] at h
              split at h
              · exact absurd rfl h
              · exact absurd rfl h
/-- table h of the interpreter -/
theorem MRep.tabAt (R : MRep W A1 N root M) {h : Nat} (hh : h < M.tabs.length) : ∃ sl, A1.tx[h]? = some (sl, (M.tabs.getD h tab0).order) := by
  have e := R.tabs
  have hl : h < A1.tx.length := by
    have := congrArg List.length e
    simp at this
    omega
  refine ⟨(A1.tx[h]).1, ?_⟩
  have e2 := congrArg (fun l => l[h]?) e
  simp only [List.getElem?_map, List.getElem?_eq_getElem hl, List.getElem?_eq_getElem hh, Option.map_some, Option.some.injEq] at e2
  rw [List.getElem?_eq_getElem hl, List.getD_eq_getElem?_getD, List.getElem?_eq_getElem hh]
  exact congrArg some (Prod.ext rfl e2)
theorem MRep.tlen (R : MRep W A1 N root M) : A1.tx.length = M.tabs.length := by have := congrArg List.length R.tabs; simpa using this
theorem RB.tget (B : RB w A N root W A1 M) (T : ∀ t ∈ M.tabs, TTi t) {h : Nat} (hh : h < M.tabs.length) {k : Vl} (hk : wellV k = true) (hb : k.t = 2 → k.n < 18446744073709551616) :
    Calls Tryz.prog 131 #[.pointer (some ⟨A.bt, 0, none⟩), .int .i64 h, k.val] W fun e w' => e = .returned (.tuple #[((M.tabs.getD h tab0).get k).val, .int .i64 0]) ∧ Fr (fun _ => False) W w' := by
  obtain ⟨sl, hx⟩ := B.r.tabAt hh
  have := tget_m B.r.tab hx k hk
  rw [B.s.bt, ← (T _ (by rw [List.getD_eq_getElem?_getD, List.getElem?_eq_getElem hh]; exact List.getElem_mem hh)).get hk hb] at this
  exact this
theorem RB.tlenC (B : RB w A N root W A1 M) (T : ∀ t ∈ M.tabs, TTi t) {h : Nat} (hh : h < M.tabs.length) :
    Calls Tryz.prog 206 #[.pointer (some ⟨A.bt, 0, none⟩), .int .i64 h] W fun e w' => e = .returned (.tuple #[.int .i64 (M.tabs.getD h tab0).len, .int .i64 0]) ∧ Fr (fun _ => False) W w' := by
  obtain ⟨sl, hx⟩ := B.r.tabAt hh
  have := tlen_m B.r.tab hx
  rw [B.s.bt, ← (T _ (by rw [List.getD_eq_getElem?_getD, List.getElem?_eq_getElem hh]; exact List.getElem_mem hh)).len] at this
  exact this
theorem RB.tnext (B : RB w A N root W A1 M) (T : ∀ t ∈ M.tabs, TTi t) {h : Nat} (hh : h < M.tabs.length) {k : Vl} (hk : wellV k = true) (hb : k.t = 2 → k.n < 18446744073709551616) :
    Calls Tryz.prog 125 #[.pointer (some ⟨A.bt, 0, none⟩), .int .i64 h, k.val] W fun e w' => e = .returned (nextR ((M.tabs.getD h tab0).next k)) ∧ Fr (fun _ => False) W w' := by
  obtain ⟨sl, hx⟩ := B.r.tabAt hh
  have := tnext_m B.r.tab hx k hk
  rw [B.s.bt, ← (T _ (by rw [List.getD_eq_getElem?_getD, List.getElem?_eq_getElem hh]; exact List.getElem_mem hh)).next hb] at this
  exact this
theorem RB.tset (B : RB w A N root W A1 M) (T : ∀ t ∈ M.tabs, TTi t) {h : Nat} (hh : h < M.tabs.length) {k v : Vl} (hk : wellV k = true) (hv : wellV v = true) (hb : k.t = 2 → k.n < 18446744073709551616) :
    Calls Tryz.prog 75 #[.pointer (some ⟨A.bt, 0, none⟩), .int .i64 h, k.val, v.val] W fun e w' => e = .returned (.int .i64 ((M.tabs.getD h tab0).put k v).1) ∧ ∃ A', RB w A N root w' A' { M with tabs := M.tabs.set h ((M.tabs.getD h tab0).put k v).2 } ∧ MSt W A1 w' A' := by
  obtain ⟨sl, hx⟩ := B.r.tabAt hh
  have hT := T _ (show M.tabs.getD h tab0 ∈ M.tabs by rw [List.getD_eq_getElem?_getD, List.getElem?_eq_getElem hh]; exact List.getElem_mem hh)
  have := tset_m B.r.tab hx k v hk hv hb
  rw [B.s.bt] at this
  refine this.mono ?_
  rintro e w' ⟨h1, o', sl', h2, h3⟩
  have hp := put_order hT (k := k) (v := v) hb
  rw [← hp] at h1 h2
  dsimp only at h1 h2
  have e9 : (A1.tx.set h (sl', ((M.tabs.getD h tab0).put k v).2.order)).map (fun x => x.2) = (M.tabs.set h ((M.tabs.getD h tab0).put k v).2).map (fun t => t.order) := by
    rw [List.map_set, List.map_set, B.r.tabs]
  obtain ⟨q1, q2⟩ := B.r.tabT h3 (by rw [B.s.bt]; exact h2) e9
  exact ⟨h1, _, ⟨q1, B.s.trans q2, B.c⟩, q2⟩
theorem RB.tmake (B : RB w A N root W A1 M) (hh : M.tabs.length < 12) :
    Calls Tryz.prog 73 #[.pointer (some ⟨A.bt, 0, none⟩)] W fun e w' => e = .returned (.tuple #[.int .i64 M.tabs.length, .int .i64 0]) ∧ ∃ A', RB w A N root w' A' { M with tabs := M.tabs ++ [tab0] } ∧ MSt W A1 w' A' := by
  have := tmake_m B.r.tab (by rw [B.r.tlen]; exact hh)
  rw [B.s.bt, B.r.tlen] at this
  refine this.mono ?_
  rintro e w' ⟨h1, o', s', h2, h3⟩
  have e9 : (A1.tx ++ [((sl0, []) : TmX)]).map (fun x => x.2) = (M.tabs ++ [tab0]).map (fun t => t.order) := by
    rw [List.map_append, List.map_append, B.r.tabs]
    rfl
  obtain ⟨q1, q2⟩ := B.r.tabT h3 (by rw [B.s.bt]; exact h2) e9
  exact ⟨h1, _, ⟨q1, B.s.trans q2, B.c⟩, q2⟩
theorem RB.tmakeF (B : RB w A N root W A1 M) (hh : 12 ≤ M.tabs.length) : Calls Tryz.prog 73 #[.pointer (some ⟨A.bt, 0, none⟩)] W fun e w' => e = .returned (.tuple #[.int .i64 (-1), .int .i64 8]) ∧ w' = W := by
  have := tmake_full B.r.tab (by rw [B.r.tlen]; exact hh)
  rw [B.s.bt] at this
  exact this
theorem RB.c0 (B : RB w A N root W A1 M) : W.cell? ⟨A.br, 0, none⟩ = some (.pointer (some ⟨A.bn, 0, none⟩)) ∧ W.cell? ⟨A.br, 1, none⟩ = some (.pointer (some ⟨A.bt, 0, none⟩)) ∧ A.br < W.heap.size := by
  have h0 : W.cell? ⟨A1.br, 0, none⟩ = some (.pointer (some ⟨A1.bn, 0, none⟩)) := B.r.rc 0 rfl
  have h1 : W.cell? ⟨A1.br, 1, none⟩ = some (.pointer (some ⟨A1.bt, 0, none⟩)) := B.r.rc 1 rfl
  have h2 := B.r.run.has.lt
  rw [B.s.br, B.s.bn] at h0
  rw [B.s.br, B.s.bt] at h1
  rw [B.s.br] at h2
  exact ⟨h0, h1, h2⟩
set_option maxRecDepth 100000
set_option maxHeartbeats 1000000
theorem set_m (B : RB w A N root W A1 M) (K : ThrOk M) (T : ∀ t ∈ M.tabs, TTi t) (h12 : M.tabs.length ≤ 12) {t k v : Vl} (ht : t.t = 4 → t.n < M.tabs.length) (hk : wellV k = true) (hv : wellV v = true) (hb : k.t = 2 → k.n < 18446744073709551616) :
    Calls Tryz.prog 118 #[.pointer (some ⟨A.br, 0, none⟩), t.val, k.val, v.val] W (PQm w A N root (M.setT t k v)) := by
  obtain ⟨Q, HQ⟩ : ∃ Q : Ending → World → Prop, Hid (PQm w A N root (M.setT t k v) = Q) := ⟨_, rfl⟩
  rw [HQ.out]
  obtain ⟨c0, c1, l0⟩ := B.c0
  obtain ⟨tt, tn, ts⟩ := t
  have FA : Hid (∀ x y z, Fr (fun _ => False) W (((W.alloc x).alloc y).alloc z)) := fun x y z => ((((Fr.refl _ _).alloc _).alloc _).alloc _)
  by_cases h4 : tt = 4
  · subst h4
    have hh := ht rfl
    dsimp only at hh
    obtain ⟨r, HRr⟩ : ∃ r, Hid ((M.tabs.getD tn tab0).put k v = r) := ⟨_, rfl⟩
    have HST : Hid (M.setT ⟨4, tn, ts⟩ k v = if r.1 = 8 then M.finish 8 [45] else if r.1 ≠ 0 then M.raise mKey else { M with tabs := M.tabs.set tn r.2 }) := by
      show _ = _
      unfold MD.setT
      rw [if_neg (fun z => z rfl), ← HRr.out]
    have HSM : Hid (r.1 ≠ 0 → ({ M with tabs := M.tabs.set tn r.2 } : MD) = M) := fun z => by
      rw [← HRr.out] at z ⊢
      rw [tput_err z]
      have : M.tabs.set tn (M.tabs.getD tn tab0) = M.tabs := by
        rw [List.getD_eq_getElem?_getD, List.getElem?_eq_getElem hh]
        exact List.set_getElem_self ..
      rw [this]
    have HC : Hid (∀ W2, Fr (fun _ => False) W W2 → Calls Tryz.prog 75 #[.pointer (some ⟨A.bt, 0, none⟩), .int .i64 tn, k.val, v.val] W2 fun e w' => e = .returned (.int .i64 r.1) ∧ ∃ A', RB w A N root w' A' { M with tabs := M.tabs.set tn r.2 } ∧ MSt W2 A1 w' A') := fun W2 f => by
      rw [← HRr.out]
      exact (B.fresh f).tset T hh hk hv hb
    have HK := hid K
    have htn : tn < 12 := by omega
    have u1 := fun x y z => (FA.out x y z).cell c1
    clear B K T ht hk hv hb hh h12 c0 c1
    obtain ⟨kt, kn, ks⟩ := k
    obtain ⟨vt, vn, vs⟩ := v
    go_enter Tryz.func118, Tryz.ntmps118
    go_wp2
    refine C.wp_region_tail 9 (by kernel_rfl) (by kernel_rfl) (fun _ _ _ _ _ h => h) ?_
    simp only [List.take_succ_cons, List.take_zero, List.drop_succ_cons, List.drop_zero]
    repeat go_big_quiet_step (fail)
    refine wpQuiet_nil ?_
    go_wp2_with fail
    refine (HC.out _ (FA.out _ _ _).drew).mono ?_
    rintro e w2 ⟨rfl, A2, B2, S2⟩
    by_cases h8 : r.1 = 8
    · have e8 : r.1 ≠ 0 := by omega
      rw [HSM.out e8] at B2
      have C2 := B2.finish 8 [45] (e' := 8) rfl
      have HC2 := hid C2
      rw [h8]
      clear B2 S2 C2 e8 u1
      go_wp2_with fail
      refine HC2.out.mono ?_
      rintro e3 w3 ⟨rfl, A3, B3, S3⟩
      have FIN : Hid (Q (.returned (.tuple #[])) w3) := by
        show Q _ _
        rw [← HQ.out, HST.out, if_pos h8]
        exact B3.end
      clear B3 S3
      go_wp2
      refine bodyPost_ret (results_none rfl _ _ _) rfl ?_
      exact FIN.out
    · by_cases h0 : r.1 = 0
      · have FIN : Hid (Q (.returned (.tuple #[])) w2) := by
          show Q _ _
          rw [← HQ.out, HST.out, if_neg h8, if_neg (fun z => z h0)]
          exact B2.end
        rw [h0]
        clear B2 S2 u1
        go_wp2
        go_end0
        exact FIN.out
      · rw [HSM.out h0] at B2
        have HC2 := hid (B2.raise HK.out mKey (by decide))
        have b8 : ((r.1 : Int) == 8) = false := by rw [beq_eq_false_iff_ne]; omega
        have b0 : ((r.1 : Int) != 0) = true := by rw [bne_iff_ne]; omega
        have HZ : Hid (M.setT ⟨4, tn, ts⟩ ⟨kt, kn, ks⟩ ⟨vt, vn, vs⟩ = M.raise mKey) := by
          show _ = _
          rw [HST.out, if_neg h8, if_pos h0]
        obtain ⟨r1, HR1⟩ : ∃ r1 : Nat, Hid (r.1 = r1) := ⟨_, rfl⟩
        rw [HR1.out] at b8 b0 ⊢
        clear B2 S2 u1 h8 h0
        go_wp2_with fail
        refine HC2.out.mono ?_
        intro e3 w3 hq3
        obtain rfl := hq3.1
        have FIN : Hid (Q (.returned (.tuple #[])) w3) := by
          show Q _ _
          rw [← HQ.out, HZ.out]
          exact hq3
        clear hq3
        go_wp2
        go_end0
        exact FIN.out
  · have HST : Hid (M.setT ⟨tt, tn, ts⟩ k v = M.raise mIndex) := by
      show _ = _
      unfold MD.setT
      rw [if_pos h4]
    have HC : Hid (∀ W2, Fr (fun _ => False) W W2 → Calls Tryz.prog 121 #[.pointer (some ⟨A.br, 0, none⟩), sv mIndex] W2 (PQm w A N root (M.raise mIndex))) := fun W2 f => (B.fresh f).raise K mIndex (by decide)
    have b4 : (tt != 4) = true := by rw [bne_iff_ne]; exact h4
    clear B K T ht hk hv hb h12 c0 c1 h4
    obtain ⟨kt, kn, ks⟩ := k
    obtain ⟨vt, vn, vs⟩ := v
    go_enter Tryz.func118, Tryz.ntmps118
    go_wp2_with fail
    refine (HC.out _ (FA.out _ _ _)).mono ?_
    intro e3 w3 hq3
    obtain rfl := hq3.1
    have FIN : Hid (Q (.returned (.tuple #[])) w3) := by
      show Q _ _
      rw [← HQ.out, HST.out]
      exact hq3
    clear hq3
    go_wp2
    refine bodyPost_ret (results_none rfl _ _ _) rfl ?_
    exact FIN.out
end
end Go.Proofs.Qxb6500574aGreatDoor
