/-
  THE WALK of tablem: Set.
-/
import Derived.Test.Qxb6500574aGreatDoorZB3
namespace Go.Proofs.Qxb6500574aGreatDoor
open Go Go.RowKit
set_option linter.unusedVariables false
set_option linter.unusedSimpArgs false
/-- a world that has grown out of W, but for the blocks of one slice -/
structure WG (W : World) (a : Option Addr) where
  y : World
  f : Fr (fun k => (Value.slice a 0 0).ownBlock = some k) W y
theorem WG.non (W : World) (a : Option Addr) : Nonempty (WG W a) := ⟨⟨W, Fr.refl _ _⟩⟩
theorem WG.has {W : World} {a : Option Addr} (z : WG W a) {b : Nat} {cs : Array Value} {T : TypeId} (h : Has W b cs T) (hb : (Value.slice a 0 0).ownBlock ≠ some b) : Has z.y b cs T := h.fr z.f hb
theorem WG.cell {W : World} {a : Option Addr} (z : WG W a) {b j : Nat} {v : Value} (h : W.cell? ⟨b, j, none⟩ = some v) (hb : (Value.slice a 0 0).ownBlock ≠ some b) : z.y.cell? ⟨b, j, none⟩ = some v := by
  have hl : b < W.heap.size := by
    rcases Nat.lt_or_ge b W.heap.size with h1 | h1
    · exact h1
    · simp [World.cell?, Array.getElem?_eq_none h1] at h
  have := z.f.block b hl hb
  simp only [World.cell?] at h ⊢
  rw [this]
  exact h
theorem rowPair : IsRow Tryz.prog 218 217 (.agg #[.int .i64 0, .int .u64 0, sv [], .int .i64 0, .int .u64 0, sv []]) 6 64 := ⟨by kernel_rfl, by kernel_rfl, rfl, by decide⟩
theorem eCells_one (e : Vl × Vl) : ∀ u ∈ eCells e, u.oneCell' = true := by
  intro u hu
  simp [eCells, vCells] at hu
  rcases hu with h | h | h | h | h | h <;> subst h <;> rfl
section
variable {w : World} {o : Nat → Nat} {bt bn h : Nat} {s sl : Sl} {xs : List TmX} {l : PrL}
set_option maxRecDepth 100000
set_option maxHeartbeats 1000000
/-- what Set comes to -/
def SetQ (w : World) (o : Nat → Nat) (bt bn : Nat) (s : Sl) (xs : List TmX) (h : Nat) (r : Nat × PrL) (e : Ending) (w' : World) : Prop :=
  e = .returned (.int .i64 r.1) ∧ ∃ o' sl', TmRep w' o' bt bn s (xs.set h (sl', r.2)) ∧ Stp isTm w o w' o'
theorem tmset_same {xs : List TmX} {h : Nat} {x : TmX} (hx : xs[h]? = some x) : xs.set h x = xs := by
  obtain ⟨h1, h2⟩ := List.getElem?_eq_some_iff.1 hx
  rw [← h2, List.set_getElem_self]
theorem tset_m (r : TmRep w o bt bn s xs) (hx : xs[h]? = some (sl, l)) (k v : Vl) (hk : wellV k = true) (hv : wellV v = true) (hn : k.t = 2 → k.n < 18446744073709551616) : Calls Tryz.prog 75 #[.pointer (some ⟨bt, 0, none⟩), .int .i64 h, k.val, v.val] w (SetQ w o bt bn s xs h (putM l k v)) := by
  obtain ⟨Q, HQ⟩ : ∃ Q : Ending → World → Prop, Hid (SetQ w o bt bn s xs h (putM l k v) = Q) := ⟨_, rfl⟩
  rw [HQ.out]
  obtain ⟨O, HO⟩ : ∃ O, Hid (putM l k v = O) := ⟨_, rfl⟩
  rw [HO.out] at HQ
  have HQ1 : Hid (∀ c W, O = (c, l) → Fr (fun _ => False) w W → Q (.returned (.int .i64 (c : Nat))) W) := fun c W hO hF => by
    rw [← HQ.out, hO]
    exact ⟨rfl, o, sl, by rw [tmset_same hx]; exact r.fresh hF, Stp.fresh _ _ hF⟩
  have b1 := r.here.has.cell 1
  simp only [List.getElem?_toArray, List.getElem?_cons_zero, List.getElem?_cons_succ, Sl.v] at b1
  have hbt := r.here.has.lt
  obtain ⟨g, ga, gc, go3, gl, gx, gf⟩ := r.at hx
  have HGF := hid gf
  have HG3 := hid go3
  clear gf go3
  have HGA : Hid (s.a = some ⟨g, 0, none⟩) := ga
  rw [ga] at b1
  have hlt := (List.getElem?_eq_some_iff.1 hx).1
  have l12 := r.le
  have l32 : l.length ≤ 32 := r.ld _ (List.mem_of_getElem? hx)
  have HR : Hid (TmRep w o bt bn s xs) := r
  have HX : Hid (xs[h]? = some (sl, l)) := hx
  have HWK : Hid (∀ W, Calls Tryz.prog 108 #[k.val] W fun e w' => e = .returned (.bool true) ∧ Fr (fun _ => False) W w') := fun W => by have := well_any (w := W) k; rw [hk] at this; exact this
  have HWV : Hid (∀ W, Calls Tryz.prog 108 #[v.val] W fun e w' => e = .returned (.bool true) ∧ Fr (fun _ => False) W w') := fun W => by have := well_any (w := W) v; rw [hv] at this; exact this
  have HNN : Hid (∀ W, Fr (fun _ => False) w W → Calls Tryz.prog 109 #[.pointer (some ⟨bt, 0, none⟩), k.val] W fun e w' => e = .returned (.bool (decide (k.t = 2) && isNan k.n)) ∧ Fr (fun _ => False) W w') := fun W hW => tisNaN_m (HR.out.fresh hW) k hn
  have HFD : Hid (∀ W, Fr (fun _ => False) w W → Calls Tryz.prog 110 #[.pointer (some ⟨bt, 0, none⟩), .int .i64 h, k.val] W fun e w' => e = .returned (.int .i64 (findI (findM l k))) ∧ Fr (fun _ => False) W w') := fun W hW => tfind_m (HR.out.fresh hW) HX.out k
  have HNM : Hid (∀ W, Calls Tryz.prog 111 #[k.val] W fun e w' => e = .returned (normM k).val ∧ Fr (fun _ => False) W w') := fun W => norm_m k
  have HP : Hid (∀ p, findM l k = some p → ∃ e, l[p]? = some e) := fun p hp => by obtain ⟨x, x1, _⟩ := findM_some hp; exact ⟨x, x1⟩
  unfold putM at HO
  rw [hk, hv] at HO
  simp only [Bool.not_true, Bool.or_self, Bool.false_eq_true, if_false] at HO
  clear r hx ga hk hv hn
  obtain ⟨kt, kn, ks⟩ := k
  obtain ⟨vt, vn, vs⟩ := v
  dsimp only at HO HNN
  obtain ⟨N, HNL⟩ : ∃ N : Nat, Hid (xs.length = N) := ⟨_, rfl⟩
  rw [HNL.out] at b1 gc hlt l12
  obtain ⟨M, HM⟩ : ∃ M : Nat, Hid (l.length = M) := ⟨_, rfl⟩
  rw [HM.out] at gx l32 HO
  have hh1 : ((h : Int) < 0) = False := by simp
  have hh2 : ((N : Int) ≤ (h : Int)) = False := by simp; omega
  go_enter Tryz.func75, Tryz.ntmps75
  go_wp2_with fail
  refine (HWK.out _).mono ?_
  rintro e w1 ⟨rfl, F1⟩
  have F2 : Fr (fun _ => False) w w1 := (((Fr.refl _ _).alloc _).alloc _).trans F1 (fun _ _ x => x)
  have K1 : Has w1 w.heap.size #[.int .i64 kt, .int .u64 kn, sv ks] 68 := ((Has.new _ _ _).alloc _).fr F1 (fun x => x)
  have V1 : Has w1 (w.heap.size + 1) #[.int .i64 vt, .int .u64 vn, sv vs] 68 := (Has.newC _ _ _ (by simp)).fr F1 (fun x => x)
  obtain ⟨A0, HA0⟩ : ∃ A0, Hid (w.heap.size = A0) := ⟨_, rfl⟩
  obtain ⟨A1, HA1⟩ : ∃ A1, Hid (w.heap.size + 1 = A1) := ⟨_, rfl⟩
  rw [HA0.out] at K1
  rw [HA1.out] at V1
  rw [HA0.out, show A0 + 1 = A1 by rw [← HA0.out, ← HA1.out]]
  obtain ⟨y0, y1, y2⟩ := Has.cells3 (v := ⟨vt, vn, vs⟩) V1
  dsimp only at y0 y1 y2
  have lt1 := V1.lt
  clear F1
  go_wp2_with fail
  refine (HWV.out _).mono ?_
  rintro e w2 ⟨rfl, F3⟩
  have F4 : Fr (fun _ => False) w w2 := F2.trans F3 (fun _ _ x => x)
  have K2 := K1.fr F3 (fun x => x)
  have V2 := V1.fr F3 (fun x => x)
  clear F2 F3 K1 V1 y0 y1 y2 lt1 HWK HWV
  obtain ⟨x0, x1, x2⟩ := Has.cells3 (v := ⟨kt, kn, ks⟩) K2
  dsimp only at x0 x1 x2
  have lt2 := K2.lt
  by_cases hk0 : kt = 0
  · have HO2 : Hid (O = (5, l)) := by show _ = _; rw [← HO.out, if_pos hk0]
    have HF := hid F4
    subst hk0
    clear F4 V2 K2 HO
    go_wp2_with fail
    exact HQ1.out 5 _ HO2.out HF.out
  rw [if_neg hk0] at HO
  have bk0 : (kt == 0) = false := by rw [beq_eq_false_iff_ne]; exact hk0
  clear hk0
  have C3 := HNN.out w2 F4
  obtain ⟨z, HZ⟩ : ∃ z, Hid ((decide (kt = 2) && isNan kn) = z) := ⟨_, rfl⟩
  rw [HZ.out] at C3
  have HC3 := hid C3
  clear C3
  go_wp2_with fail
  refine HC3.out.mono ?_
  rintro e w3 ⟨rfl, F5⟩
  have F6 : Fr (fun _ => False) w w3 := F4.trans F5 (fun _ _ x => x)
  have K3 := K2.fr F5 (fun x => x)
  have V3 := V2.fr F5 (fun x => x)
  clear F4 F5 K2 V2 x0 x1 x2 lt2 HC3 HNN
  obtain ⟨x0, x1, x2⟩ := Has.cells3 (v := ⟨kt, kn, ks⟩) K3
  dsimp only at x0 x1 x2
  have lt3 := K3.lt
  cases z
  case true =>
    have HO2 : Hid (O = (6, l)) := by
      show _ = _
      have hz := HZ.out
      rw [Bool.and_eq_true, decide_eq_true_eq] at hz
      rw [← HO.out, if_pos hz]
    have HF := hid F6
    clear F6 K3 V3 HO
    go_wp2_with fail
    exact HQ1.out 6 _ HO2.out HF.out
  rw [if_neg (fun q => by have hz := HZ.out; rw [Bool.and_eq_false_iff] at hz; rcases hz with hz | hz; exact absurd q.1 (of_decide_eq_false hz); rw [q.2] at hz; cases hz)] at HO
  have C4 := hid (HFD.out w3 F6)
  go_wp2_with fail
  refine C4.out.mono ?_
  rintro e w4 ⟨rfl, F7⟩
  have F8 : Fr (fun _ => False) w w4 := F6.trans F7 (fun _ _ x => x)
  have K4 := K3.fr F7 (fun x => x)
  have V4 := V3.fr F7 (fun x => x)
  clear F6 F7 K3 V3 x0 x1 x2 lt3 C4 HFD HZ
  obtain ⟨x0, x1, x2⟩ := Has.cells3 (v := ⟨kt, kn, ks⟩) K4
  dsimp only at x0 x1 x2
  have lt4 := K4.lt
  obtain ⟨y0, y1, y2⟩ := Has.cells3 (v := ⟨vt, vn, vs⟩) V4
  dsimp only at y0 y1 y2
  have lt5 := V4.lt
  have b1' := F8.cell b1
  have gx' := F8.cell gx
  have hbt' : bt < w4.heap.size := Nat.lt_of_lt_of_le hbt F8.size
  have gl' : g < w4.heap.size := Nat.lt_of_lt_of_le gl F8.size
  have HF := hid F8
  have HRW := hid (HR.out.fresh F8)
  have HK4 := hid K4
  have HV4 := hid V4
  clear F8 b1 gx hbt gl K4 V4
  rcases hfm : findM l ⟨kt, kn, ks⟩ with _ | p
  · rw [hfm] at HO
    dsimp only at HO
    have e0 : findI none = -1 := rfl
    by_cases hv0 : vt = 0
    · have HO2 : Hid (O = (0, l)) := by show _ = _; rw [← HO.out, if_pos hv0]
      subst hv0
      clear HO HP hfm
      go_wp2_with fail
      exact HQ1.out 0 _ HO2.out HF.out
    rw [if_neg hv0] at HO
    have bv0 : (vt == 0) = false := by rw [beq_eq_false_iff_ne]; exact hv0
    clear hv0
    by_cases h32 : 32 ≤ M
    · have HO2 : Hid (O = (8, l)) := by show _ = _; rw [← HO.out, if_pos h32]
      have h32i : ((32 : Int) ≤ (M : Int)) = True := by simp; omega
      clear HO HP hfm
      go_wp2_with fail
      exact HQ1.out 8 _ HO2.out HF.out
    rw [if_neg h32] at HO
    have h32i : ((32 : Int) ≤ (M : Int)) = False := by simp; omega
    obtain ⟨⟨nt, nn, ns⟩, HNV⟩ : ∃ q, Hid (normM ⟨kt, kn, ks⟩ = q) := ⟨_, rfl⟩
    rw [HNV.out] at HO HNM
    have HRow := hid (HRW.out.one h _ HX.out)
    have HOWN : Hid (w4.ownsRow 0 217 6 (sl.v l.length) l.length (l.flatMap eCells)) := HRow.out.own
    have HRL : Hid (∀ k, (Value.slice sl.a 0 0).ownBlock = some k → o k = 40 + h ∧ k < w.heap.size) := fun k hk => ⟨HRow.out.lb k hk, (HR.out.one h _ HX.out).lt hk⟩
    have ob : (Value.slice sl.a 0 0).ownBlock ≠ some bt := fun hq => by have := (HRL.out _ hq).1; have := HRW.out.here.lb; omega
    have og : (Value.slice sl.a 0 0).ownBlock ≠ some g := fun hq => by have := (HRL.out _ hq).1; have := HG3.out; omega
    have oA : (Value.slice sl.a 0 0).ownBlock ≠ some A0 := fun hq => by have := (HRL.out _ hq).2; have := HA0.out; omega
    have oB : (Value.slice sl.a 0 0).ownBlock ≠ some A1 := fun hq => by have := (HRL.out _ hq).2; have := HA1.out; omega
    have HNE := WG.non w4 sl.a
    have u1 := fun z : WG w4 sl.a => z.cell b1' ob
    have u2 := fun z : WG w4 sl.a => z.cell gx' og
    have u3 := fun z : WG w4 sl.a => z.cell x0 oA
    have u4 := fun z : WG w4 sl.a => z.cell x1 oA
    have u5 := fun z : WG w4 sl.a => z.cell x2 oA
    have u6 := fun z : WG w4 sl.a => z.cell y0 oB
    have u7 := fun z : WG w4 sl.a => z.cell y1 oB
    have u8 := fun z : WG w4 sl.a => z.cell y2 oB
    have HOB := hid ob
    have HOG := hid og
    clear ob og oA oB
    go_wp2
    refine wp_region_plan [0, 1, 2, 3, 4, 5, 6, 7, 9] (.one 8 (.quiet [10] (.one 11 (.one 12 .done)))) 13 (fun x => ∃ z : WG w4 sl.a, x = z.y) (by kernel_rfl) (by kernel_rfl) (fun _ _ _ _ _ h => h) ⟨⟨_, (Fr.refl _ _).drew⟩, rfl⟩ [_, _, _, _, _, _, _, _, _] rfl _ rfl ?_
    simp only [List.getElem_toArray, List.getElem_cons_succ, List.getElem_cons_zero, List.drop_succ_cons, List.drop_zero, List.length_cons, List.length_nil, Nat.zero_add]
    repeat go_big_quiet_step (fail)
    refine wpQuiet_nil ?_
    clear u1 u2 u3 u4 u5 u6 u7 u8
    refine ⟨fun a' a W => ∃ B g' cap, a = (((a'.put (some 79) (.agg #[.int .i64 nt, .int .u64 nn, sv ns])).put (some 81) (.agg #[.int .i64 nt, .int .u64 nn, sv ns, .int .i64 vt, .int .u64 vn, sv vs])).put (some 82) (.slice (some ⟨B, 0, none⟩) 1 1)).put (some 83) (.slice (some ⟨g', 0, none⟩) (M + 1) cap) ∧ Hid (W.ownsRow 0 217 6 (.slice (some ⟨g', 0, none⟩) (l.length + 1) cap) (l.length + 1) (l.flatMap eCells ++ eCells (⟨nt, nn, ns⟩, ⟨vt, vn, vs⟩)) ∧ Fr (fun k => (Value.slice sl.a 0 0).ownBlock = some k) w4 W ∧ ((Value.slice sl.a 0 0).ownBlock = some g' ∨ w4.heap.size ≤ g') ∧ g' < W.heap.size), ?_, ?_⟩
    · rintro a W hSW ⟨B, g', cap, rfl, HD⟩
      clear hSW HNE
      simp only [Act.put, List.setIfInBounds_toArray, List.set_cons_succ, List.set_cons_zero]
      have HSW : Hid (∃ z : WG w4 sl.a, W = z.y) := ⟨⟨W, HD.out.2.1⟩, rfl⟩
      have b1w := (⟨W, HD.out.2.1⟩ : WG w4 sl.a).cell b1' HOB.out
      have gxw := (⟨W, HD.out.2.1⟩ : WG w4 sl.a).cell gx' HOG.out
      dsimp only at b1w gxw
      have hbtw : bt < W.heap.size := Nat.lt_of_lt_of_le hbt' HD.out.2.1.size
      have glw : g < W.heap.size := Nat.lt_of_lt_of_le gl' HD.out.2.1.size
      obtain ⟨d1, d2, d3, d4⟩ := HD.out
      obtain ⟨r1, r2⟩ := HRow.out.app (Fr.refl _ w4) d1 (by rw [ownBlock_any sl.a l.length sl.c 0 0]; exact d2) (by rw [ownBlock_any sl.a l.length sl.c 0 0]; exact d3) d4
      obtain ⟨t1, t2⟩ := HRW.out.turn HX.out r2 (sl' := ⟨some ⟨g', 0, none⟩, cap⟩) (l' := l ++ [(⟨nt, nn, ns⟩, ⟨vt, vn, vs⟩)]) (by rw [List.length_append, List.flatMap_append]; exact r1) (by rw [List.length_append, HM.out]; simp; omega) HGA.out
      have hml : (l ++ [((⟨nt, nn, ns⟩ : Vl), (⟨vt, vn, vs⟩ : Vl))]).length = M + 1 := by rw [List.length_append, HM.out]; rfl
      dsimp only at t1 t2
      rw [hml] at t1 t2
      have FIN : Hid (Q (.returned (.int .i64 0)) (W.setCell ⟨g, h, none⟩ (.slice (some ⟨g', 0, none⟩) (M + 1) cap))) := by
        show Q _ _
        rw [← HQ.out, ← HO.out]
        exact ⟨rfl, _, _, t1, (Stp.fresh _ _ HF.out).trans t2⟩
      have fzw : W.frozen? ⟨g, h, none⟩ = false := by
        have := (HRW.out.row.st r2 (by omega)).cells (by rw [HNL.out]; omega)
        obtain ⟨g2, ga2, _, _, _, _, z⟩ := this
        rw [HGA.out] at ga2
        cases ga2
        exact z h
      clear HD d1 d2 d3 d4 r1 r2 t1 t2 hml HRow HOWN HO HP
      unfold wpChain
      go_wp2_with fail
      refine ⟨HSW.out, ?_⟩
      rw [wpChain_zero]
      go_wp2
      exact FIN.out
    · intro G HG
      refine ⟨_, rfl, ?_⟩
      go_wp2_with fail
      refine (HNM.out _).mono ?_
      rintro e' w5 ⟨rfl, f5⟩
      have f6 : Fr (fun k => (Value.slice sl.a 0 0).ownBlock = some k) w4 w5 := ((Fr.refl _ w4).drew).trans f5 (fun _ _ x => x.elim)
      have HF6 := hid f6
      have HO5 : Hid (w5.ownsRow 0 217 6 (sl.v l.length) l.length (l.flatMap eCells)) := (HRow.out.st (Stp.fresh (fun _ => False) o (((Fr.refl _ w4).drew).trans f5 (fun _ _ x => x))) (fun x => x)).own
      clear f5 f6
      go_wp2_with fail
      refine ⟨⟨⟨_, HF6.out⟩, rfl⟩, [_], rfl, ?_⟩
      simp only [List.getElem_toArray, List.getElem_cons_succ, List.getElem_cons_zero]
      repeat go_big_quiet_step (fail)
      refine wpQuiet_nil ?_
      refine ⟨_, rfl, ?_⟩
      go_wp2_with fail
      refine ⟨⟨⟨_, HF6.out.alloc _⟩, rfl⟩, _, rfl, ?_⟩
      refine wpList_appN rowPair _ rfl (.tmp 77) (.tmp 82) rfl (sl.v l.length) l.length (l.flatMap eCells) (by rw [HM.out]; rfl) (owns_alloc HO5.out _) w5.heap.size 1 1 (eCells (⟨nt, nn, ns⟩, ⟨vt, vn, vs⟩)) rfl (Has.new _ _ _) rfl (by omega) (eCells_one _) ?bd ?go
      case bd => rw [HM.out]; omega
      case go =>
        intro g' cap w6 q1 q2 q3 q4
        have z2 : Fr (fun k => (Value.slice sl.a 0 0).ownBlock = some k) w4 w6 := (HF6.out.alloc _).trans (q2.weaken (fun k _ hk => by rw [ownBlock_any sl.a l.length sl.c 0 0] at hk; exact hk)) (fun _ _ x => x)
        have z3 : (Value.slice sl.a 0 0).ownBlock = some g' ∨ w4.heap.size ≤ g' := by
          rcases q3 with q3 | q3
          · left; rw [ownBlock_any sl.a l.length sl.c 0 0] at q3; exact q3
          · right; rw [q3]; have := HF6.out.size; simp; omega
        refine ⟨⟨⟨_, z2⟩, rfl⟩, ?_⟩
        show G _ _
        rw [HG.out, HM.out]
        rw [HM.out] at q1
        exact ⟨w5.heap.size, g', cap, by kernel_rfl, q1, z2, z3, q4⟩
  · obtain ⟨⟨ek, ev⟩, hE⟩ := HP.out p hfm
    rw [hfm] at HO
    dsimp only at HO
    have hgd : l.getD p pr00 = (ek, ev) := by rw [List.getD_eq_getElem?_getD, hE]; rfl
    rw [hgd] at HO
    have hpl : p < M := by rw [← HM.out]; exact (List.getElem?_eq_some_iff.1 hE).1
    obtain ⟨q, qa, qc, _, ql, qf, _, _, _, p0, p1, p2⟩ := HRW.out.pair HX.out hE
    obtain ⟨T1, T2⟩ := HRW.out.setV HX.out hE qa ⟨vt, vn, vs⟩
    have FIN : Hid (Q (.returned (.int .i64 0)) ((((w4.setCell ⟨q, p * 6 + 3, none⟩ (.int .i64 vt)).setCell ⟨q, p * 6 + 4, none⟩ (.int .u64 vn)).setCell ⟨q, p * 6 + 5, none⟩ (sv vs)).drew)) := by
      show Q _ _
      rw [← HQ.out, ← HO.out]
      refine ⟨rfl, o, sl, T1.fresh ((Fr.refl _ _).drew), ((Stp.fresh _ _ HF.out).trans T2).drew⟩
    rw [qa] at gx'
    rw [HM.out] at qc
    dsimp only at p0 p1 p2
    have e0 : findI (some p) = (p : Int) := rfl
    have f3 := qf (p * 6 + 3)
    have f4 := qf (p * 6 + 4)
    have f5 := qf (p * 6 + 5)
    clear hE qa HO HP hfm hgd T1 T2 qf
    go_wp2
    refine wp_region_tail 9 (by kernel_rfl) (by kernel_rfl) (fun _ _ _ _ _ h => h) ?_
    simp only [List.take_succ_cons, List.take_zero, List.drop_succ_cons, List.drop_zero]
    repeat go_big_quiet_step (fail)
    refine wpQuiet_nil ?_
    go_wp2
    exact FIN.out
end
end Go.Proofs.Qxb6500574aGreatDoor
