/-
  THE WALK of runlaw.DoM.
-/
import Derived.Test.Qxb6500575aGreatDoorYNew
import Derived.Test.Qxb6500575aGreatDoorSSaid
import Derived.Test.Qxb6500575aGreatDoorRLoad
namespace Go.Proofs.Qxb6500575aGreatDoor
open Go Go.RowKit
set_option linter.unusedVariables false
set_option linter.unusedSimpArgs false

/-- what DoM leaves behind at a KCall -/
def DoMPost (R : MP) (H : HF HS) (K : ML) (m : MS) (L : NL) (w : World) (f : Int) (args : List BV) (m1 : MS) (e : Ending) (w' : World) : Prop :=
  ∃ L' K' m' er us len str, e = .returned (ansV er us len str) ∧ MW R w' L' K' m' ∧ MStep R (.slice none 0 0) w w' L L' K K' ∧
    ((owedP R.P f args ≠ 0 ∧ er = owedP R.P f args ∧ us = 0 ∧ len = 0 ∧ str = [124] ∧ m'.mem = m.mem ∧ m'.x.n = 0) ∨
     (owedP R.P f args = 0 ∧ ∃ N o, srun R.P R.srcs H R.max N ⟨2, [], 0, [], 1, 0, 0, 0, f.toNat⟩ m1 = some o ∧ m'.mem = o.m.mem ∧ m'.x.n = o.m.x.n ∧ us = o.m.x.used ∧ er = o.e ∧
       ((o.e ≠ 0 ∧ len = 0 ∧ str = 124 :: o.m.x.trace) ∨ (o.e = 0 ∧ len = o.m.x.st.length ∧ str = valsT (o.m.x.st.reverse.map V.bv) ++ 124 :: o.m.x.trace))))
/-- .. at any other operation -/
def DoMSame (R : MP) (K : ML) (m : MS) (L : NL) (w : World) (kind : Int) (e : Ending) (w' : World) : Prop :=
  e = .returned (sameV kind (memText m.mem R.max m.mem.length)) ∧ MW R w' L K m ∧ Fr (fun _ => False) w w'
abbrev domW (w : World) (o : OpD) : World := (w.alloc (.cells #[.int .i64 o.kind, .int .i64 o.a, .int .i64 o.b, .int .i64 o.c, sv o.s, sv o.t] 39)).alloc (.cells #[.int .i64 0, .int .i64 0, .int .i64 0, sv []] 46)
section
variable {R : MP} {H : HF HS} {m : MS} {w : World} {L : NL} {K : ML}
/-- the answer's block is written -/
theorem MW.ansPut (h : MW R w L K m) {b : Nat} {cs : Array Value} (hb : Has w b cs 46) {w' : World} (hf : Fr (fun k => k = b) w w') : MW R w' L K m := by
  have ht : Typed w (fun k => k = b) [46] := fun k e => by subst e; exact ⟨_, _, hb, by simp⟩
  exact ⟨h.inst.fr hf (h.inst.typed.apart ht (by decide)), h.prog.fr hf (fun k _ hk => h.prog.typed.apart ht (by decide) k hk), h.src.fr hf (h.src.typed.apart ht (by decide)), h.mem.fr hf (h.mem.typed.apart ht (by decide))⟩
set_option maxRecDepth 100000
set_option maxHeartbeats 2000000
theorem ydom_call (hM : MOk R) (hW : MW R w L K m) (o : OpD) (hk : o.kind = 10) (args : List BV) (aa : Option Addr) (cc : Nat) (hargs : w.ownsRow 0 70 2 (.slice aa args.length cc) args.length (bvCells args)) (hap : ∀ g, (Value.slice aa args.length cc).ownBlock = some g → ¬ NS R.bn L g) (hal : args.length ≤ 1000) (hfa : ∀ b ∈ args, I64 b.v) (hH : H = callH R.P o.c)
    (hps : ∀ u ∈ R.P.funs, TyL u.params) (hrun : owedP R.P o.a args = 0 → ∃ N q, srun R.P R.srcs H R.max N ⟨2, [], 0, [], 1, 0, 0, 0, o.a.toNat⟩ { m with x := ND.begin o.b (decide (o.c = 0)) o.t (stk args) } = some q) (hbd : owedP R.P o.a args = 0 → ∀ N q, srun R.P R.srcs H R.max N ⟨2, [], 0, [], 1, 0, 0, 0, o.a.toNat⟩ { m with x := ND.begin o.b (decide (o.c = 0)) o.t (stk args) } = some q → q.m.x.trace.length ≤ 700 ∧ (q.e = 0 → q.m.x.st.length ≤ 3)) :
    Calls Tryz.prog 45 #[.pointer (some ⟨R.bn, 0, none⟩), .slice aa args.length cc, o.val] w (DoMPost R H K m L w o.a args { m with x := ND.begin o.b (decide (o.c = 0)) o.t (stk args) }) := by
  obtain ⟨W, HW⟩ : ∃ W, Hid (W = domW w o) := ⟨_, rfl⟩
  have F0 : Fr (fun _ => False) w W := by rw [HW.out]; exact ((Fr.refl _ _).alloc _).alloc _
  have hA : Has W (w.heap.size + 1) #[.int .i64 0, .int .i64 0, .int .i64 0, sv []] 46 := by
    rw [HW.out]
    have := Has.new (w.alloc (.cells #[.int .i64 o.kind, .int .i64 o.a, .int .i64 o.b, .int .i64 o.c, sv o.s, sv o.t] 39)) #[.int .i64 0, .int .i64 0, .int .i64 0, sv []] 46
    simpa using this
  have hW1 := hW.fresh F0
  have hrow := owns_fr hargs F0 (fun _ _ h => h)
  have hhost : (decide (o.c = 0) = false ∧ H = noHost) ∨ (decide (o.c = 0) = true ∧ H = hostF R.P tapeAsk) := by
    rw [hH]
    unfold callH
    by_cases h0 : o.c = 0
    · exact .inr ⟨by simp [h0], by rw [if_pos h0]⟩
    · exact .inl ⟨by simp [h0], by rw [if_neg h0]⟩
  have HC : Hid (Calls _ _ _ _ _) := ycall_any hM hW1 o.a args aa cc hrow hap hal hfa o.b (decide (o.c = 0)) o.t hhost hps hrun
  have HBD : Hid (owedP R.P o.a args = 0 → ∀ N q, srun R.P R.srcs H R.max N ⟨2, [], 0, [], 1, 0, 0, 0, o.a.toNat⟩ { m with x := ND.begin o.b (decide (o.c = 0)) o.t (stk args) } = some q → q.m.x.trace.length ≤ 700 ∧ (q.e = 0 → q.m.x.st.length ≤ 3)) := hbd
  have HWW : Hid (MW R W L K m) := hW1
  have HAN : Hid (Has W (w.heap.size + 1) _ _) := hA
  have HF0 : Hid (Fr _ w W) := F0
  have HLT : Hid (∀ k, MWS R L K k → k < w.heap.size) := fun k hk => by
    rcases hk with hk | hk
    · exact hW.inst.lt hk
    · obtain ⟨cs, t, h1, _⟩ := hW.mem.typed k hk
      exact h1.lt
  obtain ⟨na, HNA⟩ : ∃ na, Hid (args.length = na) := ⟨_, rfl⟩
  rw [HNA.out] at HC ⊢
  clear hM hW hargs hap hal hfa hH hps hrun hbd hW1 hrow hhost hA F0
  obtain ⟨kind, oa, ob, oc, os, ot⟩ := o
  simp only at hk HC HBD HW ⊢
  subst hk
  unfold OpD.val
  simp only
  have hWe := HW.out
  unfold domW at hWe
  simp only at hWe
  rw [hWe] at HC
  have hdec : (oc == 0) = decide (oc = 0) := by rw [Bool.eq_iff_iff]; simp
  rw [← hdec] at HC HBD ⊢
  clear hdec
  go_enter Tryz.func45, Tryz.ntmps45
  go_wp2_with fail
  refine HC.out.mono ?_
  rintro e w1 hp
  rw [← hWe] at hp
  obtain ⟨L', K', m', M1, S1, hp⟩ := hp
  obtain ⟨us, er, bs, va, vc, rfl, hown, hbl, htl, hfin⟩ : ∃ us er, ∃ bs : List BV, ∃ va vc, e = .returned (.tuple #[.slice va bs.length vc, .int .i64 us, .int .i64 er]) ∧ w1.ownsRow 0 70 2 (.slice va bs.length vc) bs.length (bvCells bs) ∧ bs.length ≤ 3 ∧ m'.x.trace.length ≤ 700 ∧
      ((owedP R.P oa args ≠ 0 ∧ er = owedP R.P oa args ∧ us = 0 ∧ ((bs.length : Int)) = 0 ∧ valsT bs ++ 124 :: m'.x.trace = [124] ∧ m'.mem = m.mem ∧ m'.x.n = 0) ∨
       (owedP R.P oa args = 0 ∧ ∃ N q, srun R.P R.srcs H R.max N ⟨2, [], 0, [], 1, 0, 0, 0, oa.toNat⟩ { m with x := ND.begin ob (oc == 0) ot (stk args) } = some q ∧ m'.mem = q.m.mem ∧ m'.x.n = q.m.x.n ∧ us = q.m.x.used ∧ er = q.e ∧
        ((q.e ≠ 0 ∧ (bs.length : Int) = 0 ∧ valsT bs ++ 124 :: m'.x.trace = 124 :: q.m.x.trace) ∨ (q.e = 0 ∧ (bs.length : Int) = q.m.x.st.length ∧ valsT bs ++ 124 :: m'.x.trace = valsT (q.m.x.st.reverse.map V.bv) ++ 124 :: q.m.x.trace)))) := by
    rcases hp with ⟨h1, rfl, h2, h3, h4⟩ | ⟨h1, N, q, h2, h3, h4, h5, h6⟩
    · exact ⟨0, _, [], none, 0, rfl, World.ownsRow_nil _ _ _ _, by simp, by rw [h4]; simp, .inl ⟨h1, rfl, rfl, rfl, by rw [h4]; rfl, h2, h3⟩⟩
    · obtain ⟨b1, b2⟩ := HBD.out h1 N q h2
      rcases h6 with ⟨h6, rfl⟩ | ⟨h6, v, rfl, h7⟩
      · exact ⟨_, _, [], none, 0, rfl, World.ownsRow_nil _ _ _ _, by simp, by rw [h5]; exact b1, .inr ⟨h1, N, q, h2, h3, h4, rfl, rfl, .inl ⟨h6, rfl, by rw [h5]; rfl⟩⟩⟩
      · have hvl : (q.m.x.st.reverse.map V.bv).length = q.m.x.st.length := by simp
        obtain ⟨va, vc, rfl⟩ : ∃ va vc, v = .slice va q.m.x.st.length vc := by
          rcases h7.2 with ⟨h, h0⟩ | ⟨g, c, cur, h, _⟩
          · exact ⟨none, 0, by rw [h, h0]⟩
          · exact ⟨_, _, h⟩
        exact ⟨_, 0, q.m.x.st.reverse.map V.bv, va, vc, by rw [hvl], by rw [hvl]; exact h7, by rw [hvl]; exact b2 h6, by rw [h5]; exact b1, .inr ⟨h1, N, q, h2, h3, h4, rfl, h6.symm, .inr ⟨h6, by rw [hvl], by rw [h5]⟩⟩⟩
  have HFIN : Hid _ := hfin
  have HM1 : Hid (MW R w1 L' K' m') := M1
  have HS1 : Hid (MStep R (.slice none 0 0) W w1 L L' K K') := S1
  have hA1 : Has w1 (w.heap.size + 1) #[.int .i64 0, .int .i64 0, .int .i64 0, sv []] 46 := HAN.out.fr S1.fr (fun hS => by
    rcases hS with hS | hS
    · have := HLT.out _ hS; omega
    · cases hS)
  obtain ⟨kb, HKB⟩ : ∃ kb, Hid (bs.length = kb) := ⟨_, rfl⟩
  have HVL : Hid (Calls _ _ _ _ _) := vals_any (w := w1) [] (by simp) bs hbl va vc hown
  rw [HKB.out] at HVL hbl ⊢
  obtain ⟨tr, HTR⟩ : ∃ tr, Hid (m'.x.trace = tr) := ⟨_, rfl⟩
  rw [HTR.out] at htl
  have HA1 : Hid (Has w1 (w.heap.size + 1) _ _) := hA1
  clear hp hfin M1 S1 hown hA1 HC hWe
  go_wp2_with fail
  refine HVL.out.mono ?_
  rintro e w2 ⟨z, rfl, HZ, hzl, hF2⟩
  have HF2 : Hid (Fr (fun _ => False) w1 w2) := hF2
  simp only [List.length_nil] at hzl
  obtain ⟨Z1, HZ1, hZ1l⟩ : ∃ Z1 : List UInt8, Hid (Z1 = z ++ [124]) ∧ Z1.length ≤ 100 := ⟨z ++ [124], rfl, by simp; omega⟩
  have hcat1 : (⟨z.toArray⟩ : ByteArray) ++ ⟨#[124]⟩ = ⟨Z1.toArray⟩ := by rw [HZ1.out]; exact ba_app z [124]
  obtain ⟨Z2, HZ2, hZ2l⟩ : ∃ Z2 : List UInt8, Hid (Z2 = Z1 ++ tr) ∧ Z2.length ≤ 1000 := ⟨Z1 ++ tr, rfl, by simp; omega⟩
  have hcat2 : (⟨Z1.toArray⟩ : ByteArray) ++ ⟨tr.toArray⟩ = ⟨Z2.toArray⟩ := by rw [HZ2.out]; exact ba_app Z1 tr
  have TRC : Hid (Calls _ _ _ _ _) := ytrace_any (HM1.out.fresh HF2.out).inst
  rw [HTR.out] at TRC
  have hs1 : z.length + 1 ≤ 1000000 := by omega
  have hs2 : Z1.length + tr.length ≤ 1000000 := by omega
  have kA3 : Has w2 (w.heap.size + 1) _ _ := HA1.out.fr HF2.out (fun h => h)
  have x0 := kA3.cell 0
  have x1 := kA3.cell 1
  have x2 := kA3.cell 2
  have x3 := kA3.cell 3
  simp at x0 x1 x2 x3
  have y0 := kA3.frozen 0
  have y1 := kA3.frozen 1
  have y2 := kA3.frozen 2
  have y3 := kA3.frozen 3
  have yl := kA3.lt
  have HKA3 : Hid (Has w2 (w.heap.size + 1) _ _) := kA3
  clear hF2 HVL kA3
  go_wp2_with fail
  refine TRC.out.mono ?_
  rintro e w3 ⟨rfl, hw3⟩
  rw [hw3]
  clear hw3 w3 TRC
  go_wp2
  (try simp only [Exit.inBlock, Exit.then])
  obtain ⟨g1, g2⟩ := HKA3.out.put4 (.int .i64 er) (.int .i64 us) (.int .i64 kb) (sv Z2)
  refine bodyPost_ret (ans_res rfl _ _ (w.heap.size + 1) _ _ _ _ rfl g1) rfl ?_
  have ez : Z2 = valsT bs ++ 124 :: tr := by rw [HZ2.out, HZ1.out, HZ.out]; simp
  have hst : MStep R (.slice none 0 0) w _ L L' K K' := ((MStep.fresh HF0.out).trans HS1.out).trans (MStep.fresh HF2.out)
  refine ⟨L', K', m', er, us, kb, Z2, rfl, (HM1.out.fresh HF2.out).ansPut HKA3.out g2, ⟨hst.fr.trans g2 (fun k hk e => by omega), hst.subN, hst.subK⟩, ?_⟩
  have h := HFIN.out
  rw [HKB.out, HTR.out, ← ez] at h
  exact h
theorem ydom_same (hW : MW R w L K m) (o : OpD) (hk : o.kind ≠ 10) (va : Value) :
    Calls Tryz.prog 45 #[.pointer (some ⟨R.bn, 0, none⟩), va, o.val] w (DoMSame R K m L w o.kind) := by
  obtain ⟨W, HW⟩ : ∃ W, Hid (W = domW w o) := ⟨_, rfl⟩
  have F0 : Fr (fun _ => False) w W := by rw [HW.out]; exact ((Fr.refl _ _).alloc _).alloc _
  have hA : Has W (w.heap.size + 1) #[.int .i64 0, .int .i64 0, .int .i64 0, sv []] 46 := by
    rw [HW.out]
    have := Has.new (w.alloc (.cells #[.int .i64 o.kind, .int .i64 o.a, .int .i64 o.b, .int .i64 o.c, sv o.s, sv o.t] 39)) #[.int .i64 0, .int .i64 0, .int .i64 0, sv []] 46
    simpa using this
  have hW1 := hW.fresh F0
  have HSH : Hid (Calls _ _ _ _ _) := yishow_any hW1
  have HX : Hid (MW R W L K m) := hW1
  have HAN : Hid (Has W (w.heap.size + 1) _ _) := hA
  have HF0 : Hid (Fr _ w W) := F0
  have FIN : Hid (∀ w1 er us len str, Fr (fun _ => False) W w1 → ansV er us len str = sameV o.kind (memText m.mem R.max m.mem.length) → DoMSame R K m L w o.kind (.returned (ansV er us len str)) ((((w1.setCell ⟨w.heap.size + 1, 0, none⟩ (.int .i64 er)).setCell ⟨w.heap.size + 1, 1, none⟩ (.int .i64 us)).setCell ⟨w.heap.size + 1, 2, none⟩ (.int .i64 len)).setCell ⟨w.heap.size + 1, 3, none⟩ (sv str))) := by
    intro w1 er us len str hF he
    have hA1 := HAN.out.fr hF (fun h => h)
    obtain ⟨g1, g2⟩ := hA1.put4 (.int .i64 er) (.int .i64 us) (.int .i64 len) (sv str)
    exact ⟨by rw [he], (HX.out.fresh hF).ansPut hA1 g2, (HF0.out.trans hF (fun _ _ h => h)).trans g2 (fun k hk e => by omega)⟩
  have HW0 : Hid (MW R w L K m) := hW
  clear hW F0 hA hW1
  obtain ⟨kind, oa, ob, oc, os, ot⟩ := o
  simp only at hk FIN ⊢
  unfold OpD.val
  simp only
  have hWe := HW.out
  unfold domW at hWe
  simp only at hWe
  have n10 : (kind == 10) = false := beq_eq_false_iff_ne.2 hk
  by_cases h11 : kind = 11
  · subst h11
    rw [hWe] at HSH
    go_enter Tryz.func45, Tryz.ntmps45
    go_wp2_with fail
    refine HSH.out.mono ?_
    rintro e w1 ⟨z, rfl, HZ, hzl, hF1⟩
    rw [← hWe] at hF1
    have HF1 : Hid (Fr _ W w1) := hF1
    have kA := HAN.out.fr hF1 (fun h => h)
    have x0 := kA.cell 0
    have x1 := kA.cell 1
    have x2 := kA.cell 2
    have x3 := kA.cell 3
    simp at x0 x1 x2 x3
    have y0 := kA.frozen 0
    have y1 := kA.frozen 1
    have y2 := kA.frozen 2
    have y3 := kA.frozen 3
    have yl := kA.lt
    have HKA : Hid (Has w1 (w.heap.size + 1) _ _) := kA
    clear hF1 kA HSH hWe
    go_wp2
    (try simp only [Exit.inBlock, Exit.then])
    obtain ⟨g1, g2⟩ := HKA.out.put4 (.int .i64 0) (.int .i64 0) (.int .i64 0) (sv z)
    refine bodyPost_ret (ans_res rfl _ _ (w.heap.size + 1) _ _ _ _ rfl g1) rfl ?_
    exact FIN.out w1 0 0 0 z HF1.out (by unfold sameV; rw [if_pos rfl, HZ.out])
  have n11 : (kind == 11) = false := beq_eq_false_iff_ne.2 h11
  by_cases h12 : kind = 12
  · subst h12
    obtain ⟨W1, HW1⟩ : ∃ W1, Hid (W1 = (w.alloc (.cells #[.int .i64 12, .int .i64 oa, .int .i64 ob, .int .i64 oc, sv os, sv ot] 39)).alloc (.cells #[.int .i64 0, .int .i64 0, .int .i64 1, sv []] 46)) := ⟨_, rfl⟩
    have F1 : Fr (fun _ => False) w W1 := by rw [HW1.out]; exact ((Fr.refl _ _).alloc _).alloc _
    have HKA : Hid (Has W1 (w.heap.size + 1) #[.int .i64 0, .int .i64 0, .int .i64 1, sv []] 46) := by
      show Has _ _ _ _
      rw [HW1.out]
      have := Has.new (w.alloc (.cells #[.int .i64 12, .int .i64 oa, .int .i64 ob, .int .i64 oc, sv os, sv ot] 39)) #[.int .i64 0, .int .i64 0, .int .i64 1, sv []] 46
      simpa using this
    have HFIN : Hid (DoMSame R K m L w 12 (.returned (ansV 0 0 1 [])) W1) := ⟨by unfold sameV; rw [if_neg (by decide), if_pos rfl], HW0.out.fresh F1, F1⟩
    clear HSH hWe FIN F1
    have hW1e := HW1.out
    rw [hW1e] at HKA HFIN
    clear hW1e
    go_enter Tryz.func45, Tryz.ntmps45
    go_wp2
    (try simp only [Exit.inBlock, Exit.then])
    refine bodyPost_ret (ans_res rfl _ _ (w.heap.size + 1) _ _ _ _ rfl HKA.out) rfl ?_
    exact HFIN.out
  · have n12 : (kind == 12) = false := beq_eq_false_iff_ne.2 h12
    have HFIN : Hid (DoMSame R K m L w kind (.returned (ansV 0 0 0 [])) W) := ⟨by unfold sameV; rw [if_neg h11, if_neg h12], HX.out, HF0.out⟩
    have HKA := HAN
    rw [hWe] at HFIN HKA
    clear HSH hWe FIN
    go_enter Tryz.func45, Tryz.ntmps45
    go_wp2
    (try simp only [Exit.inBlock, Exit.then])
    refine bodyPost_ret (ans_res rfl _ _ (w.heap.size + 1) _ _ _ _ rfl HKA.out) rfl ?_
    exact HFIN.out
end
end Go.Proofs.Qxb6500575aGreatDoor
