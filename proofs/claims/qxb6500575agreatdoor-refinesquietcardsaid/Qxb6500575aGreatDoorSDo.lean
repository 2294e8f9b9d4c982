/-
  THE WALK of runlaw.Do.
-/
import Derived.Test.Qxb6500575aGreatDoorSSaid
import Derived.Test.Qxb6500575aGreatDoorXGrow
namespace Go.Proofs.Qxb6500575aGreatDoor
open Go Go.RowKit
set_option linter.unusedVariables false
set_option linter.unusedSimpArgs false

/-- what Do leaves behind at a KCall -/
def DoCalled (w0 : World) (Y : LayR) (x : BelD) (m : ModD) (n : Int) (d : KD) (args0 : List BV) (w : World) (H : HF TSem) (tp : List UInt8) (f fuel : Int) (args : List BV) (e : Ending) (w' : World) : Prop :=
  ∃ L' K' n' d' hi' er us len str, e = .returned (ansV er us len str) ∧ RX w0 w' { Y with L := L', KK := K' } x m n' d' hi' args0 ∧ Said (m.progN 0) H tp f fuel args d d' n n' er us len str ∧ (Fr (fun k => InS Y.bx Y.L k ∨ k = Y.bp ∨ KS Y.bk Y.KK k) w w' ∧ (∀ k, k < w.heap.size → KS Y.bk K' k → KS Y.bk Y.KK k))
def DoSame (w0 : World) (Y : LayR) (x : BelD) (m : ModD) (n : Int) (d : KD) (hi : Int) (args0 : List BV) (e : Ending) (w' : World) : Prop :=
  (∃ er us len str, e = .returned (ansV er us len str)) ∧ RX w0 w' Y x m n d hi args0
set_option maxRecDepth 100000
set_option maxHeartbeats 2000000
theorem run_cat (p q z : List UInt8) (hz : (⟨p.toArray⟩ : ByteArray) ++ ⟨q.toArray⟩ = ⟨z.toArray⟩) (hl : z.length ≤ 1000000) (x y : Operand) (w : World) :
    ((do eqGuard .add 9 x y (sv p) (sv q); binOp .add 9 (sv p) (sv q)) : Sem Value).run Tryz.prog w = .ok (sv z) w := by
  have h1 : p.length + q.length = z.length := by
    have := congrArg ByteArray.size hz
    simpa [ByteArray.size] using this
  go_simp
  omega
theorem wpQ_cat {ops : Array Oper} {S : World → Prop} {T : Act → Prop} {o : Oper} {l : List Oper} {a : Act} (hg : o.guard = none) (x y : Operand) (t : TypeId) (p q z : List UInt8) (ho : o.op = .binOp .add 9 x y t) (hx : a.eval x = sv p) (hy : a.eval y = sv q) (hz : (⟨p.toArray⟩ : ByteArray) ++ ⟨q.toArray⟩ = ⟨z.toArray⟩) (hl : z.length ≤ 1000000) (h : wpQuiet Tryz.prog ops S T l (a.put o.dst (sv z))) : wpQuiet Tryz.prog ops S T (o :: l) a :=
  wpQ_pure hg _ (fun w => by
    have := run_cat p q z hz hl x y w
    simp only [execOp, ho, hx, hy]
    rw [Sem.run_bind, this]
    rfl) h
section
variable {w0 w : World} {Y : LayR} {x : BelD} {m : ModD} {n : Int} {d : KD} {hi : Int} {args0 : List BV}
abbrev doW (w : World) (o : OpD) : World := (w.alloc (.cells #[.int .i64 o.kind, .int .i64 o.a, .int .i64 o.b, .int .i64 o.c, sv o.s, sv o.t] 39)).alloc (.cells #[.int .i64 0, .int .i64 0, .int .i64 0, sv []] 46)
abbrev doW3 (w : World) (o : OpD) : World := (doW w o).alloc (.cells #[sv o.t, sv [], .int .i64 0, .slice none 0 0] 88)
theorem RX.ansPut (h : RX w0 w Y x m n d hi args0) {b : Nat} {cs : Array Value} (hb : Has w b cs 46) (h0 : w0.heap.size ≤ b) (hS : ¬ Y.S b) (hsd : ∀ p ∈ Y.sd, p.1 ≠ b) {w' : World} (hf : Fr (fun k => k = b) w w') : RX w0 w' Y x m n d hi args0 :=
  { h with
    bel := h.bel.fr hf (fun k hk e => hS (e ▸ hk))
    prog := h.prog.kept hf (fun k hk e => h.prog.typed.has hb (by decide) (e ▸ hk))
    mach := h.mach.fr hf (fun k hk e => h.mach.typed.has hb (by decide) (e ▸ hk))
    inst := h.inst.fr' hf (fun k hk e => h.inst.typed.has hb (by decide) (e ▸ hk))
    row := owns_fr h.row hf (fun k hk e => owns_ne h.row hb (by decide) (e ▸ hk))
    newS := fun k hk => ⟨(h.newS k hk).1, by have := (h.newS k hk).2; have := hf.size; omega⟩
    side := fun p hp => ⟨(h.side p hp).1.fr hf (hsd p hp), (h.side p hp).2⟩
    fr := h.fr.trans hf (fun k hk e => by omega) }
theorem RX.old (h : RX w0 w Y x m n d hi args0) {b : Nat} (hb : w.heap.size ≤ b) : w0.heap.size ≤ b ∧ ¬ Y.S b := ⟨by have := h.fr.size; omega, fun hS => by have := (h.newS b hS).2; omega⟩
theorem rdo_call (h : RX w0 w Y x m n d hi args0) (ld : Loaded m) (hg : GlobOk w0) (o : OpD) (hk : o.kind = 10) (hfit : Fit64 o.b) (args : List BV) (aa : Option Addr) (cc : Nat) (hargs : w.ownsRow 0 70 2 (.slice aa args.length cc) args.length (bvCells args)) (hfa : ∀ b ∈ args, I64 b.v) (hal : args.length ≤ 1000) (hn64 : I64 n) :
    Calls Tryz.prog 16 #[.pointer (some ⟨Y.bx, 0, none⟩), .slice aa args.length cc, o.val] w (DoCalled w0 Y x m n d args0 w (callH (m.progN 0) o.c) o.t o.a o.b args) := by
  obtain ⟨T, pt⟩ := ld.pt
  obtain ⟨W, HW⟩ : ∃ W, Hid (W = doW3 w o) := ⟨_, rfl⟩
  obtain ⟨bt, HBT⟩ : ∃ bt, Hid (bt = w.heap.size + 1 + 1) := ⟨_, rfl⟩
  have F0 : Fr (fun _ => False) w W := by rw [HW.out]; exact (((Fr.refl _ _).alloc _).alloc _).alloc _
  have hA : Has W (w.heap.size + 1) #[.int .i64 0, .int .i64 0, .int .i64 0, sv []] 46 := by
    rw [HW.out]
    have := (Has.new (w.alloc (.cells #[.int .i64 o.kind, .int .i64 o.a, .int .i64 o.b, .int .i64 o.c, sv o.s, sv o.t] 39)) #[.int .i64 0, .int .i64 0, .int .i64 0, sv []] 46).alloc (.cells #[sv o.t, sv [], .int .i64 0, .slice none 0 0] 88)
    simpa using this
  have hT : Has W bt #[sv o.t, sv [], .int .i64 0, .slice none 0 0] 88 := by
    rw [HW.out, HBT.out]
    have := Has.new (doW w o) #[sv o.t, sv [], .int .i64 0, .slice none 0 0] 88
    simpa using this
  have hX := h.fresh F0
  have hbt := h.old (b := bt) (by rw [HBT.out]; omega)
  have hans := h.old (b := w.heap.size + 1) (by omega)
  have hrow := owns_fr hargs F0 (fun _ _ h => h)
  have HC : Hid (∀ hv : Value, ((hv = .nilIface ∧ o.c = 1) ∨ (hv = .iface 85 (.pointer (some ⟨bt, 0, none⟩)) ∧ o.c = 0) ∨ (hv = .iface 85 (.pointer none) ∧ o.c ≠ 0)) → Calls Tryz.prog 38 #[.pointer (some ⟨Y.bx, 0, none⟩), .int .i64 o.a, .slice aa args.length cc, .int .i64 o.b, hv] W
      (CallSaid (RX.rp Y W m d bt (tape0 o.t)) (callH (m.progN 0) o.c) o.t n d o.a args o.b)) := by
    intro hv hhv
    have := scall_any (sem := semT) (H := callH (m.progN 0) o.c) (h := hv) (hX.run hT) hn64 pt machX ?_ ld.wf o.a o.b (by have := hfit.2; omega) args hfa aa cc hrow hal ?_
    · exact this.mono (fun e w' hp => call_said pt (fun s hs => hs.2) hp)
    · intro R' h1 h2
      refine sask_any (T := T) (by rw [h2]; exact pt) ?_
      rcases hhv with ⟨rfl, hc⟩ | ⟨rfl, hc⟩ | ⟨rfl, hc⟩
      · refine .inl ⟨rfl, ?_⟩
        unfold callH
        rw [if_neg (by rw [hc]; decide)]
        rfl
      · refine .inr ⟨_, tapeAsk, rfl, sansw_tape R' bt h1, ?_⟩
        unfold callH
        rw [if_pos hc, h2]
        rfl
      · refine .inr ⟨_, nilAsk, rfl, sansw_nil R', ?_⟩
        unfold callH
        rw [if_neg hc, hostF_nil]
    · intro g hg hS
      rw [tape0_S hS] at hg
      exact owns_ne hrow hT (by decide) hg
  have HX : Hid (RX w0 W Y x m n d hi args0) := hX
  have HT : Hid (Has W bt _ _) := hT
  have HAN : Hid (Has W (w.heap.size + 1) _ _) := hA
  have HBT2 : Hid (w0.heap.size ≤ bt ∧ ¬ Y.S bt) := hbt
  have HANS : Hid (w0.heap.size ≤ w.heap.size + 1 ∧ ¬ Y.S (w.heap.size + 1)) := hans
  have HOFF : Hid (∀ p ∈ Y.sd, p.1 ≠ w.heap.size + 1) := h.off (by omega)
  have HG : Hid (GlobOk w0) := hg
  have HF0 : Hid (Fr _ w W) := F0
  clear h ld hg hfit hargs hfa hal pt hn64 F0 hA hT hX hbt hans hrow
  obtain ⟨k, HK⟩ : ∃ k, Hid (args.length = k) := ⟨_, rfl⟩
  rw [HK.out] at HC ⊢
  obtain ⟨kind, oa, ob, oc, os, ot⟩ := o
  simp only at hk HC HT ⊢
  subst hk
  unfold OpD.val
  simp only
  have hW := HW.out
  unfold doW3 doW at hW
  simp only at hW
  by_cases hc0 : oc = 0
  · subst hc0
    have HC1 : Hid (Calls _ _ _ _ _) := HC.out (.iface 85 (.pointer (some ⟨bt, 0, none⟩))) (.inr (.inl ⟨rfl, rfl⟩))
    rw [HBT.out, hW] at HC1
    clear HC
    go_enter Tryz.func16, Tryz.ntmps16
    go_wp2_with fail
    refine HC1.out.mono ?_
    rintro e w1 hcs
    rw [← hW, ← HBT.out] at hcs
    obtain ⟨L', K', hi', n', d', s', va, vc, bs, us, er, ev, hr, rfl, hown, hbl, htell, hsaid⟩ := hcs
    have HX1 : Hid (RX w0 w1 { Y with L := L', KK := K' } x m n' d' hi' args0) := HX.out.called HT.out HBT2.out hr
    have htr : TapeRep bt w1 s' ∧ TapeOk s' := hr.host
    have hfr1 : Fr (RX.rp Y W m d bt (tape0 ot)).S W w1 := hr.fr
    have HFR1 : Hid (Fr (fun k => InS Y.bx Y.L k ∨ k = Y.bp ∨ KS Y.bk Y.KK k) w w1 ∧ ∀ k, k < w.heap.size → KS Y.bk K' k → KS Y.bk Y.KK k) := by
      have hsz := HF0.out.size
      refine ⟨(HF0.out.weaken (fun _ _ h => h.elim)).trans hfr1 (fun k hk hS => ?_), fun k hk hS => hr.subK k (Nat.lt_of_lt_of_le hk hsz) hS⟩
      rcases hS with hS | hS | hS | hS
      · exact .inl hS
      · exact .inr (.inl hS)
      · exact .inr (.inr hS)
      · have := tape0_S hS
        have hb := HBT.out
        omega
    have hA1 : Has w1 (w.heap.size + 1) #[.int .i64 0, .int .i64 0, .int .i64 0, sv []] 46 := HAN.out.fr hfr1 (by
      rintro (hk | hk | hk | hk)
      · exact HX.out.inst.typed.has HAN.out (by decide) hk
      · exact HX.out.prog.typed.has HAN.out (by decide) (.inl hk)
      · exact HX.out.mach.typed.has HAN.out (by decide) hk
      · exact HAN.out.ne HT.out (by decide) (tape0_S hk))
    obtain ⟨kb, HKB⟩ : ∃ kb, Hid (bs.length = kb) := ⟨_, rfl⟩
    have HVL : Hid (Calls _ _ _ _ _) := vals_any (w := w1) [] (by simp) bs hbl va vc hown
    rw [HKB.out] at HVL hbl ⊢
    have HTL : Hid (∀ W, GlobOk W → Calls Tryz.prog 34 #[ev] W fun e w'' => e = .returned (.int .i64 er) ∧ Fr (fun _ => False) W w'') := htell
    have HSD : Hid (Said _ _ _ _ _ _ _ _ _ _ _ _ _ _) := hsaid
    obtain ⟨tr, HTR, htl⟩ : ∃ tr, Hid (s'.trace = tr) ∧ tr.length ≤ 700 := ⟨_, rfl, by have := htr.2.tr; have := htr.2.kle; omega⟩
    have HTP : Hid (Has w1 bt #[sv s'.tape, sv tr, .int .i64 s'.k, .slice s'.ka s'.kept.length s'.kc] 88) := by
      show Has _ _ _ _
      rw [← HTR.out]
      exact htr.1.here
    have HA1 : Hid (Has w1 (w.heap.size + 1) _ _) := hA1
    clear hr htr hfr1 hA1 hown htell hsaid HC1 hW
    go_wp2_with fail
    refine HVL.out.mono ?_
    rintro e w2 ⟨z, rfl, HZ, hzl, hF2⟩
    have HF2 : Hid (Fr (fun _ => False) w1 w2) := hF2
    simp only [List.length_nil] at hzl
    obtain ⟨Z1, HZ1, hZ1l⟩ : ∃ Z1 : List UInt8, Hid (Z1 = z ++ [124]) ∧ Z1.length ≤ 100 := ⟨z ++ [124], rfl, by simp; omega⟩
    have hcat1 : (⟨z.toArray⟩ : ByteArray) ++ ⟨#[124]⟩ = ⟨Z1.toArray⟩ := by rw [HZ1.out]; exact ba_app z [124]
    obtain ⟨Z2, HZ2, hZ2l⟩ : ∃ Z2 : List UInt8, Hid (Z2 = Z1 ++ tr) ∧ Z2.length ≤ 1000 := ⟨Z1 ++ tr, rfl, by simp; omega⟩
    have hcat2 : (⟨Z1.toArray⟩ : ByteArray) ++ ⟨tr.toArray⟩ = ⟨Z2.toArray⟩ := by rw [HZ2.out]; exact ba_app Z1 tr
    have hcp : ∀ y : World, Fr (fun _ => False) w2 y → y.cell? ⟨w.heap.size + 1 + 1, 1, none⟩ = some (sv tr) := fun y hy => by
      have := ((HTP.out.fr HF2.out (fun h => h)).fr hy (fun h => h)).cell 1
      rw [HBT.out] at this
      simpa using this
    clear hF2 HVL
    go_wp2
    refine wp_region_mid [0, 2, 3, 4, 5, 6, 7, 8, 9, 10, 11] 1 12 (fun x => Fr (fun _ => False) w2 x) (by kernel_rfl) (by kernel_rfl) (fun _ _ _ _ _ h => h) (Fr.refl _ w2).drew [_, _, _, _, _, _, _, _, _, _, _] rfl _ rfl ?_
    repeat (first | go_big_quiet_step (fail) | (refine wpQuiet_step (fun K hK => ?_); go_simp; refine ⟨_, fun _ _ => rfl, hK _ ?_⟩; clear hK K))
    refine wpQ_cat rfl (.tmp 49) (.const (.string ⟨#[124]⟩)) _ z [124] Z1 rfl rfl rfl hcat1 (by omega) ?_
    simp only [Act.put, List.setIfInBounds_toArray, List.set_cons_succ, List.set_cons_zero]
    repeat (first | go_big_quiet_step (fail) | (refine wpQuiet_step (fun K hK => ?_); go_simp; refine ⟨_, fun _ _ => rfl, hK _ ?_⟩; clear hK K))
    refine wpQ_load rfl (.tmp 53) _ _ rfl rfl (by kernel_rfl) hcp ?_
    simp only [Act.put, List.setIfInBounds_toArray, List.set_cons_succ, List.set_cons_zero]
    repeat (first | go_big_quiet_step (fail) | (refine wpQuiet_step (fun K hK => ?_); go_simp; refine ⟨_, fun _ _ => rfl, hK _ ?_⟩; clear hK K))
    refine wpQ_cat rfl (.tmp 50) (.tmp 54) _ Z1 tr Z2 rfl rfl rfl hcat2 (by omega) ?_
    simp only [Act.put, List.setIfInBounds_toArray, List.set_cons_succ, List.set_cons_zero]
    refine wpQuiet_nil ?_
    have HG2 : Hid (GlobOk w2.drew) := HG.out.fr ((HX1.out.fr.trans HF2.out (fun _ _ h => h)).drew)
    have HC2 : Hid (Calls _ _ _ _ _) := HTL.out w2.drew HG2.out
    go_wp2_with fail
    refine HC2.out.mono ?_
    rintro e w3 ⟨rfl, hF3⟩
    have FS : Fr (fun _ => False) w2 w3 := ⟨hF3.os, hF3.tape, hF3.output, hF3.size, hF3.block⟩
    have kA3 : Has w3 (w.heap.size + 1) _ _ := (HA1.out.fr HF2.out (fun h => h)).fr FS (fun h => h)
    have HFS : Hid (Fr (fun _ => False) w2 w3) := FS
    have x0 := kA3.cell 0
    have x1 := kA3.cell 1
    have x2 := kA3.cell 2
    have x3 := kA3.cell 3
    simp at x0 x1 x2 x3
    have y0 := kA3.frozen 0
    have y1 := kA3.frozen 1
    have y2 := kA3.frozen 2
    have y3 := kA3.frozen 3
    have yl := kA3.lt
    have HKA3 : Hid (Has w3 (w.heap.size + 1) _ _) := kA3
    clear hF3 kA3 FS HC2 HG2 HTL HTP hcp hcat1 hcat2
    go_wp2
    refine ⟨HFS.out, ?_⟩
    simp only [List.drop_succ_cons, List.drop_zero]
    go_wp2
    (try simp only [Exit.inBlock, Exit.then])
    obtain ⟨g1, g2⟩ := HKA3.out.put4 (.int .i64 er) (.int .i64 us) (.int .i64 kb) (sv Z2)
    refine bodyPost_ret (ans_res rfl _ _ (w.heap.size + 1) _ _ _ _ rfl g1) rfl ?_
    have X3 : RX w0 w3 { Y with L := L', KK := K' } x m n' d' hi' args0 := (HX1.out.fresh HF2.out).fresh HFS.out
    refine ⟨L', K', n', d', hi', er, us, kb, Z2, rfl, X3.ansPut HKA3.out HANS.out.1 HANS.out.2 HOFF.out g2, ?_, ((HFR1.out.1.trans (HF2.out.weaken (fun _ _ h => h.elim)) (fun _ _ h => h)).trans (HFS.out.weaken (fun _ _ h => h.elim)) (fun _ _ h => h)).trans g2 (fun k hk e => by omega), HFR1.out.2⟩
    have := HSD.out
    rw [HKB.out, HTR.out] at this
    have ez : Z2 = valsT bs ++ 124 :: tr := by rw [HZ2.out, HZ1.out, HZ.out]; simp
    rw [ez]
    exact this
  by_cases hc1 : oc = 1
  · subst hc1
    have HC1 : Hid (Calls _ _ _ _ _) := HC.out .nilIface (.inl ⟨rfl, rfl⟩)
    rw [HBT.out, hW] at HC1
    clear HC
    go_enter Tryz.func16, Tryz.ntmps16
    go_wp2_with fail
    refine HC1.out.mono ?_
    rintro e w1 hcs
    rw [← hW, ← HBT.out] at hcs
    obtain ⟨L', K', hi', n', d', s', va, vc, bs, us, er, ev, hr, rfl, hown, hbl, htell, hsaid⟩ := hcs
    have HX1 : Hid (RX w0 w1 { Y with L := L', KK := K' } x m n' d' hi' args0) := HX.out.called HT.out HBT2.out hr
    have htr : TapeRep bt w1 s' ∧ TapeOk s' := hr.host
    have hfr1 : Fr (RX.rp Y W m d bt (tape0 ot)).S W w1 := hr.fr
    have HFR1 : Hid (Fr (fun k => InS Y.bx Y.L k ∨ k = Y.bp ∨ KS Y.bk Y.KK k) w w1 ∧ ∀ k, k < w.heap.size → KS Y.bk K' k → KS Y.bk Y.KK k) := by
      have hsz := HF0.out.size
      refine ⟨(HF0.out.weaken (fun _ _ h => h.elim)).trans hfr1 (fun k hk hS => ?_), fun k hk hS => hr.subK k (Nat.lt_of_lt_of_le hk hsz) hS⟩
      rcases hS with hS | hS | hS | hS
      · exact .inl hS
      · exact .inr (.inl hS)
      · exact .inr (.inr hS)
      · have := tape0_S hS
        have hb := HBT.out
        omega
    have hA1 : Has w1 (w.heap.size + 1) #[.int .i64 0, .int .i64 0, .int .i64 0, sv []] 46 := HAN.out.fr hfr1 (by
      rintro (hk | hk | hk | hk)
      · exact HX.out.inst.typed.has HAN.out (by decide) hk
      · exact HX.out.prog.typed.has HAN.out (by decide) (.inl hk)
      · exact HX.out.mach.typed.has HAN.out (by decide) hk
      · exact HAN.out.ne HT.out (by decide) (tape0_S hk))
    obtain ⟨kb, HKB⟩ : ∃ kb, Hid (bs.length = kb) := ⟨_, rfl⟩
    have HVL : Hid (Calls _ _ _ _ _) := vals_any (w := w1) [] (by simp) bs hbl va vc hown
    rw [HKB.out] at HVL hbl ⊢
    have HTL : Hid (∀ W, GlobOk W → Calls Tryz.prog 34 #[ev] W fun e w'' => e = .returned (.int .i64 er) ∧ Fr (fun _ => False) W w'') := htell
    have HSD : Hid (Said _ _ _ _ _ _ _ _ _ _ _ _ _ _) := hsaid
    obtain ⟨tr, HTR, htl⟩ : ∃ tr, Hid (s'.trace = tr) ∧ tr.length ≤ 700 := ⟨_, rfl, by have := htr.2.tr; have := htr.2.kle; omega⟩
    have HTP : Hid (Has w1 bt #[sv s'.tape, sv tr, .int .i64 s'.k, .slice s'.ka s'.kept.length s'.kc] 88) := by
      show Has _ _ _ _
      rw [← HTR.out]
      exact htr.1.here
    have HA1 : Hid (Has w1 (w.heap.size + 1) _ _) := hA1
    clear hr htr hfr1 hA1 hown htell hsaid HC1 hW
    go_wp2_with fail
    refine HVL.out.mono ?_
    rintro e w2 ⟨z, rfl, HZ, hzl, hF2⟩
    have HF2 : Hid (Fr (fun _ => False) w1 w2) := hF2
    simp only [List.length_nil] at hzl
    obtain ⟨Z1, HZ1, hZ1l⟩ : ∃ Z1 : List UInt8, Hid (Z1 = z ++ [124]) ∧ Z1.length ≤ 100 := ⟨z ++ [124], rfl, by simp; omega⟩
    have hcat1 : (⟨z.toArray⟩ : ByteArray) ++ ⟨#[124]⟩ = ⟨Z1.toArray⟩ := by rw [HZ1.out]; exact ba_app z [124]
    obtain ⟨Z2, HZ2, hZ2l⟩ : ∃ Z2 : List UInt8, Hid (Z2 = Z1 ++ tr) ∧ Z2.length ≤ 1000 := ⟨Z1 ++ tr, rfl, by simp; omega⟩
    have hcat2 : (⟨Z1.toArray⟩ : ByteArray) ++ ⟨tr.toArray⟩ = ⟨Z2.toArray⟩ := by rw [HZ2.out]; exact ba_app Z1 tr
    have hcp : ∀ y : World, Fr (fun _ => False) w2 y → y.cell? ⟨w.heap.size + 1 + 1, 1, none⟩ = some (sv tr) := fun y hy => by
      have := ((HTP.out.fr HF2.out (fun h => h)).fr hy (fun h => h)).cell 1
      rw [HBT.out] at this
      simpa using this
    clear hF2 HVL
    go_wp2
    refine wp_region_mid [0, 2, 3, 4, 5, 6, 7, 8, 9, 10, 11] 1 12 (fun x => Fr (fun _ => False) w2 x) (by kernel_rfl) (by kernel_rfl) (fun _ _ _ _ _ h => h) (Fr.refl _ w2).drew [_, _, _, _, _, _, _, _, _, _, _] rfl _ rfl ?_
    repeat (first | go_big_quiet_step (fail) | (refine wpQuiet_step (fun K hK => ?_); go_simp; refine ⟨_, fun _ _ => rfl, hK _ ?_⟩; clear hK K))
    refine wpQ_cat rfl (.tmp 49) (.const (.string ⟨#[124]⟩)) _ z [124] Z1 rfl rfl rfl hcat1 (by omega) ?_
    simp only [Act.put, List.setIfInBounds_toArray, List.set_cons_succ, List.set_cons_zero]
    repeat (first | go_big_quiet_step (fail) | (refine wpQuiet_step (fun K hK => ?_); go_simp; refine ⟨_, fun _ _ => rfl, hK _ ?_⟩; clear hK K))
    refine wpQ_load rfl (.tmp 53) _ _ rfl rfl (by kernel_rfl) hcp ?_
    simp only [Act.put, List.setIfInBounds_toArray, List.set_cons_succ, List.set_cons_zero]
    repeat (first | go_big_quiet_step (fail) | (refine wpQuiet_step (fun K hK => ?_); go_simp; refine ⟨_, fun _ _ => rfl, hK _ ?_⟩; clear hK K))
    refine wpQ_cat rfl (.tmp 50) (.tmp 54) _ Z1 tr Z2 rfl rfl rfl hcat2 (by omega) ?_
    simp only [Act.put, List.setIfInBounds_toArray, List.set_cons_succ, List.set_cons_zero]
    refine wpQuiet_nil ?_
    have HG2 : Hid (GlobOk w2.drew) := HG.out.fr ((HX1.out.fr.trans HF2.out (fun _ _ h => h)).drew)
    have HC2 : Hid (Calls _ _ _ _ _) := HTL.out w2.drew HG2.out
    go_wp2_with fail
    refine HC2.out.mono ?_
    rintro e w3 ⟨rfl, hF3⟩
    have FS : Fr (fun _ => False) w2 w3 := ⟨hF3.os, hF3.tape, hF3.output, hF3.size, hF3.block⟩
    have kA3 : Has w3 (w.heap.size + 1) _ _ := (HA1.out.fr HF2.out (fun h => h)).fr FS (fun h => h)
    have HFS : Hid (Fr (fun _ => False) w2 w3) := FS
    have x0 := kA3.cell 0
    have x1 := kA3.cell 1
    have x2 := kA3.cell 2
    have x3 := kA3.cell 3
    simp at x0 x1 x2 x3
    have y0 := kA3.frozen 0
    have y1 := kA3.frozen 1
    have y2 := kA3.frozen 2
    have y3 := kA3.frozen 3
    have yl := kA3.lt
    have HKA3 : Hid (Has w3 (w.heap.size + 1) _ _) := kA3
    clear hF3 kA3 FS HC2 HG2 HTL HTP hcp hcat1 hcat2
    go_wp2
    refine ⟨HFS.out, ?_⟩
    simp only [List.drop_succ_cons, List.drop_zero]
    go_wp2
    (try simp only [Exit.inBlock, Exit.then])
    obtain ⟨g1, g2⟩ := HKA3.out.put4 (.int .i64 er) (.int .i64 us) (.int .i64 kb) (sv Z2)
    refine bodyPost_ret (ans_res rfl _ _ (w.heap.size + 1) _ _ _ _ rfl g1) rfl ?_
    have X3 : RX w0 w3 { Y with L := L', KK := K' } x m n' d' hi' args0 := (HX1.out.fresh HF2.out).fresh HFS.out
    refine ⟨L', K', n', d', hi', er, us, kb, Z2, rfl, X3.ansPut HKA3.out HANS.out.1 HANS.out.2 HOFF.out g2, ?_, ((HFR1.out.1.trans (HF2.out.weaken (fun _ _ h => h.elim)) (fun _ _ h => h)).trans (HFS.out.weaken (fun _ _ h => h.elim)) (fun _ _ h => h)).trans g2 (fun k hk e => by omega), HFR1.out.2⟩
    have := HSD.out
    rw [HKB.out, HTR.out] at this
    have ez : Z2 = valsT bs ++ 124 :: tr := by rw [HZ2.out, HZ1.out, HZ.out]; simp
    rw [ez]
    exact this
  · have HC1 : Hid (Calls _ _ _ _ _) := HC.out (.iface 85 (.pointer none)) (.inr (.inr ⟨rfl, hc0⟩))
    rw [HBT.out, hW] at HC1
    have n0 : (oc == 0) = false := beq_eq_false_iff_ne.2 hc0
    have n1 : (oc != 1) = true := by rw [bne_iff_ne]; exact hc1
    clear HC
    go_enter Tryz.func16, Tryz.ntmps16
    go_wp2_with fail
    refine HC1.out.mono ?_
    rintro e w1 hcs
    rw [← hW, ← HBT.out] at hcs
    obtain ⟨L', K', hi', n', d', s', va, vc, bs, us, er, ev, hr, rfl, hown, hbl, htell, hsaid⟩ := hcs
    have HX1 : Hid (RX w0 w1 { Y with L := L', KK := K' } x m n' d' hi' args0) := HX.out.called HT.out HBT2.out hr
    have htr : TapeRep bt w1 s' ∧ TapeOk s' := hr.host
    have hfr1 : Fr (RX.rp Y W m d bt (tape0 ot)).S W w1 := hr.fr
    have HFR1 : Hid (Fr (fun k => InS Y.bx Y.L k ∨ k = Y.bp ∨ KS Y.bk Y.KK k) w w1 ∧ ∀ k, k < w.heap.size → KS Y.bk K' k → KS Y.bk Y.KK k) := by
      have hsz := HF0.out.size
      refine ⟨(HF0.out.weaken (fun _ _ h => h.elim)).trans hfr1 (fun k hk hS => ?_), fun k hk hS => hr.subK k (Nat.lt_of_lt_of_le hk hsz) hS⟩
      rcases hS with hS | hS | hS | hS
      · exact .inl hS
      · exact .inr (.inl hS)
      · exact .inr (.inr hS)
      · have := tape0_S hS
        have hb := HBT.out
        omega
    have hA1 : Has w1 (w.heap.size + 1) #[.int .i64 0, .int .i64 0, .int .i64 0, sv []] 46 := HAN.out.fr hfr1 (by
      rintro (hk | hk | hk | hk)
      · exact HX.out.inst.typed.has HAN.out (by decide) hk
      · exact HX.out.prog.typed.has HAN.out (by decide) (.inl hk)
      · exact HX.out.mach.typed.has HAN.out (by decide) hk
      · exact HAN.out.ne HT.out (by decide) (tape0_S hk))
    obtain ⟨kb, HKB⟩ : ∃ kb, Hid (bs.length = kb) := ⟨_, rfl⟩
    have HVL : Hid (Calls _ _ _ _ _) := vals_any (w := w1) [] (by simp) bs hbl va vc hown
    rw [HKB.out] at HVL hbl ⊢
    have HTL : Hid (∀ W, GlobOk W → Calls Tryz.prog 34 #[ev] W fun e w'' => e = .returned (.int .i64 er) ∧ Fr (fun _ => False) W w'') := htell
    have HSD : Hid (Said _ _ _ _ _ _ _ _ _ _ _ _ _ _) := hsaid
    obtain ⟨tr, HTR, htl⟩ : ∃ tr, Hid (s'.trace = tr) ∧ tr.length ≤ 700 := ⟨_, rfl, by have := htr.2.tr; have := htr.2.kle; omega⟩
    have HTP : Hid (Has w1 bt #[sv s'.tape, sv tr, .int .i64 s'.k, .slice s'.ka s'.kept.length s'.kc] 88) := by
      show Has _ _ _ _
      rw [← HTR.out]
      exact htr.1.here
    have HA1 : Hid (Has w1 (w.heap.size + 1) _ _) := hA1
    clear hr htr hfr1 hA1 hown htell hsaid HC1 hW
    go_wp2_with fail
    refine HVL.out.mono ?_
    rintro e w2 ⟨z, rfl, HZ, hzl, hF2⟩
    have HF2 : Hid (Fr (fun _ => False) w1 w2) := hF2
    simp only [List.length_nil] at hzl
    obtain ⟨Z1, HZ1, hZ1l⟩ : ∃ Z1 : List UInt8, Hid (Z1 = z ++ [124]) ∧ Z1.length ≤ 100 := ⟨z ++ [124], rfl, by simp; omega⟩
    have hcat1 : (⟨z.toArray⟩ : ByteArray) ++ ⟨#[124]⟩ = ⟨Z1.toArray⟩ := by rw [HZ1.out]; exact ba_app z [124]
    obtain ⟨Z2, HZ2, hZ2l⟩ : ∃ Z2 : List UInt8, Hid (Z2 = Z1 ++ tr) ∧ Z2.length ≤ 1000 := ⟨Z1 ++ tr, rfl, by simp; omega⟩
    have hcat2 : (⟨Z1.toArray⟩ : ByteArray) ++ ⟨tr.toArray⟩ = ⟨Z2.toArray⟩ := by rw [HZ2.out]; exact ba_app Z1 tr
    have hcp : ∀ y : World, Fr (fun _ => False) w2 y → y.cell? ⟨w.heap.size + 1 + 1, 1, none⟩ = some (sv tr) := fun y hy => by
      have := ((HTP.out.fr HF2.out (fun h => h)).fr hy (fun h => h)).cell 1
      rw [HBT.out] at this
      simpa using this
    clear hF2 HVL
    go_wp2
    refine wp_region_mid [0, 2, 3, 4, 5, 6, 7, 8, 9, 10, 11] 1 12 (fun x => Fr (fun _ => False) w2 x) (by kernel_rfl) (by kernel_rfl) (fun _ _ _ _ _ h => h) (Fr.refl _ w2).drew [_, _, _, _, _, _, _, _, _, _, _] rfl _ rfl ?_
    repeat (first | go_big_quiet_step (fail) | (refine wpQuiet_step (fun K hK => ?_); go_simp; refine ⟨_, fun _ _ => rfl, hK _ ?_⟩; clear hK K))
    refine wpQ_cat rfl (.tmp 49) (.const (.string ⟨#[124]⟩)) _ z [124] Z1 rfl rfl rfl hcat1 (by omega) ?_
    simp only [Act.put, List.setIfInBounds_toArray, List.set_cons_succ, List.set_cons_zero]
    repeat (first | go_big_quiet_step (fail) | (refine wpQuiet_step (fun K hK => ?_); go_simp; refine ⟨_, fun _ _ => rfl, hK _ ?_⟩; clear hK K))
    refine wpQ_load rfl (.tmp 53) _ _ rfl rfl (by kernel_rfl) hcp ?_
    simp only [Act.put, List.setIfInBounds_toArray, List.set_cons_succ, List.set_cons_zero]
    repeat (first | go_big_quiet_step (fail) | (refine wpQuiet_step (fun K hK => ?_); go_simp; refine ⟨_, fun _ _ => rfl, hK _ ?_⟩; clear hK K))
    refine wpQ_cat rfl (.tmp 50) (.tmp 54) _ Z1 tr Z2 rfl rfl rfl hcat2 (by omega) ?_
    simp only [Act.put, List.setIfInBounds_toArray, List.set_cons_succ, List.set_cons_zero]
    refine wpQuiet_nil ?_
    have HG2 : Hid (GlobOk w2.drew) := HG.out.fr ((HX1.out.fr.trans HF2.out (fun _ _ h => h)).drew)
    have HC2 : Hid (Calls _ _ _ _ _) := HTL.out w2.drew HG2.out
    go_wp2_with fail
    refine HC2.out.mono ?_
    rintro e w3 ⟨rfl, hF3⟩
    have FS : Fr (fun _ => False) w2 w3 := ⟨hF3.os, hF3.tape, hF3.output, hF3.size, hF3.block⟩
    have kA3 : Has w3 (w.heap.size + 1) _ _ := (HA1.out.fr HF2.out (fun h => h)).fr FS (fun h => h)
    have HFS : Hid (Fr (fun _ => False) w2 w3) := FS
    have x0 := kA3.cell 0
    have x1 := kA3.cell 1
    have x2 := kA3.cell 2
    have x3 := kA3.cell 3
    simp at x0 x1 x2 x3
    have y0 := kA3.frozen 0
    have y1 := kA3.frozen 1
    have y2 := kA3.frozen 2
    have y3 := kA3.frozen 3
    have yl := kA3.lt
    have HKA3 : Hid (Has w3 (w.heap.size + 1) _ _) := kA3
    clear hF3 kA3 FS HC2 HG2 HTL HTP hcp hcat1 hcat2
    go_wp2
    refine ⟨HFS.out, ?_⟩
    simp only [List.drop_succ_cons, List.drop_zero]
    go_wp2
    (try simp only [Exit.inBlock, Exit.then])
    obtain ⟨g1, g2⟩ := HKA3.out.put4 (.int .i64 er) (.int .i64 us) (.int .i64 kb) (sv Z2)
    refine bodyPost_ret (ans_res rfl _ _ (w.heap.size + 1) _ _ _ _ rfl g1) rfl ?_
    have X3 : RX w0 w3 { Y with L := L', KK := K' } x m n' d' hi' args0 := (HX1.out.fresh HF2.out).fresh HFS.out
    refine ⟨L', K', n', d', hi', er, us, kb, Z2, rfl, X3.ansPut HKA3.out HANS.out.1 HANS.out.2 HOFF.out g2, ?_, ((HFR1.out.1.trans (HF2.out.weaken (fun _ _ h => h.elim)) (fun _ _ h => h)).trans (HFS.out.weaken (fun _ _ h => h.elim)) (fun _ _ h => h)).trans g2 (fun k hk e => by omega), HFR1.out.2⟩
    have := HSD.out
    rw [HKB.out, HTR.out] at this
    have ez : Z2 = valsT bs ++ 124 :: tr := by rw [HZ2.out, HZ1.out, HZ.out]; simp
    rw [ez]
    exact this
end
end Go.Proofs.Qxb6500575aGreatDoor
