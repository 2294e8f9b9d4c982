/-
  THE WALK of runlaw.Load.
-/
import Derived.Test.Qxb6500575aGreatDoorRBuild
import Derived.Test.Qxb6500575aGreatDoorRScript
import Derived.Test.Qxb6500575aGreatDoorRSmall
import Derived.Test.Qxb6500575aGreatDoorRRun
import Derived.Test.Qxb6500575aGreatDoorMNew
import Derived.Test.Qxb6500575aGreatDoorNew
import Derived.Test.Qxb6500575aGreatDoorTell
import Derived.Test.Qxb6500575aGreatDoorMProgOps0
namespace Go.Proofs.Qxb6500575aGreatDoor
open Go Go.RowKit
set_option linter.unusedVariables false
set_option linter.unusedSimpArgs false

theorem ans_res {p : Tmp} {fn : Func} (hr : fn.results = #[.cell p 46]) (tmps : Array Value) (w : World) (b : Nat) (x y z u : Value) (hp : tmps.getD p undef = .pointer (some ⟨b, 0, none⟩)) (hb : Has w b #[x, y, z, u] 46) :
    (results fn tmps).run Tryz.prog w = .ok (.agg #[x, y, z, u]) w := by
  obtain ⟨fs, hu⟩ : ∃ fs, Tryz.prog.underlying 46 = some (.struct fs) := by
    have hk : (match Tryz.prog.underlying 46 with | some (.struct _) => true | _ => false) = true := by kernel_rfl
    split at hk
    · rename_i fs he
      exact ⟨fs, he⟩
    · cases hk
  exact results_cell_row (p := p) (ty := 46) hr tmps w b 46 #[x, y, z, u] _ _ hp hb hu rfl (by kernel_rfl)
set_option maxRecDepth 100000
set_option maxHeartbeats 1000000
theorem tell_nil (w : World) : Calls Tryz.prog 34 #[.nilIface] w fun e w' => e = .returned (.int .i64 0) ∧ w' = w := by
  go_enter Tryz.func34, Tryz.ntmps34
  go_wp2
  go_ret
  exact ⟨rfl, rfl⟩
/-- the Prog of a module -/
abbrev ModD.progN (m : ModD) (n : Int) : ProgD := { m.prog with steps := n }
def LoadBad (q : Q4) (S : Nat → Prop) (bb : Nat) (K : BelL) (x : BelD) (w : World) (e : Ending) (w' : World) : Prop :=
  (∃ er a b, er ≠ 0 ∧ e = .returned (.agg #[.int .i64 er, .int .i64 a, .int .i64 b, sv []])) ∧ BelRep q S w' bb K x ∧ Fr (fun _ => False) w w'
def LoadGood (S : Nat → Prop) (bb : Nat) (K : BelL) (x : BelD) (w : World) (e : Ending) (w' : World) : Prop :=
  e = .returned (.agg #[.int .i64 0, .int .i64 0, .int .i64 0, sv []]) ∧ ∃ bp LP bk KK pm km, BelRep ⟨some ⟨bp, 0, none⟩, some ⟨bk, 0, none⟩, pm, km⟩ S w' bb K x ∧ ProgRep (PS bp LP) w' bp LP (x.m.progN 0) ∧ KRep w' bk KK (KD.zero x.m.min.toNat x.m.max.toNat) ∧ (∀ k, PS bp LP k → w.heap.size ≤ k) ∧ (∀ k, KS bk KK k → w.heap.size ≤ k) ∧ Fr (fun k => k = bb) w w'
section
variable {q : Q4} {S : Nat → Prop} {bb : Nat} {K : BelL} {x : BelD} {w : World}
theorem rload_bad (h : BelRep q S w bb K x) (hS : ∀ k, S k → k < w.heap.size) (hf : BelFit x) (hg : GlobOk w) (hbad : x.m.load.2.2 ≠ 0) :
    Calls Tryz.prog 15 #[.pointer (some ⟨bb, 0, none⟩)] w (LoadBad q S bb K x w) := by
  obtain ⟨W, HW⟩ : ∃ W, Hid (W = w.alloc (.cells #[.int .i64 0, .int .i64 0, .int .i64 0, sv []] 46)) := ⟨_, rfl⟩
  obtain ⟨B, HB⟩ : ∃ B, Hid (B = w.heap.size) := ⟨_, rfl⟩
  have F0 : Fr (fun _ => False) w W := by rw [HW.out]; exact (Fr.refl _ _).alloc _
  have hA : Has W B #[.int .i64 0, .int .i64 0, .int .i64 0, sv []] 46 := by rw [HW.out, HB.out]; exact Has.new _ _ _
  have h1 := h.newer F0
  have hsz := F0.size
  have mm := modM_of hf.good.m hf.ty.typed
  have hls : x.m.loadM = x.m.load := load_same hf.good.m hf.ty.typed
  have HMN : Hid (Calls _ _ _ _ _) := mnew_any _ K.bm K.L x.m W h1.mod (fun k hk => by have := hS k hk.1; omega) mm.ok mm.body mm.tab
  have c0 := h1.here.cell 0
  simp at c0
  have H1 : Hid (BelRep q S W bb K x) := h1
  have HF0 : Hid (Fr _ w W) := F0
  have HA : Hid (Has W B _ _) := hA
  have HG : Hid (GlobOk w) := hg
  have hS' : Hid (∀ k, S k → k < w.heap.size) := hS
  have HFT : Hid (BelFit x) := hf
  have HLS : Hid (x.m.loadM = x.m.load) := hls
  clear h hA F0 mm hls hg hS h1 hf
  have HC5 : Hid (x.m.load.2.2 = 5 ∨ x.m.load.2.2 = 6 ∨ x.m.load.2.2 = 7) := by
    rcases HFT.out.good.m.load_codes with h | h | h
    · exact absurd h hbad
    · exact .inl h
    · exact .inr (.inl h)
  have hW := HW.out
  have hB := HB.out
  have HNB : Hid (∀ w1, Fr (fun _ => False) W w1 → Calls _ _ _ w1 _) := fun w1 hw => new_bad _ K.bm K.L x.m w1 (H1.out.newer hw).mod (fun k hk => by have := hS'.out k hk.1; have := hw.size; omega) HFT.out.good.m.ok HFT.out.good.m.bodies hbad
  have HMB : Hid (∀ e w1, MNewPost x.m W e w1 → e = .returned (.tuple #[.pointer none, .int .i64 x.m.load.2.2, .int .i64 x.m.load.1, .int .i64 x.m.load.2.1]) ∧ Fr (fun _ => False) W w1) := fun e w1 h => by
    have hb := h.bad (by rw [HLS.out]; exact hbad)
    rw [HLS.out] at hb
    exact ⟨hb, h.fr⟩
  generalize x.m.load = lo at *
  obtain ⟨lf, la, le⟩ := lo
  simp only at *
  have hle : (le != 0) = true := by rw [bne_iff_ne]; exact hbad
  have hlee : (le != le) = false := by simp
  have hc0 : (w.alloc (.cells #[.int .i64 0, .int .i64 0, .int .i64 0, sv []] 46)).cell? ⟨bb, 0, none⟩ = some (.pointer (some ⟨K.bm, 0, none⟩)) := by rw [← hW]; exact c0
  rw [hW] at HMN
  clear hbad HFT HLS
  go_enter Tryz.func15, Tryz.ntmps15
  go_wp2_with fail
  refine HMN.out.mono ?_
  rintro e w1 hp
  rw [← hW] at hp
  obtain ⟨rfl, hF1⟩ := HMB.out _ _ hp
  have hb1 := (H1.out.newer hF1).here.cell 0
  simp at hb1
  have HF1 : Hid (Fr _ W w1) := hF1
  clear hp hF1 HMN HMB c0 hc0
  go_wp2_with fail
  refine (HNB.out _ HF1.out).mono ?_
  rintro e w2 ⟨hF2, be, rfl, hE, hbe⟩
  have HF2 : Hid (Fr (fun _ => False) W w2) := HF1.out.trans hF2 (fun _ _ h => h)
  have HT : Hid (Calls _ _ _ _ _) := tell_any be lf la le w2 ⟨hE, HC5.out⟩ (HG.out.fr (HF0.out.trans HF2.out (fun _ _ h => h)))
  clear hF2 hE hbe HF1 HNB hb1
  go_wp2_with fail
  refine HT.out.mono ?_
  rintro e w3 ⟨rfl, hF3⟩
  have HF3 : Hid (Fr (fun _ => False) W w3) := HF2.out.trans hF3 (fun _ _ h => h)
  clear hF3 HT HF2
  have HK1 : Hid (Has w3 B _ _) := HA.out.fr HF3.out (fun h => h)
  rw [hB] at HK1
  have x0 := HK1.out.cell 0
  have x1 := HK1.out.cell 1
  have x2 := HK1.out.cell 2
  have x3 := HK1.out.cell 3
  simp at x0 x1 x2 x3
  have y0 := HK1.out.frozen 0
  have y1 := HK1.out.frozen 1
  have y2 := HK1.out.frozen 2
  have y3 := HK1.out.frozen 3
  have yl := HK1.out.lt
  clear hW hB
  go_wp2
  (try simp only [Exit.inBlock, Exit.then])
  obtain ⟨g1, g2⟩ := HK1.out.put4 (.int .i64 le) (.int .i64 lf) (.int .i64 la) (sv [])
  refine bodyPost_ret (ans_res rfl _ _ (w.heap.size) _ _ _ _ rfl g1) rfl ?_
  have F4 : Fr (fun _ => False) w _ := (HF0.out.trans HF3.out (fun _ _ h => h)).trans g2 (fun j hj e => by omega)
  exact ⟨⟨le, lf, la, by simpa using hle, rfl⟩, (H1.out.newer HF3.out).fr g2 (fun k hk e => by have := hS'.out k hk; omega), F4⟩

theorem ProgRep.self_sub {S : Nat → Prop} {w : World} {bp : Nat} {LP : ProgL} {p : ProgD} (h : ProgRep S w bp LP p) {k : Nat} (hk : PS bp LP k) : S k := by
  rcases hk with rfl | hk | ⟨f, v, hv, hk⟩
  · exact h.own
  · exact h.ownF k hk
  · exact h.ownC f v hv k hk
/-- what Load leaves behind in the Below -/
theorem BelRep.put (h : BelRep q S w bb K x) {w' : World} (q' : Q4) (hF : Fr (fun k => k = bb) w w') (hH : Has w' bb #[.pointer (some ⟨K.bm, 0, none⟩), .slice K.ca x.code.length K.cc, .pointer q'.p, .pointer q'.k, .pointer q'.pm, .pointer q'.km] 36) : BelRep q' S w' bb K x :=
  { here := hH
    mod := h.mod.fr hF (fun k hk e => hk.2.1 e)
    code := owns_fr h.code hF (fun g hg e => by subst e; exact owns_ne h.code h.here (by decide) hg)
    own := h.own
    ownC := h.ownC }
theorem rload_good (h : BelRep q S w bb K x) (hS : ∀ k, S k → k < w.heap.size) (hf : BelFit x) (hgd : x.m.load.2.2 = 0) :
    Calls Tryz.prog 15 #[.pointer (some ⟨bb, 0, none⟩)] w (LoadGood S bb K x w) := by
  obtain ⟨W, HW⟩ : ∃ W, Hid (W = w.alloc (.cells #[.int .i64 0, .int .i64 0, .int .i64 0, sv []] 46)) := ⟨_, rfl⟩
  have F0 : Fr (fun _ => False) w W := by rw [HW.out]; exact (Fr.refl _ _).alloc _
  have hA : Has W w.heap.size #[.int .i64 0, .int .i64 0, .int .i64 0, sv []] 46 := by rw [HW.out]; exact Has.new _ _ _
  have h1 := h.newer F0
  have hsz := F0.size
  have mm := modM_of hf.good.m hf.ty.typed
  have hls : x.m.loadM = x.m.load := load_same hf.good.m hf.ty.typed
  have HMN : Hid (Calls _ _ _ _ _) := mnew_any _ K.bm K.L x.m W h1.mod (fun k hk => by have := hS k hk.1; omega) mm.ok mm.body mm.tab
  obtain ⟨a, ha⟩ : ∃ a : Nat, x.m.min = a := ⟨x.m.min.toNat, by have := hf.mem; omega⟩
  obtain ⟨b, hb⟩ : ∃ b : Nat, x.m.max = b := ⟨x.m.max.toNat, by have := hf.mem; omega⟩
  have hab : a ≤ b ∧ b ≤ 4 := by have := hf.mem; omega
  have HAB : Hid (a ≤ b ∧ b ≤ 4) := hab
  have HMB : Hid (∀ e w1, MNewPost x.m W e w1 → ∃ bq Lq sr, e = .returned (.tuple #[.pointer (some ⟨bq, 0, none⟩), .int .i64 0, .int .i64 0, .int .i64 0]) ∧ Fr (fun _ => False) W w1 ∧ MProg (fun k => W.heap.size ≤ k) w1 bq Lq x.m.progM sr) := fun e w1 h => by
    obtain ⟨bq, Lq, sr, he, hq⟩ := h.good (by rw [hls]; exact hgd)
    exact ⟨bq, Lq, sr, he, h.fr, hq⟩
  have HMP : Hid (∀ bq Lq sr w1, MProg (fun k => W.heap.size ≤ k) w1 bq Lq x.m.progM sr → Calls Tryz.prog 35 #[.pointer (some ⟨bq, 0, none⟩)] w1 fun e w' => e = .returned (.tuple #[.int .i64 a, .int .i64 b]) ∧ ∃ n, w' = w1.drewN n) := fun bq Lq sr w1 h => by
    have := mpmem_any (h := h)
    have e1 : x.m.progM.min = x.m.min := rfl
    have e2 : x.m.progM.max = x.m.max := rfl
    rw [e1, e2, ha, hb] at this
    exact this
  have HKZ : Hid (KD.zero x.m.min.toNat x.m.max.toNat = KD.zero a b) := by
    show _ = _
    rw [ha, hb]; rfl
  have HNB : Hid (∀ w1, Fr (fun _ => False) W w1 → Calls _ _ _ w1 _) := fun w1 hw => new_ok _ K.bm K.L x.m w1 (h1.newer hw).mod (fun k hk => by have := hS k hk.1; have := hw.size; omega) hf.good.m.ok hf.good.m.bodies hgd
  have H1 : Hid (BelRep q S W bb K x) := h1
  have HF0 : Hid (Fr _ w W) := F0
  have HA : Hid (Has W w.heap.size _ _) := hA
  have hS' : Hid (∀ k, S k → k < w.heap.size) := hS
  have hbw : bb < w.heap.size := hS _ h.own
  have hW := HW.out
  have hc0 : (w.alloc (.cells #[.int .i64 0, .int .i64 0, .int .i64 0, sv []] 46)).cell? ⟨bb, 0, none⟩ = some (.pointer (some ⟨K.bm, 0, none⟩)) := by
    rw [← hW]
    have c0 := h1.here.cell 0
    simp at c0
    exact c0
  rw [hW] at HMN
  clear h hA F0 mm hls hS h1 hf ha hb hab hgd
  go_enter Tryz.func15, Tryz.ntmps15
  go_wp2_with fail
  refine HMN.out.mono ?_
  rintro e w1 hp
  rw [← hW] at hp
  obtain ⟨bq, Lq, sr, rfl, hF1, hQ⟩ := HMB.out _ _ hp
  have hb1 := (H1.out.newer hF1).here.cell 0
  simp at hb1
  have HF1 : Hid (Fr _ W w1) := hF1
  have HQ : Hid (MProg _ w1 bq Lq _ sr) := hQ
  clear hp hF1 HMN HMB hc0 hQ
  go_wp2_with fail
  refine (HNB.out _ HF1.out).mono ?_
  rintro e w2 ⟨hF2, bp, LP, rfl, hP⟩
  have HF2 : Hid (Fr (fun _ => False) W w2) := HF1.out.trans hF2 (fun _ _ h => h)
  have HP : Hid (ProgRep (fun k => w.heap.size < k) w2 bp LP x.m.prog) := hP.sub (fun k _ hk => by have := HF1.out.size; have := HA.out.lt; omega)
  have HQ2 : Hid (MProg _ w2 bq Lq _ sr) := HQ.out.fresh hF2
  clear hF2 hP HF1 HNB hb1 HQ
  go_wp2_with fail
  refine (tell_nil w2).mono ?_
  rintro e w3 ⟨rfl, hw⟩
  obtain rfl := hw.symm
  clear hw
  go_wp2_with fail
  refine (HMP.out _ _ _ _ HQ2.out).mono ?_
  rintro e w3 ⟨rfl, n, rfl⟩
  have HF3 : Hid (Fr (fun _ => False) W (w2.drewN n)) := HF2.out.trans ((Fr.refl _ _).drewN n) (fun _ _ h => h)
  have HP3 : Hid (ProgRep (fun k => w.heap.size < k) (w2.drewN n) bp LP x.m.prog) := HP.out.fresh ((Fr.refl _ _).drewN n)
  generalize w2.drewN n = w3 at *
  have HB3 : Hid (BelRep q S w3 bb K x) := H1.out.newer HF3.out
  have bl := HB3.out.here.lt
  have z2 := HB3.out.here.cell 2
  have z4 := HB3.out.here.cell 4
  simp at z2 z4
  have v2 := HB3.out.here.frozen 2
  have v4 := HB3.out.here.frozen 4
  clear HQ2 HP HF2 HMP H1
  go_wp2_with fail
  obtain ⟨w4, HW4⟩ : ∃ w4, Hid (w4 = (w3.setCell ⟨bb, 2, none⟩ (.pointer (some ⟨bp, 0, none⟩))).setCell ⟨bb, 4, none⟩ (.pointer (some ⟨bq, 0, none⟩))) := ⟨_, rfl⟩
  rw [← HW4.out]
  have FB4 : Hid (Fr (fun k => k = bb) w3 w4) := by
    show Fr _ _ _
    rw [HW4.out]
    exact Fr.setCell (p := ⟨bb, 4, none⟩) (Fr.setCell (S := fun k => k = bb) (p := ⟨bb, 2, none⟩) (Fr.refl _ w3) (.inl rfl) _) (.inl rfl) _
  have HB4 : Hid (BelRep ⟨some ⟨bp, 0, none⟩, q.k, some ⟨bq, 0, none⟩, q.km⟩ S w4 bb K x) := HB3.out.put _ FB4.out (by rw [HW4.out]; simpa using (HB3.out.here.put 2 (.pointer (some ⟨bp, 0, none⟩))).put 4 (.pointer (some ⟨bq, 0, none⟩)))
  clear z2 z4 v2 v4 bl
  go_wp2_with fail
  refine (knew_any a b HAB.out.1 HAB.out.2 w4).mono ?_
  rintro e w5 ⟨bk, KK, rfl, hK, hF5, hKS⟩
  have HB5 : Hid (BelRep ⟨some ⟨bp, 0, none⟩, q.k, some ⟨bq, 0, none⟩, q.km⟩ S w5 bb K x) := HB4.out.newer hF5
  have bl := HB5.out.here.lt
  have z3 := HB5.out.here.cell 3
  simp at z3
  have v3 := HB5.out.here.frozen 3
  have HKR : Hid (KRep w5 bk KK (KD.zero a b)) := hK
  have HF5 : Hid (Fr _ w4 w5) := hF5
  have HKS : Hid (∀ k, KS bk KK k → w4.heap.size ≤ k) := hKS
  clear hK hF5 hKS
  go_wp2_with fail
  obtain ⟨w6, HW6⟩ : ∃ w6, Hid (w6 = w5.setCell ⟨bb, 3, none⟩ (.pointer (some ⟨bk, 0, none⟩))) := ⟨_, rfl⟩
  rw [← HW6.out]
  have FB6 : Hid (Fr (fun k => k = bb) w5 w6) := by
    show Fr _ _ _
    rw [HW6.out]
    exact Fr.setCell (S := fun k => k = bb) (p := ⟨bb, 3, none⟩) (Fr.refl _ w5) (.inl rfl) _
  have HB6 : Hid (BelRep ⟨some ⟨bp, 0, none⟩, some ⟨bk, 0, none⟩, some ⟨bq, 0, none⟩, q.km⟩ S w6 bb K x) := HB5.out.put _ FB6.out (by rw [HW6.out]; simpa using HB5.out.here.put 3 (.pointer (some ⟨bk, 0, none⟩)))
  clear z3 v3 bl
  go_wp2_with fail
  refine (kmnew_any a b HAB.out.1 HAB.out.2 w6).mono ?_
  rintro e w7 ⟨bm, cs, rfl, hF7, hbm, hM⟩
  have HB7 : Hid (BelRep ⟨some ⟨bp, 0, none⟩, some ⟨bk, 0, none⟩, some ⟨bq, 0, none⟩, q.km⟩ S w7 bb K x) := HB6.out.newer hF7
  have bl := HB7.out.here.lt
  have z5 := HB7.out.here.cell 5
  simp at z5
  have v5 := HB7.out.here.frozen 5
  have HF7 : Hid (Fr _ w6 w7) := hF7
  clear hF7 hbm hM
  have hne : w.heap.size ≠ bb := by omega
  have FB8 : Hid (Fr (fun k => k = bb) w7 (w7.setCell ⟨bb, 5, none⟩ (.pointer (some ⟨bm, 0, none⟩)))) := Fr.setCell (S := fun k => k = bb) (p := ⟨bb, 5, none⟩) (Fr.refl _ w7) (.inl rfl) _
  have HB8 : Hid (BelRep ⟨some ⟨bp, 0, none⟩, some ⟨bk, 0, none⟩, some ⟨bq, 0, none⟩, some ⟨bm, 0, none⟩⟩ S (w7.setCell ⟨bb, 5, none⟩ (.pointer (some ⟨bm, 0, none⟩))) bb K x) := HB7.out.put _ FB8.out (by simpa using HB7.out.here.put 5 (.pointer (some ⟨bm, 0, none⟩)))
  have FB3 : Hid (Fr (fun k => k = bb) w3 (w7.setCell ⟨bb, 5, none⟩ (.pointer (some ⟨bm, 0, none⟩)))) := ((((FB4.out.trans (HF5.out.weaken (fun _ _ h => h.elim)) (fun _ _ h => h)).trans FB6.out (fun _ _ h => h)).trans (HF7.out.weaken (fun _ _ h => h.elim)) (fun _ _ h => h)).trans FB8.out (fun _ _ h => h))
  have HFW : Hid (Fr (fun k => k = bb) W (w7.setCell ⟨bb, 5, none⟩ (.pointer (some ⟨bm, 0, none⟩)))) := (HF3.out.weaken (fun _ _ h => h.elim)).trans FB3.out (fun _ _ h => h)
  have HK1 : Hid (Has (w7.setCell ⟨bb, 5, none⟩ (.pointer (some ⟨bm, 0, none⟩))) w.heap.size _ _) := HA.out.fr HFW.out hne
  have x0 : (w7.setCell ⟨bb, 5, none⟩ (.pointer (some ⟨bm, 0, none⟩))).cell? ⟨w.heap.size, 0, none⟩ = some (.int .i64 0) := HK1.out.cell 0
  have x1 : (w7.setCell ⟨bb, 5, none⟩ (.pointer (some ⟨bm, 0, none⟩))).cell? ⟨w.heap.size, 1, none⟩ = some (.int .i64 0) := HK1.out.cell 1
  have x2 : (w7.setCell ⟨bb, 5, none⟩ (.pointer (some ⟨bm, 0, none⟩))).cell? ⟨w.heap.size, 2, none⟩ = some (.int .i64 0) := HK1.out.cell 2
  have x3 : (w7.setCell ⟨bb, 5, none⟩ (.pointer (some ⟨bm, 0, none⟩))).cell? ⟨w.heap.size, 3, none⟩ = some (sv []) := HK1.out.cell 3
  have y0 := HK1.out.frozen 0
  have y1 := HK1.out.frozen 1
  have y2 := HK1.out.frozen 2
  have y3 := HK1.out.frozen 3
  have yl := HK1.out.lt
  have yl7 : w.heap.size < w7.heap.size := by simpa [World.setCell] using yl
  go_wp2
  (try simp only [Exit.inBlock, Exit.then])
  obtain ⟨g1, g2⟩ := HK1.out.put4 (.int .i64 0) (.int .i64 0) (.int .i64 0) (sv [])
  refine bodyPost_ret (ans_res rfl _ _ (w.heap.size) _ _ _ _ rfl g1) rfl ?_
  have hk8 : ∀ k, KS bk KK k → w.heap.size < k := fun k hk => by
    have a1 := HKS.out k hk
    have a2 := FB4.out.size
    have a3 := HF3.out.size
    have a4 := HA.out.lt
    omega
  refine ⟨rfl, bp, LP, bk, KK, _, _, HB8.out.fr g2 (fun k hk e => by have := hS'.out k hk; omega), ?_, ?_, ?_, ?_, ?_⟩
  · have P1 := HP3.out.self
    have P2 := P1.kept FB3.out (fun k hk e => by have := HP3.out.self_sub hk; omega)
    exact P2.kept g2 (fun k hk e => by have := HP3.out.self_sub hk; omega)
  · rw [HKZ.out]
    have F1 : Fr (fun k => k = bb ∨ k = w.heap.size) w5 _ := ((((FB6.out.weaken (fun _ _ h => .inl h)).trans (HF7.out.weaken (fun _ _ h => h.elim)) (fun _ _ h => h)).trans (FB8.out.weaken (fun _ _ h => .inl h)) (fun _ _ h => h)).trans (g2.weaken (fun _ _ h => .inr h)) (fun _ _ h => h))
    exact HKR.out.fr F1 (fun k hk e => by have := hk8 k hk; omega)
  · exact fun k hk => by have := HP3.out.self_sub hk; omega
  · exact fun k hk => by have := hk8 k hk; omega
  · exact ((HF0.out.weaken (fun _ _ h => h.elim)).trans HFW.out (fun _ _ h => h)).trans g2 (fun j hj e => by omega)
end
end Go.Proofs.Qxb6500575aGreatDoor
