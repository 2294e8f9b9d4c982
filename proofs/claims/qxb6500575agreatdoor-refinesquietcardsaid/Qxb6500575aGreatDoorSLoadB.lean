/-
  THE WALK of runlaw.Load of a module that is refused: the error is positive. Written by tools/gen_s3.py out of RLoad.
-/
import Derived.Test.Qxb6500575aGreatDoorRLoad
namespace Go.Proofs.Qxb6500575aGreatDoor
open Go Go.RowKit
set_option linter.unusedVariables false
set_option linter.unusedSimpArgs false

def LoadBadP (q : Q4) (S : Nat → Prop) (bb : Nat) (K : BelL) (x : BelD) (w : World) (e : Ending) (w' : World) : Prop :=
  (∃ er a b, 0 < er ∧ e = .returned (.agg #[.int .i64 er, .int .i64 a, .int .i64 b, sv []])) ∧ BelRep q S w' bb K x ∧ Fr (fun _ => False) w w'
set_option maxRecDepth 100000
set_option maxHeartbeats 1000000
section
variable {q : Q4} {S : Nat → Prop} {bb : Nat} {K : BelL} {x : BelD} {w : World}
theorem sload_bad (h : BelRep q S w bb K x) (hS : ∀ k, S k → k < w.heap.size) (hf : BelFit x) (hg : GlobOk w) (hbad : x.m.load.2.2 ≠ 0) :
    Calls Tryz.prog 15 #[.pointer (some ⟨bb, 0, none⟩)] w (LoadBadP q S bb K x w) := by
  obtain ⟨W, HW⟩ : ∃ W, Hid (W = w.alloc (.cells #[.int .i64 0, .int .i64 0, .int .i64 0, sv []] 46)) := ⟨_, rfl⟩
  obtain ⟨B, HB⟩ : ∃ B, Hid (B = w.heap.size) := ⟨_, rfl⟩
  have F0 : Fr (fun _ => False) w W := by rw [HW.out]; exact (Fr.refl _ _).alloc _
  have hA : Has W B #[.int .i64 0, .int .i64 0, .int .i64 0, sv []] 46 := by rw [HW.out, HB.out]; exact Has.new _ _ _
  have h1 := h.newer F0
  have hsz := F0.size
  have mm := modM_of hf.good.m hf.ty.typed
  have hls : x.m.loadM = x.m.load := load_same hf.good.m hf.ty.typed
  have HMN : Hid (Calls _ _ _ _ _) := mnew_any _ K.bm K.L x.m W h1.mod (fun k hk => by have := hS k hk.1; omega) mm.ok mm.body mm.tab
  have c0 := h1.here.cell 0
  simp at c0
  have H1 : Hid (BelRep q S W bb K x) := h1
  have HF0 : Hid (Fr _ w W) := F0
  have HA : Hid (Has W B _ _) := hA
  have HG : Hid (GlobOk w) := hg
  have hS' : Hid (∀ k, S k → k < w.heap.size) := hS
  have HFT : Hid (BelFit x) := hf
  have HLS : Hid (x.m.loadM = x.m.load) := hls
  clear h hA F0 mm hls hg hS h1 hf
  have HC5 : Hid (x.m.load.2.2 = 5 ∨ x.m.load.2.2 = 6 ∨ x.m.load.2.2 = 7) := by
    rcases HFT.out.good.m.load_codes with h | h | h
    · exact absurd h hbad
    · exact .inl h
    · exact .inr (.inl h)
  have hW := HW.out
  have hB := HB.out
  have HNB : Hid (∀ w1, Fr (fun _ => False) W w1 → Calls _ _ _ w1 _) := fun w1 hw => new_bad _ K.bm K.L x.m w1 (H1.out.newer hw).mod (fun k hk => by have := hS'.out k hk.1; have := hw.size; omega) HFT.out.good.m.ok HFT.out.good.m.bodies hbad
  have HMB : Hid (∀ e w1, MNewPost x.m W e w1 → e = .returned (.tuple #[.pointer none, .int .i64 x.m.load.2.2, .int .i64 x.m.load.1, .int .i64 x.m.load.2.1]) ∧ Fr (fun _ => False) W w1) := fun e w1 h => by
    have hb := h.bad (by rw [HLS.out]; exact hbad)
    rw [HLS.out] at hb
    exact ⟨hb, h.fr⟩
  generalize x.m.load = lo at *
  obtain ⟨lf, la, le⟩ := lo
  simp only at *
  have hle : (le != 0) = true := by rw [bne_iff_ne]; exact hbad
  have hlee : (le != le) = false := by simp
  have hc0 : (w.alloc (.cells #[.int .i64 0, .int .i64 0, .int .i64 0, sv []] 46)).cell? ⟨bb, 0, none⟩ = some (.pointer (some ⟨K.bm, 0, none⟩)) := by rw [← hW]; exact c0
  rw [hW] at HMN
  clear hbad HFT HLS
  go_enter Tryz.func15, Tryz.ntmps15
  go_wp2_with fail
  refine HMN.out.mono ?_
  rintro e w1 hp
  rw [← hW] at hp
  obtain ⟨rfl, hF1⟩ := HMB.out _ _ hp
  have hb1 := (H1.out.newer hF1).here.cell 0
  simp at hb1
  have HF1 : Hid (Fr _ W w1) := hF1
  clear hp hF1 HMN HMB c0 hc0
  go_wp2_with fail
  refine (HNB.out _ HF1.out).mono ?_
  rintro e w2 ⟨hF2, be, rfl, hE, hbe⟩
  have HF2 : Hid (Fr (fun _ => False) W w2) := HF1.out.trans hF2 (fun _ _ h => h)
  have HT : Hid (Calls _ _ _ _ _) := tell_any be lf la le w2 ⟨hE, HC5.out⟩ (HG.out.fr (HF0.out.trans HF2.out (fun _ _ h => h)))
  clear hF2 hE hbe HF1 HNB hb1
  go_wp2_with fail
  refine HT.out.mono ?_
  rintro e w3 ⟨rfl, hF3⟩
  have HF3 : Hid (Fr (fun _ => False) W w3) := HF2.out.trans hF3 (fun _ _ h => h)
  clear hF3 HT HF2
  have HK1 : Hid (Has w3 B _ _) := HA.out.fr HF3.out (fun h => h)
  rw [hB] at HK1
  have x0 := HK1.out.cell 0
  have x1 := HK1.out.cell 1
  have x2 := HK1.out.cell 2
  have x3 := HK1.out.cell 3
  simp at x0 x1 x2 x3
  have y0 := HK1.out.frozen 0
  have y1 := HK1.out.frozen 1
  have y2 := HK1.out.frozen 2
  have y3 := HK1.out.frozen 3
  have yl := HK1.out.lt
  clear hW hB
  go_wp2
  (try simp only [Exit.inBlock, Exit.then])
  obtain ⟨g1, g2⟩ := HK1.out.put4 (.int .i64 le) (.int .i64 lf) (.int .i64 la) (sv [])
  refine bodyPost_ret (ans_res rfl _ _ (w.heap.size) _ _ _ _ rfl g1) rfl ?_
  have F4 : Fr (fun _ => False) w _ := (HF0.out.trans HF3.out (fun _ _ h => h)).trans g2 (fun j hj e => by omega)
  exact ⟨⟨le, lf, la, by have := HC5.out; omega, rfl⟩, (H1.out.newer HF3.out).fr g2 (fun k hk e => by have := hS'.out k hk; omega), F4⟩

end
end Go.Proofs.Qxb6500575aGreatDoor
