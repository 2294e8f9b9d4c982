/-
  THE WALK of preplaw.Fault.
-/
import Derived.Test.Qxb6500576aGreatDoorErrs
import Derived.Test.Qxb6500576aGreatDoorNewReg
namespace Go.Proofs.Qxb6500576aGreatDoor
open Go Go.RowKit
set_option linter.unusedVariables false
set_option linter.unusedSimpArgs false
open Go.Extern.Stop Go.Stop Go.Extern

theorem asHit_any (be : Nat) (t : Addr) (old : Value) (w : World) (hg : w.cell? ⟨0, 0, none⟩ = some (.iface 167 (.agg #[.pointer (some ⟨1, 31, none⟩)]))) (ht0 : w.cell? t = some old) (hf0 : w.frozen? t = false) :
    Calls Tryz.prog 65 #[.iface 60 (.pointer (some ⟨be, 0, none⟩)), .iface 134 (.pointer (some t))] w fun ev w' => ev = .returned (.bool true) ∧ Fr (fun k => k = t.block) w w' ∧ w'.cell? t = some (.pointer (some ⟨be, 0, none⟩)) := by
  refine (as_hit ⟨be, 0, none⟩ t old w hg ht0 hf0).mono ?_
  rintro e w' ⟨rfl, rfl⟩
  have htl : t.block < w.heap.size := by
    rcases Nat.lt_or_ge t.block w.heap.size with h | h
    · exact h
    · simp [World.cell?, Array.getElem?_eq_none h] at ht0
  refine ⟨rfl, ?_, ?_⟩
  · refine Fr.setCell (S := fun k => k = t.block) ?_ (.inl rfl) _
    repeat (first | exact Fr.refl _ _ | refine Fr.alloc ?_ _)
  · refine World.cell?_setCell_same' _ _ _ ?_
    rw [World.cell?_alloc_lt _ _ t (by simp; omega), World.cell?_alloc_lt _ _ t (by simp; omega), World.cell?_alloc_lt _ _ t (by simp; omega), World.cell?_alloc_lt _ _ t htl, ht0]; rfl
theorem fault_res (tmps : Array Value) (w : World) (b : Nat) (x y z u : Value) (hp : tmps.getD 4 undef = .pointer (some ⟨b, 0, none⟩)) (hb : Has w b #[x, y, z, u] 46) :
    (results Tryz.f34 tmps).run Tryz.prog w = .ok (.agg #[x, y, z, u]) w := by
  obtain ⟨fs, hu⟩ : ∃ fs, Tryz.prog.underlying 46 = some (.struct fs) := by
    have hk : (match Tryz.prog.underlying 46 with | some (.struct _) => true | _ => false) = true := by kernel_rfl
    split at hk
    · rename_i fs he
      exact ⟨fs, he⟩
    · cases hk
  exact results_cell_row (p := 4) (ty := 46) rfl tmps w b 46 #[x, y, z, u] _ _ hp hb hu rfl (by kernel_rfl)

def GlobOk (w : World) : Prop := w.cell? ⟨0, 0, none⟩ = some (.iface 167 (.agg #[.pointer (some ⟨1, 31, none⟩)]))
theorem GlobOk.fr {S : Nat → Prop} {w w' : World} (h : GlobOk w) (hf : Fr S w w') (h0 : ¬ S 0) : GlobOk w' := by
  unfold GlobOk at h ⊢
  have hlt : 0 < w.heap.size := by
    rcases Nat.eq_zero_or_pos w.heap.size with h0 | h'
    · simp [World.cell?, h0] at h
    · exact h'
  rw [← h]
  simp only [World.cell?, hf.block 0 hlt h0]

set_option maxRecDepth 100000 in
set_option maxHeartbeats 4000000 in
theorem fault_any (be : Nat) (f at_ n : Int) (w : World) (h : ErrAt w be f at_ n) (hg : GlobOk w) (h0 : be ≠ 0) :
    Calls Tryz.prog 34 #[.pointer none, .iface 60 (.pointer (some ⟨be, 0, none⟩))] w fun e w' => e = .returned (AnsD.mk n f at_ []).val ∧ Fr (fun _ => False) w w' := by
  have hb := h.here.lt
  have hz : ∀ {x : World}, GlobOk x → 0 < x.heap.size := fun {x} hx => by
    rcases Nat.eq_zero_or_pos x.heap.size with h0 | h'
    · unfold GlobOk at hx; simp [World.cell?, h0] at hx
    · exact h'
  have hw0 := hz hg
  obtain ⟨W, hW⟩ : ∃ W, W = (w.alloc (.cells #[.int .i64 0, .int .i64 0, .int .i64 0, .string ⟨#[]⟩] 46)).alloc (.cells #[.pointer none] 60) := ⟨_, rfl⟩
  have F0 : Fr (fun _ => False) w W := by rw [hW]; exact ((Fr.refl _ w).alloc _).alloc _
  have kA : Has W w.heap.size #[.int .i64 0, .int .i64 0, .int .i64 0, .string ⟨#[]⟩] 46 := by rw [hW]; exact (Has.new w _ _).alloc _
  have kP : Has W (w.heap.size + 1) #[.pointer none] 60 := by
    rw [hW]
    have := Has.new (w.alloc (.cells #[.int .i64 0, .int .i64 0, .int .i64 0, .string ⟨#[]⟩] 46)) #[.pointer none] 60
    simpa using this
  have HA : Hid (Calls _ _ _ _ _) := asHit_any be ⟨w.heap.size + 1, 0, none⟩ (.pointer none) W (hg.fr F0 (fun h => h)) (by rw [kP.cell]; rfl) (kP.frozen 0)
  rw [hW] at HA
  have H : Hid (ErrAt w be f at_ n) := h
  have HG : Hid (GlobOk w) := hg
  have HKA : Hid (Has _ w.heap.size _ _) := kA
  have HF0 : Hid (Fr (fun _ => False) w W) := F0
  clear h hg kA kP F0
  go_enter Tryz.func34, Tryz.ntmps34
  go_wp2_with fail
  refine HA.out.mono ?_
  rintro e w1 ⟨rfl, hF1, c1⟩
  rw [← hW] at hF1
  have F1 : Fr (fun _ => False) w w1 := HF0.out.trans hF1 (fun j hj e => by have : j = w.heap.size + 1 := e; omega)
  have kE1 : ErrAt w1 be f at_ n := ⟨H.out.here.fr F1 (fun h => h), H.out.code⟩
  have kA1 : Has w1 w.heap.size _ _ := HKA.out.fr hF1 (fun e => by have : w.heap.size = w.heap.size + 1 := e; omega)
  have HKA1 : Hid (Has w1 w.heap.size _ _) := kA1
  have HE : Hid (ErrAt w1 be f at_ n) := kE1
  have HF1 : Hid (Fr (fun _ => False) w w1) := F1
  have HT : Hid (Calls _ _ _ _ _) := errText_any be f at_ n w1 kE1
  have hs1 : w.heap.size + 1 < w1.heap.size := by have := hF1.size; rw [hW] at this; simp at this; omega
  clear hF1 F1 kE1 kA1 HA HKA HF0 hW H
  go_wp2_with fail
  refine HT.out.mono ?_
  rintro e w2 ⟨⟨t, rfl, ht⟩, hF2⟩
  have hte : t.isEmpty = false := by cases t with | nil => exact absurd rfl ht | cons _ _ => rfl
  have c2 : w2.cell? ⟨w.heap.size + 1, 0, none⟩ = some (.pointer (some ⟨be, 0, none⟩)) := by
    rw [← c1]
    unfold World.cell?
    simp only [hF2.block (w.heap.size + 1) hs1 (fun h => h)]
  have HF2 : Hid (Fr (fun _ => False) w w2) := HF1.out.trans hF2 (fun _ _ h => h)
  have HE2 : Hid (ErrAt w2 be f at_ n) := ⟨HE.out.here.fr hF2 (fun h => h), HE.out.code⟩
  have HKA2 : Hid (Has w2 w.heap.size _ _) := HKA1.out.fr hF2 (fun h => h)
  have hs2 : w.heap.size + 1 < w2.heap.size := Nat.lt_of_lt_of_le hs1 hF2.size
  clear hF2 HT HE HKA1 HF1 c1
  go_wp2
  have hcp : ∀ x : World, Fr (fun _ => False) w2 x → x.cell? ⟨w.heap.size + 1, 0, none⟩ = some (.pointer (some ⟨be, 0, none⟩)) := fun x hx => by
    rw [← c2]
    unfold World.cell?
    simp only [hx.block (w.heap.size + 1) hs2 (fun h => h)]
  have he0 : ∀ x : World, Fr (fun _ => False) w2 x → x.cell? ⟨be, 0, none⟩ = some (.int .i64 f) := fun x hx => by
    have := (HE2.out.here.fr hx (fun h => h)).cell 0
    simpa using this
  have he1 : ∀ x : World, Fr (fun _ => False) w2 x → x.cell? ⟨be, 1, none⟩ = some (.int .i64 at_) := fun x hx => by
    have := (HE2.out.here.fr hx (fun h => h)).cell 1
    simpa using this
  refine wp_region_mid [0, 2, 3, 4, 5, 6, 7, 8, 9] 1 10 (fun x => Fr (fun _ => False) w2 x) (by kernel_rfl) (by kernel_rfl) (fun _ _ _ _ _ h => h) (Fr.refl _ w2).drew [_, _, _, _, _, _, _, _, _] rfl _ rfl ?_
  repeat (first | go_big_quiet_step (fail) | (refine wpQuiet_step (fun K hK => ?_); go_simp; refine ⟨_, fun _ _ => rfl, hK _ ?_⟩; clear hK K))
  refine wpQ_load rfl (.tmp 5) _ _ rfl rfl (by kernel_rfl) hcp ?_
  simp only [Act.put, List.setIfInBounds_toArray, List.set_cons_succ, List.set_cons_zero]
  repeat (first | go_big_quiet_step (fail) | (refine wpQuiet_step (fun K hK => ?_); go_simp; refine ⟨_, fun _ _ => rfl, hK _ ?_⟩; clear hK K))
  refine wpQ_load rfl (.tmp 26) _ _ rfl rfl (by kernel_rfl) he0 ?_
  simp only [Act.put, List.setIfInBounds_toArray, List.set_cons_succ, List.set_cons_zero]
  repeat (first | go_big_quiet_step (fail) | (refine wpQuiet_step (fun K hK => ?_); go_simp; refine ⟨_, fun _ _ => rfl, hK _ ?_⟩; clear hK K))
  refine wpQ_load rfl (.tmp 5) _ _ rfl rfl (by kernel_rfl) hcp ?_
  simp only [Act.put, List.setIfInBounds_toArray, List.set_cons_succ, List.set_cons_zero]
  repeat (first | go_big_quiet_step (fail) | (refine wpQuiet_step (fun K hK => ?_); go_simp; refine ⟨_, fun _ _ => rfl, hK _ ?_⟩; clear hK K))
  refine wpQ_load rfl (.tmp 30) _ _ rfl rfl (by kernel_rfl) he1 ?_
  simp only [Act.put, List.setIfInBounds_toArray, List.set_cons_succ, List.set_cons_zero]
  repeat (first | go_big_quiet_step (fail) | (refine wpQuiet_step (fun K hK => ?_); go_simp; refine ⟨_, fun _ _ => rfl, hK _ ?_⟩; clear hK K))
  refine wpQuiet_nil ?_
  have HC : Hid (Calls _ _ _ _ _) := tell_any be f at_ n w2.drew ⟨HE2.out.here, HE2.out.code⟩ (HG.out.fr (HF2.out.drew) (fun h => h))
  go_wp2_with fail
  refine HC.out.mono ?_
  rintro e w3 ⟨rfl, hF3⟩
  have kA3 : Has w3 w.heap.size _ _ := HKA2.out.fr (w' := w3) ⟨hF3.os, hF3.tape, hF3.output, hF3.size, hF3.block⟩ (fun h => h)
  have FS : Fr (fun _ => False) w2 w3 := ⟨hF3.os, hF3.tape, hF3.output, hF3.size, hF3.block⟩
  have HFS : Hid (Fr (fun _ => False) w2 w3) := FS
  have HF3 : Hid (Fr (fun _ => False) w w3) := HF2.out.trans FS (fun _ _ h => h)
  have x0 := kA3.cell 0
  have x1 := kA3.cell 1
  have x2 := kA3.cell 2
  have x3 := kA3.cell 3
  simp at x0 x1 x2 x3
  have y0 := kA3.frozen 0
  have y1 := kA3.frozen 1
  have y2 := kA3.frozen 2
  have y3 := kA3.frozen 3
  have yl := kA3.lt
  have HKA3 : Hid (Has w3 w.heap.size _ _) := kA3
  clear hF3 kA3 FS HC HE2 HF2 HKA2 hcp he0 he1 HG hz
  go_wp2
  refine ⟨HFS.out, ?_⟩
  simp only [List.drop_succ_cons, List.drop_zero]
  go_wp2
  (try simp only [Exit.inBlock, Exit.then])
  obtain ⟨g1, g2⟩ := HKA3.out.put4 (.int .i64 n) (.int .i64 f) (.int .i64 at_) (.string ⟨#[]⟩)
  refine bodyPost_ret (fault_res _ _ w.heap.size _ _ _ _ rfl g1) rfl ?_
  exact ⟨rfl, HF3.out.trans g2 (fun j hj e => by omega)⟩
end Go.Proofs.Qxb6500576aGreatDoor
