import Derived.Test.Qxb6500575aGreatDoorLoad
namespace Go.Proofs.Qxb6500575aGreatDoor
open Go Go.RowKit
set_option linter.unusedVariables false
set_option linter.unusedSimpArgs false

def ModD.prog (m : ModD) : ProgD := { nimp := m.imports.length, min := m.min, max := m.max, steps := 0, funs := m.sigs, codes := (List.range m.nall).map m.code }
/-- what New asks of the module's bodies -/
def BodiesOk (m : ModD) : Prop := ∀ f, m.imports.length ≤ f → f < m.nall → m.badSig 0 m.nall = none → BodyOk (m.env f) (m.body f)

set_option maxRecDepth 100000 in
set_option maxHeartbeats 1000000 in
theorem new_nil (w : World) :
    Calls Tryz.prog 33 #[.pointer none] w fun e w' => Fr (fun _ => False) w w' ∧ ∃ be, e = .returned (.tuple #[.pointer none, .iface 140 (.pointer (some ⟨be, 0, none⟩))]) ∧ Has w' be #[.int .i64 0, .int .i64 0, .iface 40 (.int .i64 7)] 142 ∧ w.heap.size ≤ be := by
  have hl : ∀ X, Calls Tryz.prog 59 #[.pointer (some ⟨w.heap.size, 0, none⟩), .pointer none] X fun e w' => e = .returned (.tuple #[.int .i64 0, .int .i64 0, .int .i64 7]) ∧ w' = X := by
    intro X
    go_enter Tryz.func59, Tryz.ntmps59
    go_wp2
    go_ret3
    exact ⟨rfl, rfl⟩
  have HL : Hid (∀ X : World, _) := hl
  clear hl
  go_enter Tryz.func33, Tryz.ntmps33
  go_wp2_with fail
  refine (HL.out _).mono ?_
  rintro e w1 ⟨rfl, hw1⟩
  obtain rfl := hw1.symm
  go_wp2
  go_ret2
  refine ⟨((Fr.refl _ _).alloc _).alloc _, _, rfl, ?_, by omega⟩
  have := Has.new (w.alloc (.cells #[.int .i64 0, .int .i64 0, .int .i64 0, .int .i64 0, .slice none 0 0] 101)) #[.int .i64 0, .int .i64 0, .iface 40 (.int .i64 7)] 142
  simpa using this

set_option maxRecDepth 100000 in
set_option maxHeartbeats 1000000 in
theorem new_bad (S : Nat → Prop) (bm : Nat) (Lm : ModL) (m : ModD) (w : World) (h : ModRep S w bm Lm m) (hS : ∀ k, S k → k < w.heap.size) (hok : ModOk m) (hbody : BodiesOk m) (hbad : m.load.2.2 ≠ 0) :
    Calls Tryz.prog 33 #[.pointer (some ⟨bm, 0, none⟩)] w fun e w' => Fr (fun _ => False) w w' ∧ ∃ be, e = .returned (.tuple #[.pointer none, .iface 140 (.pointer (some ⟨be, 0, none⟩))]) ∧ Has w' be #[.int .i64 m.load.1, .int .i64 m.load.2.1, .iface 40 (.int .i64 m.load.2.2)] 142 ∧ w.heap.size ≤ be := by
  have hl := load_any S bm w.heap.size Lm m (w.alloc (.cells #[.int .i64 0, .int .i64 0, .int .i64 0, .int .i64 0, .slice none 0 0] 101)) (h.fr ((Fr.refl (fun _ => False) w).alloc _) (fun _ _ => id)) (fun k hk => by have := hS k hk; simp; omega) hok (Has.new _ _ _) (fun hk => by have := hS _ hk; omega) hbody
  generalize m.load = q at *
  obtain ⟨lf, la, le⟩ := q
  simp only at hl hbad ⊢
  have hb1 : (le != 0) = true := by rw [bne_iff_ne]; exact hbad
  have HL : Hid (Calls _ _ _ _ _) := hl
  clear hl h
  go_enter Tryz.func33, Tryz.ntmps33
  go_wp2_with fail
  refine HL.out.mono ?_
  rintro e w1 ⟨rfl, hf, _⟩
  have HF : Hid (Fr _ _ w1) := hf
  clear hf HL
  go_wp2
  go_ret2
  have hsz := HF.out.size
  refine ⟨?_, _, rfl, Has.new _ _ _, by simp at hsz; omega⟩
  exact (((Fr.refl (fun _ => False) w).alloc _).trans (HF.out) (fun j hj hk => by omega)).alloc _

set_option maxRecDepth 100000 in
set_option maxHeartbeats 1000000 in
theorem new_ok (S : Nat → Prop) (bm : Nat) (Lm : ModL) (m : ModD) (w : World) (h : ModRep S w bm Lm m) (hS : ∀ k, S k → k < w.heap.size) (hok : ModOk m) (hbody : BodiesOk m) (hgood : m.load.2.2 = 0) :
    Calls Tryz.prog 33 #[.pointer (some ⟨bm, 0, none⟩)] w fun e w' => Fr (fun _ => False) w w' ∧ ∃ bp Lp, e = .returned (.tuple #[.pointer (some ⟨bp, 0, none⟩), .nilIface]) ∧ ProgRep (fun k => w.heap.size ≤ k) w' bp Lp m.prog := by
  have hl := load_any S bm w.heap.size Lm m (w.alloc (.cells #[.int .i64 0, .int .i64 0, .int .i64 0, .int .i64 0, .slice none 0 0] 101)) (h.fr ((Fr.refl (fun _ => False) w).alloc _) (fun _ _ => id)) (fun k hk => by have := hS k hk; simp; omega) hok (Has.new _ _ _) (fun hk => by have := hS _ hk; omega) hbody
  generalize m.load = q at *
  obtain ⟨lf, la, le⟩ := q
  simp only at hl hgood ⊢
  subst hgood
  have HL : Hid (Calls _ _ _ _ _) := hl
  clear hl h
  go_enter Tryz.func33, Tryz.ntmps33
  go_wp2_with fail
  refine HL.out.mono ?_
  rintro e w1 ⟨rfl, hf, hp⟩
  obtain ⟨Lp, hp⟩ := hp trivial
  have HF : Hid (Fr _ _ w1) := hf
  have HP : Hid (ProgRep _ w1 _ Lp _) := hp
  clear hf HL hp
  go_wp2
  go_ret2
  refine ⟨?_, _, Lp, rfl, ?_⟩
  · exact ((Fr.refl (fun _ => False) w).alloc _).trans (HF.out) (fun j hj hk => by omega)
  · refine HP.out.sub (fun k _ hk => ?_)
    rcases hk with rfl | hk
    · exact Nat.le_refl _
    · simp at hk; omega
end Go.Proofs.Qxb6500575aGreatDoor
