/-
  THE WALKS of run: leave, enter.
-/
import Derived.Test.Qxb6500575aGreatDoorRCut
import Derived.Test.Qxb6500575aGreatDoorRApp
import Derived.Test.Qxb6500575aGreatDoorRInv
import Derived.Test.Qxb6500575aGreatDoorProgOps0
namespace Go.Proofs.Qxb6500575aGreatDoor
open Go Go.RowKit
set_option linter.unusedVariables false
set_option linter.unusedSimpArgs false

section
variable {bx : Nat} {p k : Value} {L : InL} {x : InD} {w : World}
set_option maxRecDepth 100000
set_option maxHeartbeats 2000000
/-- a taken branch -/
theorem rjump_any (h : InRep w bx p k L x) {r : Frm} {rs : List Frm} (hr : x.fr = r :: rs) {gf : Nat} (hgf : L.fa = some ⟨gf, 0, none⟩) {xs ys zs : List V} (hs : x.st = xs ++ (ys ++ zs)) (op imm keep cut : Int) (hk : (xs.length : Int) = keep) (hc : (r.floor : Int) + cut = zs.length) (hc0 : 0 ≤ cut) (hl : x.st.length ≤ 1000) (hrl : rs.length ≤ 1000) :
    Calls Tryz.prog 98 #[.pointer (some ⟨bx, 0, none⟩), .pointer (some ⟨gf, rs.length * 5, none⟩), .agg #[.int .i64 op, .int .i64 imm, .int .i64 keep, .int .i64 cut]] w fun e w' => e = .returned (.tuple #[]) ∧ InRep w' bx p k L { x with st := xs ++ zs, fr := { r with pc := imm } :: rs } ∧ InStep w w' bx L L := by
  have hzl : zs.length ≤ 1000 := by rw [hs] at hl; simp at hl; omega
  obtain ⟨gf', hfa, hcf, hzf, hgfl, hfcap, hbgf, _⟩ := h.top hr
  rw [hgf] at hfa
  simp at hfa
  subst hfa
  have c3 := hcf 3 (by omega)
  simp [frmCells] at c3
  have hlt := h.here.lt
  subst hk
  have CUT : Hid (∀ n, Calls Tryz.prog 129 #[.pointer (some ⟨bx, 0, none⟩), .int .i64 zs.length, .int .i64 xs.length] ((w.alloc (.cells #[.int .i64 op, .int .i64 imm, .int .i64 xs.length, .int .i64 cut] 176)).drewN n) (fun e w' => e = .returned (.tuple #[]) ∧ w'.cell? ⟨w.heap.size, 1, none⟩ = some (.int .i64 imm) ∧ (InRep w' bx p k L { x with st := xs ++ zs } ∧ InStep w w' bx L L))) := fun n => by
    refine (rcut_any ((h.alloc (.cells #[.int .i64 op, .int .i64 imm, .int .i64 xs.length, .int .i64 cut] 176)).drewN n) hs hl).mono ?_
    rintro e w' ⟨h1, h2, h3⟩
    have hH := ((Has.new w #[.int .i64 op, .int .i64 imm, .int .i64 xs.length, .int .i64 cut] 176).drewN n).fr h3.fr (fun hS => by have := h.lt hS; omega)
    refine ⟨h1, ?_, h2, (((InStep.refl w bx L).alloc _).drewN n).trans h3⟩
    rw [hH.cell]; rfl
  have SET : Hid (∀ w', InRep w' bx p k L { x with st := xs ++ zs } ∧ InStep w w' bx L L → w'.frozen? ⟨gf, rs.length * 5 + 1, none⟩ = false ∧ (∃ v, w'.cell? ⟨gf, rs.length * 5 + 1, none⟩ = some v) ∧ w.heap.size ≤ w'.heap.size ∧ InRep (w'.setCell ⟨gf, rs.length * 5 + 1, none⟩ (.int .i64 imm)) bx p k L { x with st := xs ++ zs, fr := { r with pc := imm } :: rs } ∧ InStep w (w'.setCell ⟨gf, rs.length * 5 + 1, none⟩ (.int .i64 imm)) bx L L) := by
    rintro w' ⟨h1, h2⟩
    obtain ⟨g2, hfa2, hcf2, hzf2, _⟩ := h1.top (r := r) (rs := rs) hr
    rw [hgf] at hfa2
    simp at hfa2
    subst hfa2
    have := h1.setPc (r := r) (rs := rs) hr hgf imm
    exact ⟨hzf2 _, ⟨_, hcf2 1 (by omega)⟩, h2.fr.size, this.1, h2.trans this.2⟩
  clear h hcf hr hs hl
  go_enter Tryz.func98, Tryz.ntmps98
  go_wp2
  refine wp_region_tail 10 (by kernel_rfl) (by kernel_rfl) (fun _ _ _ _ _ h => h) ?_
  simp only [List.take_succ_cons, List.take_zero, List.drop_succ_cons, List.drop_zero]
  repeat go_big_quiet_step (fail)
  refine wpQuiet_nil ?_
  go_wp2_with fail
  refine (CUT.out 1).mono ?_
  rintro e w1 ⟨rfl, hci, h1⟩
  obtain ⟨hz1, ⟨v1, hv1⟩, hsz, h2⟩ := SET.out w1 h1
  have H2 : Hid (_ ∧ _) := h2
  clear h1 h2
  go_wp2
  go_end0
  exact ⟨rfl, H2.out⟩
theorem rleave_any (h : InRep w bx p k L x) {r : Frm} {rs : List Frm} (hr : x.fr = r :: rs) {vs ys low : List V} (hs : x.st = vs ++ (ys ++ low)) (ht : vs.map V.ty = r.res.reverse) (hb : r.base = low.length) (hf : r.floor ≤ (ys ++ low).length) (hl : x.st.length ≤ 1000) (hrl : rs.length ≤ 1000) :
    Calls Tryz.prog 97 #[.pointer (some ⟨bx, 0, none⟩)] w fun e w' => e = .returned (.tuple #[]) ∧ InRep w' bx p k L { x with st := vs ++ low, fr := rs } ∧ InStep w w' bx L L := by
  have hfl : x.fr.length = rs.length + 1 := by rw [hr]; rfl
  obtain ⟨gf, hfa, hcf, hzf, hgfl, hfcap, hbgf, _⟩ := h.top hr
  have c0 := hcf 0 (by omega)
  have c1 := hcf 1 (by omega)
  have c2 := hcf 2 (by omega)
  have c3 := hcf 3 (by omega)
  have c4 := hcf 4 (by omega)
  simp [frmCells] at c0 c1 c2 c3 c4
  have d3 := h.here.cell 3
  simp [hfa, hfl] at d3
  have htl : r.res.length = vs.length := by have := congrArg List.length ht; simpa using this.symm
  have hlt := h.here.lt
  rw [hb] at c2
  have TOP : Hid (∀ O, Calls Tryz.prog 94 #[.pointer (some ⟨bx, 0, none⟩), sv r.res, .int .i64 r.floor] ((w.alloc O).drew) (fun e w' => e = .returned (.int .i64 (ys ++ low).length) ∧ w' = (w.alloc O).drew)) := fun O => rtop_any (((h.alloc O)).drew) hs r.res ht r.floor hf hl
  have CUT : Hid (∀ O, Calls Tryz.prog 129 #[.pointer (some ⟨bx, 0, none⟩), .int .i64 low.length, .int .i64 vs.length] ((w.alloc O).drew) (fun e w' => e = .returned (.tuple #[]) ∧ w'.cell? ⟨bx, 3, none⟩ = some (.slice (some ⟨gf, 0, none⟩) (rs.length + 1) L.fc) ∧ w'.frozen? ⟨bx, 3, none⟩ = false ∧ bx < w'.heap.size ∧
      ∀ n, InRep ((w'.drewN n).setCell ⟨bx, 3, none⟩ (.slice (some ⟨gf, 0, none⟩) rs.length L.fc)) bx p k L { x with st := vs ++ low, fr := rs } ∧ InStep w ((w'.drewN n).setCell ⟨bx, 3, none⟩ (.slice (some ⟨gf, 0, none⟩) rs.length L.fc)) bx L L)) := fun O => by
    refine (rcut_any (((h.alloc O)).drew) hs hl).mono ?_
    rintro e w' ⟨h1, h2, h3⟩
    have hc3 := h2.here.cell 3
    simp [hfa, hfl] at hc3
    refine ⟨h1, hc3, h2.here.frozen 3, h2.here.lt, fun n => ?_⟩
    have h' := h2.drewN n
    have hot := owns_take h'.fr rs.length (by simp [hfl])
    rw [hfa] at hot
    have hbs : (Value.slice (some ⟨gf, 0, none⟩) rs.length L.fc).ownBlock ≠ some bx := owns_ne hot h'.here (by decide)
    have := h'.putFr rs (w2 := (w'.drewN n).setCell ⟨bx, 3, none⟩ (.slice (some ⟨gf, 0, none⟩) rs.length L.fc)) (fa2 := some ⟨gf, 0, none⟩) (fc2 := L.fc)
      (Fr.setCell (S := fun k => (L.frV { x with st := vs ++ low }).ownBlock = some k ∨ k = bx) (Fr.refl _ _) (p := ⟨bx, 3, none⟩) (.inl (.inr rfl)) _) (h'.here.put 3 _)
      (owns_other (by
        have e : rs.reverse.flatMap frmCells = List.take (rs.length * 5) (x.fr.reverse.flatMap frmCells) := by
          rw [hr, List.reverse_cons, List.flatMap_append]
          rw [List.take_append_of_le_length (by rw [flatMap_len frmCells 5 frmCells_len]; simp)]
          rw [List.take_of_length_le (by rw [flatMap_len frmCells 5 frmCells_len]; simp)]
        rw [e]; exact hot) hbs _)
      (fun g hg => .inl (by rw [InL.frV, hfa]; exact hg))
    have hL : { L with fa := some ⟨gf, 0, none⟩, fc := L.fc } = L := by cases L; simp at hfa; simp [hfa]
    rw [hL] at this
    exact ⟨this.1, ((((InStep.refl w bx L).alloc O).drew).trans (h3.drewN n)).trans this.2⟩
  clear h hcf hr hs hl ht hf hfl
  go_enter Tryz.func97, Tryz.ntmps97
  go_wp2
  refine wp_region_head 12 1 (fun x => x = w.drew ∨ x = (w.alloc (.cells #[.int .i64 0, .int .i64 0, .int .i64 0, .int .i64 0, .string ⟨#[]⟩] 213)).drew) (by kernel_rfl) (by kernel_rfl) (fun _ _ _ _ _ h => h) (.inl rfl) ?_
  simp only [List.take_succ_cons, List.take_zero, List.drop_succ_cons, List.drop_zero]
  repeat go_big_quiet_step (fail)
  refine wpQuiet_nil ?_
  unfold wpChain
  go_wp2
  refine ⟨by simp, ?_⟩
  rw [wpChain_zero]
  go_wp2_with fail
  refine (TOP.out _).mono ?_
  rintro e w1 ⟨rfl, rfl⟩
  go_wp2_with fail
  refine (CUT.out _).mono ?_
  rintro e w1 ⟨rfl, hc3, hz3, hlt1, hF⟩
  have FIN : Hid (∀ n, _) := hF
  clear hF
  go_wp2
  refine wp_region_tail 12 (by kernel_rfl) (by kernel_rfl) (fun _ _ _ _ _ h => h) ?_
  simp only [List.take_succ_cons, List.take_zero, List.drop_succ_cons, List.drop_zero]
  repeat go_big_quiet_step (fail)
  refine wpQuiet_nil ?_
  go_wp2
  go_end0
  exact ⟨rfl, FIN.out _⟩
end
end Go.Proofs.Qxb6500575aGreatDoor
