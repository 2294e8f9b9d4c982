/-
  THE WALKS of runm: pop, push.
-/
import Derived.Test.Qxb6500575aGreatDoorYInst
import Derived.Test.Qxb6500575aGreatDoorRVals
namespace Go.Proofs.Qxb6500575aGreatDoor
open Go Go.RowKit
set_option linter.unusedVariables false
set_option linter.unusedSimpArgs false

section
variable {w : World} {bn : Nat} {q : NF} {L : NL} {x : ND}
set_option maxRecDepth 100000
set_option maxHeartbeats 400000
theorem ypop_any (h : NRep w bn q L x) {v : V} {r : List V} (hst : x.st = v :: r) (hl : r.length ≤ 1000) {t : UInt8} (ht : v.ty = t) : Calls Tryz.prog 146 #[.pointer (some ⟨bn, 0, none⟩), .int .u8 t.toNat] w fun e w' => e = .returned (.tuple #[.int .i64 v.num, .bool true]) ∧ NRep w' bn q L { x with st := r } ∧ NStep w w' bn L L := by
  subst ht
  obtain ⟨g, hsa, a0, a1, gl, gc⟩ := h.top hst
  have c3 := h.here.cell 3
  simp only [List.getElem?_toArray, List.getElem?_cons_succ, List.getElem?_cons_zero] at c3
  rw [hst, hsa, List.length_cons] at c3
  rw [hst, List.length_cons] at gc
  have f3 := h.here.frozen 3
  have hb := h.here.lt
  have FIN : Hid (∀ W, Fr (fun _ => False) w W → NRep (W.setCell ⟨bn, 3, none⟩ (.slice L.sa r.length L.sc)) bn q L { x with st := r } ∧ NStep w (W.setCell ⟨bn, 3, none⟩ (.slice L.sa r.length L.sc)) bn L L) := fun W hW => by
    obtain ⟨r1, r2⟩ := (h.fresh hW).cutSt [v] r (by rw [hst]; rfl)
    exact ⟨r1, (NStep.fresh hW).trans r2⟩
  rw [hsa] at FIN
  have HH : Hid (NRep w bn q L x) := h
  clear h hst
  obtain ⟨vt, HVT⟩ : ∃ vt : Int, Hid (vt = v.ty.toNat) := ⟨_, rfl⟩
  obtain ⟨vn, HVN⟩ : ∃ vn : Int, Hid (vn = v.num) := ⟨_, rfl⟩
  obtain ⟨k, HK⟩ : ∃ k : Nat, Hid (r.length = k) := ⟨_, rfl⟩
  rw [HK.out] at hl c3 gc a0 a1 FIN
  rw [← HVT.out] at a0 ⊢
  rw [← HVN.out] at a1 ⊢
  have hk0 : ((k : Int) + 1 == 0) = false := beq_eq_false_iff_ne.2 (by omega)
  have hk1 : (k : Int) + 1 - 1 = k := by omega
  go_enter Tryz.func146, Tryz.ntmps146
  go_wp2
  refine wp_region_quiet_lit (by kernel_rfl) (by kernel_rfl) ?_
  repeat go_big_quiet_step (fail)
  refine wpQuiet_nil ?_
  rintro w' ⟨nq, rfl⟩
  go_wp2
  refine wp_region_quiet_lit (by kernel_rfl) (by kernel_rfl) ?_
  repeat go_big_quiet_step (fail)
  refine wpQuiet_nil ?_
  rintro w' ⟨nq2, rfl⟩
  go_wp2
  refine wp_region_tail 12 (by kernel_rfl) (by kernel_rfl) (fun _ _ _ _ _ h => h) ?_
  simp only [List.take_succ_cons, List.take_zero, List.drop_succ_cons, List.drop_zero]
  repeat go_big_quiet_step (fail)
  refine wpQuiet_nil ?_
  go_wp2
  go_ret2
  exact ⟨rfl, FIN.out _ ((Fr.refl _ _).drewN _)⟩
/-- a value on top -/
theorem NRep.pushed (h : NRep w bn q L x) (v : V) {w1 w2 : World} {g cap : Nat} (hf : Fr (fun _ => False) w w1) (q1 : w2.ownsRow 0 70 2 (.slice (some ⟨g, 0, none⟩) (x.st.length + 1) cap) (x.st.length + 1) (stCells x.st ++ [.int .u8 v.ty.toNat, .int .i64 v.num])) (q2 : Fr (fun k => (L.stV x).ownBlock = some k) w1 w2) (q3 : (L.stV x).ownBlock = some g ∨ w.heap.size ≤ g) :
    Has w2 bn #[q.p, q.src, q.k, .slice L.sa x.st.length L.sc, .int .i64 x.fuel, .int .i64 x.used, .int .i64 x.n, .int .i64 x.asked, .bool x.host, sv x.tape, sv x.trace] 171 ∧
    NRep (w2.setCell ⟨bn, 3, none⟩ (.slice (some ⟨g, 0, none⟩) (x.st.length + 1) cap)) bn q ⟨some ⟨g, 0, none⟩, cap⟩ { x with st := v :: x.st } ∧ NStep w (w2.setCell ⟨bn, 3, none⟩ (.slice (some ⟨g, 0, none⟩) (x.st.length + 1) cap)) bn L ⟨some ⟨g, 0, none⟩, cap⟩ := by
  have hn : ¬ (L.stV x).ownBlock = some bn := owns_ne h.st h.here (by decide)
  have hh : Has w2 bn _ _ := (h.here.fr hf (fun e => e)).fr q2 hn
  have hne : g ≠ bn := fun e => by
    rcases q3 with q3 | q3
    · exact hn (e ▸ q3)
    · have := h.here.lt; omega
  have hF : Fr (NS bn L) w w2 := (hf.weaken (fun _ _ h => h.elim)).trans q2 (fun k _ hk => .inr (by rw [ownBlock_any _ _ _ x.st.length L.sc]; exact hk))
  refine ⟨hh, ⟨?_, ?_⟩, hF.setCell (.inl (.inl rfl)) _, fun k hk hS => ?_⟩
  · have := hh.put 3 (.slice (some ⟨g, 0, none⟩) (x.st.length + 1) cap)
    simpa using this
  · have e : stCells x.st ++ [.int .u8 v.ty.toNat, .int .i64 v.num] = stCells (v :: x.st) := by
      unfold stCells
      simp [bvCells, V.bv]
    rw [e] at q1
    have := owns_other q1 (p := ⟨bn, 3, none⟩) (fun e => hne (by simpa [Value.ownBlock] using e)) (.slice (some ⟨g, 0, none⟩) (x.st.length + 1) cap)
    exact this
  · rcases hS with rfl | hS
    · exact .inl rfl
    · simp [Value.ownBlock] at hS
      subst hS
      rcases q3 with q3 | q3
      · exact .inr (by rw [ownBlock_any _ _ _ x.st.length L.sc]; exact q3)
      · omega
theorem rowVals2 : IsRow Tryz.prog 37 70 (.agg #[.int .u8 0, .int .i64 0]) 2 16 := ⟨by kernel_rfl, by kernel_rfl, rfl, by decide⟩
theorem ypush_any (h : NRep w bn q L x) (v : V) (hl : x.st.length ≤ 1000) : Calls Tryz.prog 153 #[.pointer (some ⟨bn, 0, none⟩), .int .u8 v.ty.toNat, .int .i64 v.num] w fun e w' => e = .returned (.tuple #[]) ∧ ∃ L', NRep w' bn q L' { x with st := v :: x.st } ∧ NStep w w' bn L L' := by
  have c3 := h.here.cell 3
  simp at c3
  have f3 := h.here.frozen 3
  have hb := h.here.lt
  have H : Hid (NRep w bn q L x) := h
  have HR : Hid (World.ownsRow w 0 70 2 (L.stV x) x.st.length (stCells x.st)) := h.st
  obtain ⟨vt, HVT⟩ : ∃ vt : Int, Hid (vt = v.ty.toNat) := ⟨_, rfl⟩
  obtain ⟨vn, HVN⟩ : ∃ vn : Int, Hid (vn = v.num) := ⟨_, rfl⟩
  rw [← HVT.out, ← HVN.out]
  clear h
  go_enter Tryz.func153, Tryz.ntmps153
  go_wp2_with (at_builtin; go_must (refine wpList_app rowVals2 _ rfl (.tmp 10) (.tmp 14) rfl _ _ _ rfl (owns_alloc HR.out _) _ [.int .u8 vt, .int .i64 vn] rfl (Has.new _ _ _) rfl ?one ?bd ?go))
  case one => simp [Value.oneCell']
  case bd => omega
  case go =>
    intro g cap w2 q1 q2 q3 q4
    have hq3 : (L.stV x).ownBlock = some g ∨ w.heap.size ≤ g := by
      rcases q3 with q3 | q3
      · exact .inl q3
      · right; rw [q3]; simp
    obtain ⟨hh, r1, r2⟩ := H.out.pushed v ((Fr.refl _ _).alloc _) (by rw [← HVT.out, ← HVN.out]; exact q1) q2 hq3
    have d3 := hh.cell 3
    simp at d3
    have e3 := hh.frozen 3
    have k3 := hh.lt
    have R1 : Hid (NRep _ _ _ _ _) := r1
    have R2 : Hid (NStep _ _ _ _ _) := r2
    clear q1 q2 q3 q4 hq3 hh r1 r2
    go_wp2
    go_end0
    exact ⟨rfl, _, R1.out, R2.out⟩
end
end Go.Proofs.Qxb6500575aGreatDoor
