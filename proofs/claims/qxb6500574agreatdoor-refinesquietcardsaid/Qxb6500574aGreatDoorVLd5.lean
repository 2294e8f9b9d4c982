/-
  THE WALK of vm: proto: the end.
-/
import Derived.Test.Qxb6500574aGreatDoorVLd4
namespace Go.Proofs.Qxb6500574aGreatDoor
open Go Go.RowKit
set_option linter.unusedVariables false
set_option linter.unusedSimpArgs false
section
variable {w wk w' : World} {A Ak A' : VL} {m mk m' : VMD} {f e br bb c i bp ik i' : Nat} {s : Bs} {p p' : PrD} {bad bad' : Bool}
set_option maxRecDepth 100000
set_option maxHeartbeats 1000000
theorem p3_end (h : PS w A m f e br bb c s i bp p wk Ak mk ik bad) (hs : St3 m mk s i ik p 0 bad) {a : Act} (ha : Fr40 A.b br bp a) {Q : Exit → Act → World → Prop}
    (hQ : ∀ c a t v w, Q (.panic c) (a.put (some t) v) w → Q (.panic c) a w)
    (hN : ∀ a' w', Fr40 A.b br bp a' → PrPost w A m f e br bb c s i (.returned (.tuple #[])) w' → Q .normal a' w') :
    (codeR (pc3 Tryz.f133.body)).wp Tryz.prog Q a wk := by
  obtain ⟨u, rfl⟩ := ha.form
  have HN : Hid (∀ a' w', Fr40 A.b br bp a' → PrPost w A m f e br bb c s i (.returned (.tuple #[])) w' → Q .normal a' w') := hN
  have HQ : Hid (∀ c a t v w, Q (.panic c) (a.put (some t) v) w → Q (.panic c) a w) := hQ
  have HP : Hid (PS w A m f e br bb c s i bp p wk Ak mk ik bad) := h
  have HS : Hid (St3 m mk s i ik p 0 bad) := hs
  obtain ⟨_, ⟨p0, p1, p2, p3, p4, p5, p6, p7, pl, pz⟩, ⟨d2, d3, d4, d5, dl, dz⟩⟩ := h.cells
  obtain ⟨NP, HNP⟩ : ∃ NP, Hid (mk.protos.length = NP) := ⟨_, rfl⟩
  have hnp : NP + 3 ≤ ik := by rw [← HNP.out, h.pr]; have := h.l0.1; have := h.le; omega
  have hik : ik ≤ 32768 := Nat.le_trans h.ld.rd.le h.ld.rd.len
  rw [HNP.out] at d2
  have HOWN : Hid (wk.ownsRow 0 254 8 (.slice Ak.C.protos.a NP Ak.C.protos.c) NP (mk.protos.flatMap pCells)) := by
    have := h.ld.rep.core.protos.own
    rw [HNP.out] at this
    exact this
  clear h hs hN hQ ha d3 d4 d5
  simp only [pc3, pc2, pc1, codeL, codeR, codeIn, Tryz.f133, Option.getD_some]
  obtain ⟨q0, q1', q2', q3', q4', q5', q6', q7'⟩ := p
  dsimp only at p0 p1 p2 p3 p4 p5 p6 p7
  obtain ⟨PW, HPW⟩ : ∃ PW : World → Prop, Hid (PW = fun q => q.cell? ⟨A.b, 2, none⟩ = some (.slice Ak.C.protos.a NP Ak.C.protos.c) ∧ q.cell? ⟨bp, 0, none⟩ = some (.int .i64 q0) ∧ q.cell? ⟨bp, 1, none⟩ = some (.int .i64 q1') ∧ q.cell? ⟨bp, 2, none⟩ = some (.int .i64 q2') ∧ q.cell? ⟨bp, 3, none⟩ = some (.int .i64 q3') ∧ q.cell? ⟨bp, 4, none⟩ = some (.int .i64 q4') ∧ q.cell? ⟨bp, 5, none⟩ = some (.int .i64 q5') ∧ q.cell? ⟨bp, 6, none⟩ = some (.int .i64 q6') ∧ q.cell? ⟨bp, 7, none⟩ = some (.int .i64 q7')) := ⟨_, rfl⟩
  have mk9 : Hid (∀ q : World, q.cell? ⟨A.b, 2, none⟩ = some (.slice Ak.C.protos.a NP Ak.C.protos.c) → (∀ k, q.cell? ⟨bp, k, none⟩ = wk.cell? ⟨bp, k, none⟩) → PW q) := by
    intro q h2 hb
    rw [HPW.out]
    exact ⟨h2, (hb 0).trans p0, (hb 1).trans p1, (hb 2).trans p2, (hb 3).trans p3, (hb 4).trans p4, (hb 5).trans p5, (hb 6).trans p6, (hb 7).trans p7⟩
  have o9 : Hid (∀ q, PW q → q.cell? ⟨A.b, 2, none⟩ = some (.slice Ak.C.protos.a NP Ak.C.protos.c) ∧ q.cell? ⟨bp, 0, none⟩ = some (.int .i64 q0) ∧ q.cell? ⟨bp, 1, none⟩ = some (.int .i64 q1') ∧ q.cell? ⟨bp, 2, none⟩ = some (.int .i64 q2') ∧ q.cell? ⟨bp, 3, none⟩ = some (.int .i64 q3') ∧ q.cell? ⟨bp, 4, none⟩ = some (.int .i64 q4') ∧ q.cell? ⟨bp, 5, none⟩ = some (.int .i64 q5') ∧ q.cell? ⟨bp, 6, none⟩ = some (.int .i64 q6') ∧ q.cell? ⟨bp, 7, none⟩ = some (.int .i64 q7')) := by
    intro q h
    rw [HPW.out] at h
    exact h
  have k2 : ∀ s : WC PW, s.y.cell? ⟨A.b, 2, none⟩ = some (.slice Ak.C.protos.a NP Ak.C.protos.c) := fun s => (o9.out s.y s.f).1
  have l0 : ∀ s : WC PW, s.y.cell? ⟨bp, 0, none⟩ = some (.int .i64 q0) := fun s => (o9.out s.y s.f).2.1
  have l1 : ∀ s : WC PW, s.y.cell? ⟨bp, 1, none⟩ = some (.int .i64 q1') := fun s => (o9.out s.y s.f).2.2.1
  have l2 : ∀ s : WC PW, s.y.cell? ⟨bp, 2, none⟩ = some (.int .i64 q2') := fun s => (o9.out s.y s.f).2.2.2.1
  have l3 : ∀ s : WC PW, s.y.cell? ⟨bp, 3, none⟩ = some (.int .i64 q3') := fun s => (o9.out s.y s.f).2.2.2.2.1
  have l4 : ∀ s : WC PW, s.y.cell? ⟨bp, 4, none⟩ = some (.int .i64 q4') := fun s => (o9.out s.y s.f).2.2.2.2.2.1
  have l5 : ∀ s : WC PW, s.y.cell? ⟨bp, 5, none⟩ = some (.int .i64 q5') := fun s => (o9.out s.y s.f).2.2.2.2.2.2.1
  have l6 : ∀ s : WC PW, s.y.cell? ⟨bp, 6, none⟩ = some (.int .i64 q6') := fun s => (o9.out s.y s.f).2.2.2.2.2.2.2.1
  have l7 : ∀ s : WC PW, s.y.cell? ⟨bp, 7, none⟩ = some (.int .i64 q7') := fun s => (o9.out s.y s.f).2.2.2.2.2.2.2.2
  have HNE : Nonempty (WC PW) := WC.non (mk9.out wk d2 (fun _ => rfl))
  clear HPW
  refine C.wp_region_head 6 2 (fun q => ∃ s : WC PW, q = s.y) (by kernel_rfl) (by kernel_rfl) (fun c a t v w h => HQ.out c a t v w h) ⟨⟨wk.drew, mk9.out _ d2 (fun _ => rfl)⟩, rfl⟩ ?_
  simp only [List.take_succ_cons, List.take_zero, List.drop_succ_cons, List.drop_zero]
  repeat go_big_quiet_step (fail)
  refine wpQuiet_nil ?_
  clear k2 l0 l1 l2 l3 l4 l5 l6 l7 HNE
  have fa : ∀ o, Fr (fun _ => False) wk ((wk.alloc o).drew) := fun o => ((Fr.refl _ _).alloc o).drew
  unfold C.wpChain
  go_wp2_with fail
  refine ⟨⟨⟨_, mk9.out _ (((fa _).cellB dl (fun x => x)).trans d2) (fun k => (fa _).cellB pl (fun x => x))⟩, rfl⟩, ?_⟩
  unfold C.wpChain
  refine wpList_appN row_protos _ rfl (.tmp 184) (.tmp 186) rfl (.slice Ak.C.protos.a NP Ak.C.protos.c) NP (mk.protos.flatMap pCells) rfl (owns_drew (owns_alloc HOWN.out _)) _ 1 1 (pCells ⟨q0, q1', q2', q3', q4', q5', q6', q7'⟩) rfl (Has.new _ _ _).drew rfl (by omega) (pCells_oneC _) (by omega) ?_
  intro g cap w6 q1 q2 q3 q4
  have hbb : ∀ j, w6.cell? ⟨bp, j, none⟩ = wk.cell? ⟨bp, j, none⟩ := fun j => by
    rw [q2.cellB (Nat.lt_of_lt_of_le pl (fa (.cells (pCells ⟨q0, q1', q2', q3', q4', q5', q6', q7'⟩).toArray 254)).size) (fun hob => ?_)]
    · exact (fa _).cellB pl (fun x => x)
    · have h9 := HP.out.ld.rep.core.protos.lb bp (by rw [ownBlock_any _ _ _ NP Ak.C.protos.c]; exact hob)
      rw [HP.out.pb.2] at h9
      omega
  obtain ⟨hh, R6, S6⟩ := HP.out.ld.rep.app_protos ⟨q0, q1', q2', q3', q4', q5', q6', q7'⟩ (fa _) (by rw [HNP.out]; exact q1) (by rw [HNP.out]; exact q2) (by
    rw [HNP.out]
    rcases q3 with q3 | q3
    · exact .inl q3
    · right; rw [q3]; simp) q4
  have L6 := HP.out.ld.ofVM R6 S6 (by omega) (by omega)
  rw [HP.out.st.b] at hh L6 S6
  rw [HNP.out] at L6 S6
  have y2 := hh.cell 2
  have yz := hh.frozen 2
  have yl := hh.lt
  simp only [vmCells, List.getElem?_toArray, List.getElem?_cons_succ, List.getElem?_cons_zero, Sl.v] at y2
  rw [HNP.out] at y2
  have HFN : Hid (PrPost w A m f e br bb c s i (.returned (.tuple #[])) (w6.setCell ⟨A.b, 2, none⟩ (.slice (some ⟨g, 0, none⟩) (NP + 1) cap))) := by
    have hh0 := HP.out
    refine ⟨_, _, ik, bad, rfl, L6, hh0.st.trans (S6.weaken (fun k hk => by unfold isVM; omega)), by have := hh0.le; omega, hh0.same, ⟨?_, hh0.ln.2.1, hh0.ln.2.2.1, hh0.ln.2.2.2⟩, ?_⟩
    · simp only [List.length_append, List.length_cons, List.length_nil, HNP.out]
      omega
    · rcases HS.out with ⟨hb, hr⟩ | ⟨hb, hr⟩
      · refine .inl ⟨hb, _, hr, ?_⟩
        obtain ⟨a1, a2, a3, a4, a5, a6⟩ := hh0.same
        have a7 := hh0.pr
        show { mk with protos := mk.protos ++ _ } = ({ m with protos := m.protos ++ _, descs := mk.descs, consts := mk.consts, code := mk.code } : VMD)
        rw [a7, ← a1, ← a2, ← a3, ← a4, ← a5, ← a6]
      · exact .inr ⟨hb, hr⟩
  clear L6 R6 S6 hh q1 q2 q3 q4
  refine ⟨⟨⟨_, mk9.out _ y2 hbb⟩, rfl⟩, ?_⟩
  clear hbb mk9
  rw [C.wpChain_zero]
  simp only [Act.put, List.setIfInBounds_toArray, List.set_cons_succ, List.set_cons_zero]
  go_wp2_with fail
  exact HN.out _ _ ⟨by kernel_rfl, by kernel_rfl, by kernel_rfl, by kernel_rfl, rfl⟩ HFN.out
/-- from the third loop on -/
theorem p3_any (h : PS w A m f e br bb c s i bp p wk Ak mk ik bad) (hnc : p.nc ≤ 65535) (hs : St3 m mk s i ik p p.nc bad) {a : Act} (ha : Fr40 A.b br bp a) {Q : Exit → Act → World → Prop}
    (hQ : ∀ c a t v w, Q (.panic c) (a.put (some t) v) w → Q (.panic c) a w)
    (hR : ∀ a' w', Fr40 A.b br bp a' → PrPost w A m f e br bb c s i (.returned (.tuple #[])) w' → Q .ret a' w' ∧ Q .normal a' w') :
    (pc3 Tryz.f133.body).wp Tryz.prog Q a wk := by
  show (Code.seq (codeL (pc3 Tryz.f133.body)) (codeR (pc3 Tryz.f133.body))).wp Tryz.prog Q a wk
  refine wp_seq ?_
  refine p3_loop h hnc hs ha hQ (fun a' w' A' m' i' bad' ha' h' hs' => ?_) (fun a' w' ha' h' => (hR a' w' ha' h').1)
  exact p3_end h' hs' ha' hQ (fun a' w' ha' h' => (hR a' w' ha' h').2)
end
end Go.Proofs.Qxb6500574aGreatDoor
