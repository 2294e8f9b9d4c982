/-
  THE WALK of vm: proto: the first loop, and what stands behind it.
-/
import Derived.Test.Qxb6500574aGreatDoorVLd6
namespace Go.Proofs.Qxb6500574aGreatDoor
open Go Go.RowKit
set_option linter.unusedVariables false
set_option linter.unusedSimpArgs false
section
variable {w wk w' : World} {A Ak A' : VL} {m mk m' : VMD} {f e br bb c i bp ik i' np ns nup nk nc : Nat} {s : Bs} {bad bad' : Bool}
set_option maxRecDepth 100000
set_option maxHeartbeats 1000000
/-- what stands at the first loop's head: n descriptors are to be read -/
def St1 (m mk : VMD) (s : Bs) (i ik np ns nup n : Nat) (bad : Bool) : Prop :=
  (mk.code = m.code ∧ mk.consts = m.consts) ∧ ((bad = false ∧ prR m s i = match descsP n mk.descs (s.drop ik) with | none => none | some (ds, r2) => prC2 (imOf m) np ns nup ds r2) ∨ (bad = true ∧ prR m s i = none))
theorem St1.to2 (h : St1 m mk s i ik np ns nup 0 bad) (hle : ik ≤ s.length) : (bad = true ∨ s.length < ik + 2 → prR m s i = none) ∧ (bad = false → ik + 2 ≤ s.length → St2 m mk s i (ik + 2) np ns nup (u16N (s.drop ik)) (u16N (s.drop ik)) false) := by
  obtain ⟨hc, h⟩ := h
  refine ⟨fun hb => ?_, fun hb h2 => ?_⟩
  · rcases h with ⟨h1, h⟩ | ⟨_, h⟩
    · rcases hb with hb | hb
      · rw [h1] at hb; cases hb
      · rw [h]
        show prC2 (imOf m) np ns nup mk.descs (s.drop ik) = none
        unfold prC2
        rw [rdTake_no hb hle]
    · exact h
  · rcases h with ⟨_, h⟩ | ⟨h1, _⟩
    · refine ⟨hc.1, .inl ⟨rfl, ?_⟩⟩
      rw [h]
      show prC2 (imOf m) np ns nup mk.descs (s.drop ik) = _
      unfold prC2
      rw [rdTake_ok h2]
      dsimp only
      rw [u16N_take]
      show (match constsP (u16N (s.drop ik)) m.consts (s.drop (ik + 2)) with | none => none | some (ks, r4) => _) = _
      rw [hc.2]
      rfl
    · rw [hb] at h1; cases h1
/-- between the first loop and the second -/
theorem p1_mid (h : PS w A m f e br bb c s i bp (prV m np ns nup 0 0) wk Ak mk ik bad) (hs : St1 m mk s i ik np ns nup 0 bad) {a : Act} (ha : Fr40 A.b br bp a) {Q : Exit → Act → World → Prop}
    (hQ : ∀ c a t v w, Q (.panic c) (a.put (some t) v) w → Q (.panic c) a w)
    (hR : ∀ a' w', Fr40 A.b br bp a' → PrPost w A m f e br bb c s i (.returned (.tuple #[])) w' → Q .ret a' w' ∧ Q .normal a' w') :
    (codeR (pc1 Tryz.f133.body)).wp Tryz.prog Q a wk := by
  obtain ⟨h1, h2⟩ := hs.to2 h.ld.rd.le
  have hs2 := hs
  show (Code.seq (codeL (codeR (pc1 Tryz.f133.body))) (Code.seq (codeL (codeR (codeR (pc1 Tryz.f133.body)))) (pc2 Tryz.f133.body))).wp Tryz.prog Q a wk
  have C3 : Hid (∀ a' w' A' m' i' bad' nk, Fr40 A.b br bp a' → PS w A m f e br bb c s i bp (prV m np ns nup nk 0) w' A' m' i' bad' → nk ≤ 65535 → St2 m m' s i i' np ns nup nk nk bad' → (pc2 Tryz.f133.body).wp Tryz.prog Q a' w') := fun a' w' A' m' i' bad' nk ha' h' hn hs' => p2_any h' hn hs' ha' hQ hR
  generalize pc2 Tryz.f133.body = CC at C3 ⊢
  have HP : Hid (PS w A m f e br bb c s i bp (prV m np ns nup 0 0) wk Ak mk ik bad) := h
  obtain ⟨u, rfl⟩ := ha.form
  clear ha hR hs
  simp only [pc1, pc1, codeL, codeR, codeIn, Tryz.f133, Option.getD_some]
  by_cases hno : bad = true ∨ s.length < ik + 2
  · have U := u16_no h.ld.rd hno
    have HN : Hid (St2 m mk s i ik np ns nup 0 0 true) := ⟨hs2.1.1, .inr ⟨rfl, h1 hno⟩⟩
    clear h h1 h2 hs2
    refine wp_seq ?_
    go_wp2_with fail
    refine U.mono ?_
    rintro e' w5 ⟨rfl, R5, F5⟩
    have P5 := HP.out.ofRd R5 F5 (Nat.le_refl _)
    obtain ⟨_, ⟨p0, p1, p2, p3, p4, p5, p6, p7, pl, pz⟩, _⟩ := P5.cells
    have pz7 := pz 5
    have P6 := P5.setP (p' := prV m np ns nup 0 0) 5 (.int .i64 0) rfl
    have HF : Hid (PS w A m f e br bb c s i bp (prV m np ns nup 0 0) (w5.setCell ⟨bp, 5, none⟩ (.int .i64 0)) Ak mk ik true) := P6
    clear P5 P6 R5 F5 U HP p0 p1 p2 p3 p4 p6 p7 pz
    go_wp2_with fail
    exact C3.out _ _ Ak mk ik true 0 ⟨by kernel_rfl, by kernel_rfl, by kernel_rfl, by kernel_rfl, rfl⟩ HF.out (by omega) HN.out
  · have hb : bad = false := by cases bad; rfl; exact absurd (.inl rfl) hno
    subst hb
    have h22 : ik + 2 ≤ s.length := by omega
    have U := u16_ok h.ld.rd h22
    have HN : Hid (St2 m mk s i (ik + 2) np ns nup (u16N (s.drop ik)) (u16N (s.drop ik)) false) := h2 rfl h22
    have hu : u16N (s.drop ik) < 65536 := by
      rw [u16N_drop h22]
      have := s[ik].toNat_lt
      have := s[ik + 1].toNat_lt
      omega
    generalize u16N (s.drop ik) = U16 at U HN hu
    clear h h1 h2 hs2
    refine wp_seq ?_
    go_wp2_with fail
    refine U.mono ?_
    rintro e' w5 ⟨rfl, R5, F5⟩
    have P5 := HP.out.ofRd R5 F5 (by omega)
    obtain ⟨_, ⟨p0, p1, p2, p3, p4, p5, p6, p7, pl, pz⟩, _⟩ := P5.cells
    have pz7 := pz 5
    have P6 := P5.setP (p' := prV m np ns nup U16 0) 5 (.int .i64 U16) rfl
    have HF : Hid (PS w A m f e br bb c s i bp (prV m np ns nup U16 0) (w5.setCell ⟨bp, 5, none⟩ (.int .i64 U16)) Ak mk (ik + 2) false) := P6
    clear P5 P6 R5 F5 U HP p0 p1 p2 p3 p4 p6 p7 pz
    go_wp2_with fail
    exact C3.out _ _ Ak mk (ik + 2) false U16 ⟨by kernel_rfl, by kernel_rfl, by kernel_rfl, by kernel_rfl, rfl⟩ HF.out (by omega) HN.out
theorem p1_loop (h : PS w A m f e br bb c s i bp (prV m np ns nup 0 0) wk Ak mk ik bad) (hnp : nup ≤ 255) (hs : St1 m mk s i ik np ns nup nup bad) {a : Act} (ha : Fr40 A.b br bp a) {K : Act → World → Prop} {Q : Exit → Act → World → Prop}
    (hQ : ∀ c a t v w, Q (.panic c) (a.put (some t) v) w → Q (.panic c) a w)
    (hK : ∀ a' w' A' m' i' bad', Fr40 A.b br bp a' → PS w A m f e br bb c s i bp (prV m np ns nup 0 0) w' A' m' i' bad' → St1 m m' s i i' np ns nup 0 bad' → K a' w')
    (hR : ∀ a' w', Fr40 A.b br bp a' → PrPost w A m f e br bb c s i (.returned (.tuple #[])) w' → Q .ret a' w') :
    (codeL (pc1 Tryz.f133.body)).wp Tryz.prog (Exit.then K Q) a wk := by
  obtain ⟨u, rfl⟩ := ha.form
  have HK : Hid (∀ a' w' A' m' i' bad', Fr40 A.b br bp a' → PS w A m f e br bb c s i bp (prV m np ns nup 0 0) w' A' m' i' bad' → St1 m m' s i i' np ns nup 0 bad' → K a' w') := hK
  have HR : Hid (∀ a' w', Fr40 A.b br bp a' → PrPost w A m f e br bb c s i (.returned (.tuple #[])) w' → Q .ret a' w') := hR
  have HQ : Hid (∀ c a t v w, Q (.panic c) (a.put (some t) v) w → Q (.panic c) a w) := hQ
  have HP : Hid (PS w A m f e br bb c s i bp (prV m np ns nup 0 0) wk Ak mk ik bad) := h
  have HS : Hid (St1 m mk s i ik np ns nup nup bad) := hs
  clear h hs hK hR hQ ha
  simp only [pc1, codeL, codeR, codeIn, Tryz.f133, Option.getD_some]
  go_wp2_with fail
  go_loopg [6] nup (fun n v6 wr => ∃ (k : Nat) (Ak : VL) (mk : VMD) (ik : Nat) (bad : Bool), v6 = .int .i64 k ∧ k + n = nup ∧ Hid (PS w A m f e br bb c s i bp (prV m np ns nup 0 0) wr Ak mk ik bad) ∧ Hid (St1 m mk s i ik np ns nup n bad))
  case atStart => exact ⟨0, Ak, mk, ik, bad, rfl, Nat.zero_add _, HP.out, HS.out⟩
  case round =>
    clear HP HS
    obtain ⟨k, Ak, mk, ik, bad, rfl, hkn, HP, HS⟩ := hrel
    obtain ⟨⟨r0, r1, r2, rl, rz⟩, ⟨p0, p1, p2, p3', p4, p5, p6, p7, pl, pz⟩, ⟨d2, d3, d4, d5, dl, dz⟩⟩ := HP.out.cells
    have p3 : wr.cell? ⟨bp, 3, none⟩ = some (.int .i64 nup) := p3'
    clear p3' p0 p1 p2 p4 p5 p6 p7 d2 d4 d5
    cases bad with
    | true =>
      have HS2 : Hid (St1 m mk s i ik np ns nup 0 true) := by
        obtain ⟨h0, h⟩ := HS.out
        rcases h with ⟨h, _⟩ | ⟨_, h⟩
        · cases h
        · exact ⟨h0, .inr ⟨rfl, h⟩⟩
      by_cases hk : k < nup
      · have hk' : (k : Int) < (nup : Int) := by omega
        go_wp2_with fail
        exact HK.out _ _ Ak mk ik true ⟨by kernel_rfl, by kernel_rfl, by kernel_rfl, by kernel_rfl, rfl⟩ HP.out HS2.out
      · have hk' : ¬ (k : Int) < (nup : Int) := by omega
        go_wp2_with fail
        exact HK.out _ _ Ak mk ik true ⟨by kernel_rfl, by kernel_rfl, by kernel_rfl, by kernel_rfl, rfl⟩ HP.out HS2.out
    | false =>
      cases gk with
      | zero =>
        have hk' : ¬ (k : Int) < (nup : Int) := by omega
        go_wp2_with fail
        exact HK.out _ _ Ak mk ik false ⟨by kernel_rfl, by kernel_rfl, by kernel_rfl, by kernel_rfl, rfl⟩ HP.out HS.out
      | succ n =>
        have hk' : (k : Int) < (nup : Int) := by omega
        have HS2 : Hid ((mk.code = m.code ∧ mk.consts = m.consts) ∧ prR m s i = match descsP (n + 1) mk.descs (s.drop ik) with | none => none | some (ds, r2) => prC2 (imOf m) np ns nup ds r2) := by
          obtain ⟨h0, h⟩ := HS.out
          rcases h with ⟨_, h⟩ | ⟨h, _⟩
          · exact ⟨h0, h⟩
          · cases h
        have e0 : descsP (n + 1) mk.descs (s.drop ik) = match rdTake 2 (s.drop ik) with | none => none | some (w, r1) => if (w.getD 0 0).toNat > 1 then none else descsP n (mk.descs ++ [((w.getD 0 0).toNat, (w.getD 1 0).toNat)]) r1 := rfl
        by_cases h3 : ik + 2 ≤ s.length
        · have T3 := rtake_ok HP.out.ld.rd (n := 2) h3
          go_wp2_with fail
          refine T3.mono ?_
          rintro e' w5 ⟨⟨sa, sc, rfl, hsa⟩, R5, F5⟩
          obtain ⟨rfl, hsc⟩ := hsa (by omega)
          clear hsa T3
          have P5 := HP.out.ofRd R5 F5 (by omega)
          have b0 := R5.bytes ik (by omega)
          have b1 := R5.bytes (ik + 1) (by omega)
          have bl := R5.lt
          have HPL : Hid (prR m s i = match (if s[ik].toNat > 1 then none else descsP n (mk.descs ++ [(s[ik].toNat, s[ik + 1].toNat)]) (s.drop (ik + 2))) with | none => none | some (ds, r2) => prC2 (imOf m) np ns nup ds r2) := by
            have h0 := HS2.out.2
            rw [e0, rdTake_ok h3] at h0
            dsimp only at h0
            have g : ∀ j, j < 2 → ((s.drop ik).take 2).getD j 0 = s.getD (ik + j) 0 := by
              intro j hj
              rw [List.getD_eq_getElem?_getD, List.getElem?_take, if_pos hj, List.getElem?_drop, List.getD_eq_getElem?_getD]
            have k0 : s.getD (ik + 0) 0 = s[ik] := by rw [Nat.add_zero, List.getD_eq_getElem?_getD, List.getElem?_eq_getElem (by omega)]; rfl
            have k1 : s.getD (ik + 1) 0 = s[ik + 1] := by rw [List.getD_eq_getElem?_getD, List.getElem?_eq_getElem (by omega)]; rfl
            rw [g 0 (by omega), g 1 (by omega), k0, k1] at h0
            exact h0
          have HPC : Hid (mk.code = m.code ∧ mk.consts = m.consts) := HS2.out.1
          have x8 := s[ik].toNat_lt
          have y8 := s[ik + 1].toNat_lt
          generalize s[ik].toNat = x at b0 HPL x8
          generalize s[ik + 1].toNat = y at b1 HPL y8
          have HP5 : Hid (PS w A m f e br bb c s i bp (prV m np ns nup 0 0) w5 Ak mk (ik + 2) false) := P5
          obtain ⟨⟨r0, r1, r2, rl, rz⟩, _, ⟨d2, d3, d4, d5, dl, dz⟩⟩ := P5.cells
          have hlen := P5.ld.rd.len
          have hcl := HP.out.ln.2.1
          have hil := P5.ld.rd.le
          obtain ⟨ND, HND⟩ : ∃ ND, Hid (mk.descs.length = ND) := ⟨_, rfl⟩
          rw [HND.out] at d3 hcl
          have HOWN : Hid (w5.ownsRow 0 326 2 (.slice Ak.C.descs.a ND Ak.C.descs.c) ND (mk.descs.flatMap dCells)) := by
            have := P5.ld.rep.core.descs.own
            rw [HND.out] at this
            exact this
          clear R5 F5 p3 pl pz r0 r1 d2 d4 d5 HS HS2 HP e0
          by_cases hx1 : 1 < x
          · have hx2 : (1 : Int) < (x : Int) := by omega
            have hno : prR m s i = none := by have := HPL.out; rw [if_pos hx1] at this; exact this
            have P6 : PS w A m f e br bb c s i bp (prV m np ns nup 0 0) (w5.setCell ⟨br, 2, none⟩ (.bool true)) Ak mk (ik + 2) true := P5.ofRd P5.ld.rd.setB (Fr.setCell (S := fun k => k = br) (Fr.refl _ _) (p := ⟨br, 2, none⟩) (.inl rfl) _) (Nat.le_refl _)
            have HF : Hid (PrPost w A m f e br bb c s i (.returned (.tuple #[])) (w5.setCell ⟨br, 2, none⟩ (.bool true))) := P6.no hno
            clear P5 P6 HPL
            go_wp2_with fail
            exact HR.out _ _ ⟨by kernel_rfl, by kernel_rfl, by kernel_rfl, by kernel_rfl, rfl⟩ HF.out
          have hx2 : ¬ (1 : Int) < (x : Int) := by omega
          have HPL2 : Hid (prR m s i = match descsP n (mk.descs ++ [(x, y)]) (s.drop (ik + 2)) with | none => none | some (ds, r2) => prC2 (imOf m) np ns nup ds r2) := by have := HPL.out; rw [if_neg hx1] at this; exact this
          clear P5 HPL rz
          go_wp2_with fail
          have k5 : ∀ s : WC (fun q => q.cell? ⟨A.b, 3, none⟩ = some (.slice Ak.C.descs.a ND Ak.C.descs.c) ∧ q.cell? ⟨bb, ik, none⟩ = some (.int .u8 x) ∧ q.cell? ⟨bb, ik + 1, none⟩ = some (.int .u8 y)), s.y.cell? ⟨A.b, 3, none⟩ = some (.slice Ak.C.descs.a ND Ak.C.descs.c) := fun s => s.f.1
          have kx : ∀ s : WC (fun q => q.cell? ⟨A.b, 3, none⟩ = some (.slice Ak.C.descs.a ND Ak.C.descs.c) ∧ q.cell? ⟨bb, ik, none⟩ = some (.int .u8 x) ∧ q.cell? ⟨bb, ik + 1, none⟩ = some (.int .u8 y)), s.y.cell? ⟨bb, ik, none⟩ = some (.int .u8 x) := fun s => s.f.2.1
          have ky : ∀ s : WC (fun q => q.cell? ⟨A.b, 3, none⟩ = some (.slice Ak.C.descs.a ND Ak.C.descs.c) ∧ q.cell? ⟨bb, ik, none⟩ = some (.int .u8 x) ∧ q.cell? ⟨bb, ik + 1, none⟩ = some (.int .u8 y)), s.y.cell? ⟨bb, ik + 1, none⟩ = some (.int .u8 y) := fun s => s.f.2.2
          have HNE : Nonempty (WC (fun q => q.cell? ⟨A.b, 3, none⟩ = some (.slice Ak.C.descs.a ND Ak.C.descs.c) ∧ q.cell? ⟨bb, ik, none⟩ = some (.int .u8 x) ∧ q.cell? ⟨bb, ik + 1, none⟩ = some (.int .u8 y))) := WC.non ⟨d3, b0, b1⟩
          refine C.wp_region_head 12 2 (fun q => ∃ s : WC (fun q => q.cell? ⟨A.b, 3, none⟩ = some (.slice Ak.C.descs.a ND Ak.C.descs.c) ∧ q.cell? ⟨bb, ik, none⟩ = some (.int .u8 x) ∧ q.cell? ⟨bb, ik + 1, none⟩ = some (.int .u8 y)), q = s.y) (by kernel_rfl) (by kernel_rfl) (fun c a t v w h => HQ.out c a t v w h) ⟨⟨w5.drew, d3, b0, b1⟩, rfl⟩ ?_
          simp only [List.take_succ_cons, List.take_zero, List.drop_succ_cons, List.drop_zero]
          repeat go_big_quiet_step (fail)
          refine wpQuiet_nil ?_
          clear k5 kx ky HNE
          have fa : ∀ o, Fr (fun _ => False) w5 ((w5.alloc o).drew) := fun o => ((Fr.refl _ _).alloc o).drew
          unfold C.wpChain
          go_wp2_with fail
          refine ⟨⟨⟨_, (((fa _).cellB dl (fun x => x)).trans d3), (((fa _).cellB bl (fun x => x)).trans b0), (((fa _).cellB bl (fun x => x)).trans b1)⟩, rfl⟩, ?_⟩
          unfold C.wpChain
          refine wpList_appN row_descs _ rfl (.tmp 100) (.tmp 108) rfl (.slice Ak.C.descs.a ND Ak.C.descs.c) ND (mk.descs.flatMap dCells) rfl (owns_drew (owns_alloc HOWN.out _)) _ 1 1 (dCells (x, y)) rfl (Has.new _ _ _).drew rfl (by omega) (dCells_oneC _) (by omega) ?_
          intro g cap w6 q1 q2 q3 q4
          have hbb : ∀ j, w6.cell? ⟨bb, j, none⟩ = w5.cell? ⟨bb, j, none⟩ := fun j => by
            rw [q2.cellB (by have := (fa (.cells (dCells (x, y)).toArray 326)).size; exact Nat.lt_of_lt_of_le bl this) (fun hob => ?_)]
            · exact (fa _).cellB bl (fun x => x)
            · have h9 := HP5.out.ld.rep.core.descs.lb bb (by rw [ownBlock_any _ _ _ ND Ak.C.descs.c]; exact hob)
              rw [HP5.out.ld.l2] at h9
              omega
          obtain ⟨hh, R6, S6⟩ := HP5.out.ld.rep.app_descs (x, y) (fa _) (by rw [HND.out]; exact q1) (by rw [HND.out]; exact q2) (by
            rw [HND.out]
            rcases q3 with q3 | q3
            · exact .inl q3
            · right; rw [q3]; simp) q4
          have P6 := HP5.out.ofVM R6 S6 (by omega) (by omega) ⟨rfl, rfl, rfl, rfl, rfl, rfl⟩ rfl ⟨HP5.out.ln.1, by simp [HND.out]; omega, HP5.out.ln.2.2.1, HP5.out.ln.2.2.2⟩
          rw [HP5.out.st.b] at hh P6
          rw [HND.out] at P6
          have y3 := hh.cell 3
          have yz := hh.frozen 3
          have yl := hh.lt
          simp only [vmCells, List.getElem?_toArray, List.getElem?_cons_succ, List.getElem?_cons_zero, Sl.v] at y3
          rw [HND.out] at y3
          have HP6 : Hid (∃ A6 m6, PS w A m f e br bb c s i bp (prV m np ns nup 0 0) (w6.setCell ⟨A.b, 3, none⟩ (.slice (some ⟨g, 0, none⟩) (ND + 1) cap)) A6 m6 (ik + 2) false ∧ St1 m m6 s i (ik + 2) np ns nup n false) := ⟨_, _, P6, HPC.out, .inl ⟨rfl, HPL2.out⟩⟩
          clear P6 R6 S6 hh q1 q2 q3 q4 HPL2
          refine ⟨⟨⟨_, y3, (hbb _).trans b0, (hbb _).trans b1⟩, rfl⟩, ?_⟩
          clear hbb
          rw [C.wpChain_zero]
          simp only [Act.put, List.setIfInBounds_toArray, List.set_cons_succ, List.set_cons_zero]
          go_wp2_with fail
          go_roundg n
          case measure => exact Nat.lt_succ_self _
          case rel =>
            obtain ⟨A6, m6, h6, s6⟩ := HP6.out
            exact ⟨k + 1, A6, m6, ik + 2, false, by simp, by omega, h6, s6⟩
        · have T3 := rtake_no HP.out.ld.rd (n := 2) (by omega) (.inr (by omega))
          have hle := HP.out.ld.rd.le
          go_wp2_with fail
          refine T3.mono ?_
          rintro e' w5 ⟨rfl, R5, F5⟩
          have P5 := HP.out.ofRd R5 F5 (Nat.le_refl _)
          have hno : prR m s i = none := by
            have h0 := HS2.out.2
            rw [e0, rdTake_no (by omega) hle] at h0
            exact h0
          have P6 : PS w A m f e br bb c s i bp (prV m np ns nup 0 0) (w5.setCell ⟨br, 2, none⟩ (.bool true)) Ak mk ik true := P5.ofRd P5.ld.rd.setB (Fr.setCell (S := fun k => k = br) (Fr.refl _ _) (p := ⟨br, 2, none⟩) (.inl rfl) _) (Nat.le_refl _)
          have HF : Hid (PrPost w A m f e br bb c s i (.returned (.tuple #[])) (w5.setCell ⟨br, 2, none⟩ (.bool true))) := P6.no hno
          obtain ⟨⟨r0, r1, r2, rl, rz⟩, _, _⟩ := P5.cells
          clear P5 P6 T3 R5 F5 HP HS HS2
          go_wp2_with fail
          exact HR.out _ _ ⟨by kernel_rfl, by kernel_rfl, by kernel_rfl, by kernel_rfl, rfl⟩ HF.out
/-- from the first loop on -/
theorem p1_any (h : PS w A m f e br bb c s i bp (prV m np ns nup 0 0) wk Ak mk ik bad) (hnp : nup ≤ 255) (hs : St1 m mk s i ik np ns nup nup bad) {a : Act} (ha : Fr40 A.b br bp a) {Q : Exit → Act → World → Prop}
    (hQ : ∀ c a t v w, Q (.panic c) (a.put (some t) v) w → Q (.panic c) a w)
    (hR : ∀ a' w', Fr40 A.b br bp a' → PrPost w A m f e br bb c s i (.returned (.tuple #[])) w' → Q .ret a' w' ∧ Q .normal a' w') :
    (pc1 Tryz.f133.body).wp Tryz.prog Q a wk := by
  show (Code.seq (codeL (pc1 Tryz.f133.body)) (codeR (pc1 Tryz.f133.body))).wp Tryz.prog Q a wk
  refine wp_seq ?_
  exact p1_loop h hnp hs ha hQ (fun a' w' A' m' i' bad' ha' h' hs' => p1_mid h' hs' ha' hQ hR) (fun a' w' ha' h' => (hR a' w' ha' h').1)
end
end Go.Proofs.Qxb6500574aGreatDoor
