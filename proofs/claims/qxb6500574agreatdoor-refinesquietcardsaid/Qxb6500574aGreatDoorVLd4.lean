/-
  THE WALK of vm: proto: the third loop, and the end.
-/
import Derived.Test.Qxb6500574aGreatDoorVLd3
namespace Go.Proofs.Qxb6500574aGreatDoor
open Go Go.RowKit
set_option linter.unusedVariables false
set_option linter.unusedSimpArgs false
section
variable {w wk w' : World} {A Ak A' : VL} {m mk m' : VMD} {f e br bb c i bp ik i' : Nat} {s : Bs} {p p' : PrD} {bad bad' : Bool}
set_option maxRecDepth 100000
set_option maxHeartbeats 1000000
/-- what stands at the third loop's head: n instructions are to be read -/
def St3 (m mk : VMD) (s : Bs) (i ik : Nat) (p : PrD) (n : Nat) (bad : Bool) : Prop :=
  (bad = false ∧ prR m s i = match codeP n mk.code (s.drop ik) with | none => none | some (cs, r6) => some (⟨m.protos ++ [p], mk.descs, mk.consts, cs⟩, r6)) ∨ (bad = true ∧ prR m s i = none)
theorem p3_loop (h : PS w A m f e br bb c s i bp p wk Ak mk ik bad) (hnc : p.nc ≤ 65535) (hs : St3 m mk s i ik p p.nc bad) {a : Act} (ha : Fr40 A.b br bp a) {K : Act → World → Prop} {Q : Exit → Act → World → Prop}
    (hQ : ∀ c a t v w, Q (.panic c) (a.put (some t) v) w → Q (.panic c) a w)
    (hK : ∀ a' w' A' m' i' bad', Fr40 A.b br bp a' → PS w A m f e br bb c s i bp p w' A' m' i' bad' → St3 m m' s i i' p 0 bad' → K a' w')
    (hR : ∀ a' w', Fr40 A.b br bp a' → PrPost w A m f e br bb c s i (.returned (.tuple #[])) w' → Q .ret a' w') :
    (codeL (pc3 Tryz.f133.body)).wp Tryz.prog (Exit.then K Q) a wk := by
  obtain ⟨u, rfl⟩ := ha.form
  have HK : Hid (∀ a' w' A' m' i' bad', Fr40 A.b br bp a' → PS w A m f e br bb c s i bp p w' A' m' i' bad' → St3 m m' s i i' p 0 bad' → K a' w') := hK
  have HR : Hid (∀ a' w', Fr40 A.b br bp a' → PrPost w A m f e br bb c s i (.returned (.tuple #[])) w' → Q .ret a' w') := hR
  have HQ : Hid (∀ c a t v w, Q (.panic c) (a.put (some t) v) w → Q (.panic c) a w) := hQ
  have HP : Hid (PS w A m f e br bb c s i bp p wk Ak mk ik bad) := h
  have HS : Hid (St3 m mk s i ik p p.nc bad) := hs
  obtain ⟨NC, HNC⟩ : ∃ NC, Hid (p.nc = NC) := ⟨_, rfl⟩
  rw [HNC.out] at hnc HS
  clear h hs hK hR hQ ha
  simp only [pc3, pc2, pc1, codeL, codeR, codeIn, Tryz.f133, Option.getD_some]
  go_wp2_with fail
  go_loopg [11] NC (fun n v11 wr => ∃ (k : Nat) (Ak : VL) (mk : VMD) (ik : Nat) (bad : Bool), v11 = .int .i64 k ∧ k + n = NC ∧ Hid (PS w A m f e br bb c s i bp p wr Ak mk ik bad) ∧ Hid (St3 m mk s i ik p n bad))
  case atStart => exact ⟨0, Ak, mk, ik, bad, rfl, Nat.zero_add _, HP.out, HS.out⟩
  case round =>
    clear HP HS
    obtain ⟨k, Ak, mk, ik, bad, rfl, hkn, HP, HS⟩ := hrel
    obtain ⟨⟨r0, r1, r2, rl, rz⟩, ⟨p0, p1, p2, p3, p4, p5, p6, p7, pl, pz⟩, ⟨d2, d3, d4, d5, dl, dz⟩⟩ := HP.out.cells
    rw [HNC.out] at p7
    cases bad with
    | true =>
      have HS2 : Hid (prR m s i = none) := by
        rcases HS.out with ⟨h, _⟩ | ⟨_, h⟩
        · cases h
        · exact h
      by_cases hk : k < NC
      · have hk' : (k : Int) < (NC : Int) := by omega
        go_wp2_with fail
        exact HK.out _ _ Ak mk ik true ⟨by kernel_rfl, by kernel_rfl, by kernel_rfl, by kernel_rfl, rfl⟩ HP.out (.inr ⟨rfl, HS2.out⟩)
      · have hk' : ¬ (k : Int) < (NC : Int) := by omega
        go_wp2_with fail
        exact HK.out _ _ Ak mk ik true ⟨by kernel_rfl, by kernel_rfl, by kernel_rfl, by kernel_rfl, rfl⟩ HP.out (.inr ⟨rfl, HS2.out⟩)
    | false =>
      have HS2 : Hid (prR m s i = match codeP gk mk.code (s.drop ik) with | none => none | some (cs, r6) => some (⟨m.protos ++ [p], mk.descs, mk.consts, cs⟩, r6)) := by
        rcases HS.out with ⟨_, h⟩ | ⟨h, _⟩
        · exact h
        · cases h
      cases gk with
      | zero =>
        have hk' : ¬ (k : Int) < (NC : Int) := by omega
        go_wp2_with fail
        exact HK.out _ _ Ak mk ik false ⟨by kernel_rfl, by kernel_rfl, by kernel_rfl, by kernel_rfl, rfl⟩ HP.out (.inl ⟨rfl, HS2.out⟩)
      | succ n =>
        have hk' : (k : Int) < (NC : Int) := by omega
        by_cases h3 : ik + 3 ≤ s.length
        · have T3 := rtake_ok HP.out.ld.rd (n := 3) h3
          go_wp2_with fail
          refine T3.mono ?_
          rintro e' w5 ⟨⟨sa, sc, rfl, hsa⟩, R5, F5⟩
          obtain ⟨rfl, hsc⟩ := hsa (by omega)
          clear hsa T3
          have P5 := HP.out.ofRd R5 F5 (by omega)
          have b0 := R5.bytes ik (by omega)
          have b1 := R5.bytes (ik + 1) (by omega)
          have b2 := R5.bytes (ik + 2) (by omega)
          have bl := R5.lt
          have HPL : Hid (prR m s i = match codeP n (mk.code ++ [(s[ik].toNat, s[ik + 1].toNat + s[ik + 2].toNat * 256)]) (s.drop (ik + 3)) with | none => none | some (cs, r6) => some (⟨m.protos ++ [p], mk.descs, mk.consts, cs⟩, r6)) := by
            have h0 := HS2.out
            have e1 : codeP (n + 1) mk.code (s.drop ik) = codeP n (mk.code ++ [(s[ik].toNat, s[ik + 1].toNat + s[ik + 2].toNat * 256)]) (s.drop (ik + 3)) := by
              show (match rdTake 3 (s.drop ik) with | none => none | some (w, r1) => codeP n (mk.code ++ [((w.getD 0 0).toNat, u16N (w.drop 1))]) r1) = _
              rw [rdTake, if_neg (by rw [List.length_drop]; omega)]
              dsimp only
              have g : ∀ j, j < 3 → ((s.drop ik).take 3).getD j 0 = s.getD (ik + j) 0 := by
                intro j hj
                rw [List.getD_eq_getElem?_getD, List.getElem?_take, if_pos hj, List.getElem?_drop, List.getD_eq_getElem?_getD]
              have g0 := g 0 (by omega)
              have g1 := g 1 (by omega)
              have g2 := g 2 (by omega)
              have k0 : s.getD (ik + 0) 0 = s[ik] := by rw [Nat.add_zero, List.getD_eq_getElem?_getD, List.getElem?_eq_getElem (by omega)]; rfl
              have k1 : s.getD (ik + 1) 0 = s[ik + 1] := by rw [List.getD_eq_getElem?_getD, List.getElem?_eq_getElem (by omega)]; rfl
              have k2 : s.getD (ik + 2) 0 = s[ik + 2] := by rw [List.getD_eq_getElem?_getD, List.getElem?_eq_getElem (by omega)]; rfl
              have u : u16N (((s.drop ik).take 3).drop 1) = s[ik + 1].toNat + s[ik + 2].toNat * 256 := by
                have f0 : (((s.drop ik).take 3).drop 1).getD 0 0 = ((s.drop ik).take 3).getD 1 0 := by
                  rw [List.getD_eq_getElem?_getD, List.getElem?_drop, List.getD_eq_getElem?_getD]
                have f1 : (((s.drop ik).take 3).drop 1).getD 1 0 = ((s.drop ik).take 3).getD 2 0 := by
                  rw [List.getD_eq_getElem?_getD, List.getElem?_drop, List.getD_eq_getElem?_getD]
                unfold u16N
                rw [f0, f1, g1, g2, k1, k2]
              rw [u, g0, k0, List.drop_drop]
            rw [e1] at h0
            exact h0
          have x8 := s[ik].toNat_lt
          have y8 := s[ik + 1].toNat_lt
          have z8 := s[ik + 2].toNat_lt
          generalize s[ik].toNat = x at b0 HPL x8
          generalize s[ik + 1].toNat = y at b1 HPL y8
          generalize s[ik + 2].toNat = z at b2 HPL z8
          have HOR : Hid (bits .or .u16 (y : Int) ((z : Int) * 256) = ((y + z * 256 : Nat) : Int)) := or_u16 (by omega) (by omega)
          have HP5 : Hid (PS w A m f e br bb c s i bp p w5 Ak mk (ik + 3) false) := P5
          obtain ⟨⟨r0, r1, r2, rl, rz⟩, _, ⟨d2, d3, d4, d5, dl, dz⟩⟩ := P5.cells
          have hlen := P5.ld.rd.len
          have hcl := HP.out.ln.2.2.2
          have hil := P5.ld.rd.le
          obtain ⟨ND, HND⟩ : ∃ ND, Hid (mk.code.length = ND) := ⟨_, rfl⟩
          rw [HND.out] at d5 hcl
          have HOWN : Hid (w5.ownsRow 0 329 2 (.slice Ak.C.code.a ND Ak.C.code.c) ND (mk.code.flatMap iCells)) := by
            have := P5.ld.rep.core.code.own
            rw [HND.out] at this
            exact this
          clear P5 R5 F5 p0 p1 p2 p3 p4 p5 p6 p7 pl pz r0 r1 d2 d3 d4 rz HS HS2 HP
          go_wp2_with fail
          have k5 : ∀ s : WC (fun q => q.cell? ⟨A.b, 5, none⟩ = some (.slice Ak.C.code.a ND Ak.C.code.c) ∧ q.cell? ⟨bb, ik, none⟩ = some (.int .u8 x) ∧ q.cell? ⟨bb, ik + 1, none⟩ = some (.int .u8 y) ∧ q.cell? ⟨bb, ik + 2, none⟩ = some (.int .u8 z)), s.y.cell? ⟨A.b, 5, none⟩ = some (.slice Ak.C.code.a ND Ak.C.code.c) := fun s => s.f.1
          have kx : ∀ s : WC (fun q => q.cell? ⟨A.b, 5, none⟩ = some (.slice Ak.C.code.a ND Ak.C.code.c) ∧ q.cell? ⟨bb, ik, none⟩ = some (.int .u8 x) ∧ q.cell? ⟨bb, ik + 1, none⟩ = some (.int .u8 y) ∧ q.cell? ⟨bb, ik + 2, none⟩ = some (.int .u8 z)), s.y.cell? ⟨bb, ik, none⟩ = some (.int .u8 x) := fun s => s.f.2.1
          have ky : ∀ s : WC (fun q => q.cell? ⟨A.b, 5, none⟩ = some (.slice Ak.C.code.a ND Ak.C.code.c) ∧ q.cell? ⟨bb, ik, none⟩ = some (.int .u8 x) ∧ q.cell? ⟨bb, ik + 1, none⟩ = some (.int .u8 y) ∧ q.cell? ⟨bb, ik + 2, none⟩ = some (.int .u8 z)), s.y.cell? ⟨bb, ik + 1, none⟩ = some (.int .u8 y) := fun s => s.f.2.2.1
          have kz : ∀ s : WC (fun q => q.cell? ⟨A.b, 5, none⟩ = some (.slice Ak.C.code.a ND Ak.C.code.c) ∧ q.cell? ⟨bb, ik, none⟩ = some (.int .u8 x) ∧ q.cell? ⟨bb, ik + 1, none⟩ = some (.int .u8 y) ∧ q.cell? ⟨bb, ik + 2, none⟩ = some (.int .u8 z)), s.y.cell? ⟨bb, ik + 2, none⟩ = some (.int .u8 z) := fun s => s.f.2.2.2
          have HNE : Nonempty (WC (fun q => q.cell? ⟨A.b, 5, none⟩ = some (.slice Ak.C.code.a ND Ak.C.code.c) ∧ q.cell? ⟨bb, ik, none⟩ = some (.int .u8 x) ∧ q.cell? ⟨bb, ik + 1, none⟩ = some (.int .u8 y) ∧ q.cell? ⟨bb, ik + 2, none⟩ = some (.int .u8 z))) := WC.non ⟨d5, b0, b1, b2⟩
          refine C.wp_region_head 19 2 (fun q => ∃ s : WC (fun q => q.cell? ⟨A.b, 5, none⟩ = some (.slice Ak.C.code.a ND Ak.C.code.c) ∧ q.cell? ⟨bb, ik, none⟩ = some (.int .u8 x) ∧ q.cell? ⟨bb, ik + 1, none⟩ = some (.int .u8 y) ∧ q.cell? ⟨bb, ik + 2, none⟩ = some (.int .u8 z)), q = s.y) (by kernel_rfl) (by kernel_rfl) (fun c a t v w h => HQ.out c a t v w h) ⟨⟨w5.drew, d5, b0, b1, b2⟩, rfl⟩ ?_
          simp only [List.take_succ_cons, List.take_zero, List.drop_succ_cons, List.drop_zero]
          repeat go_big_quiet_step (fail)
          refine wpQuiet_nil ?_
          clear k5 kx ky kz HNE
          rw [HOR.out]
          have fa : ∀ o, Fr (fun _ => False) w5 ((w5.alloc o).drew) := fun o => ((Fr.refl _ _).alloc o).drew
          unfold C.wpChain
          go_wp2_with fail
          refine ⟨⟨⟨_, (((fa _).cellB dl (fun x => x)).trans d5), (((fa _).cellB bl (fun x => x)).trans b0), (((fa _).cellB bl (fun x => x)).trans b1), (((fa _).cellB bl (fun x => x)).trans b2)⟩, rfl⟩, ?_⟩
          unfold C.wpChain
          refine wpList_appN row_code _ rfl (.tmp 161) (.tmp 176) rfl (.slice Ak.C.code.a ND Ak.C.code.c) ND (mk.code.flatMap iCells) rfl (owns_drew (owns_alloc HOWN.out _)) _ 1 1 (iCells (x, y + z * 256)) rfl (Has.new _ _ _).drew rfl (by omega) (iCells_oneC _) (by omega) ?_
          intro g cap w6 q1 q2 q3 q4
          have hbb : ∀ j, w6.cell? ⟨bb, j, none⟩ = w5.cell? ⟨bb, j, none⟩ := fun j => by
            rw [q2.cellB (by have := (fa (.cells (iCells (x, y + z * 256)).toArray 329)).size; exact Nat.lt_of_lt_of_le bl this) (fun hob => ?_)]
            · exact (fa _).cellB bl (fun x => x)
            · have h9 := HP5.out.ld.rep.core.code.lb bb (by rw [ownBlock_any _ _ _ ND Ak.C.code.c]; exact hob)
              rw [HP5.out.ld.l2] at h9
              omega
          obtain ⟨hh, R6, S6⟩ := HP5.out.ld.rep.app_code (x, y + z * 256) (fa _) (by rw [HND.out]; exact q1) (by rw [HND.out]; exact q2) (by
            rw [HND.out]
            rcases q3 with q3 | q3
            · exact .inl q3
            · right; rw [q3]; simp) q4
          have P6 := HP5.out.ofVM R6 S6 (by omega) (by omega) ⟨rfl, rfl, rfl, rfl, rfl, rfl⟩ rfl ⟨HP5.out.ln.1, HP5.out.ln.2.1, HP5.out.ln.2.2.1, by simp [HND.out]; omega⟩
          rw [HP5.out.st.b] at hh P6
          rw [HND.out] at P6
          have y5 := hh.cell 5
          have yz := hh.frozen 5
          have yl := hh.lt
          simp only [vmCells, List.getElem?_toArray, List.getElem?_cons_succ, List.getElem?_cons_zero, Sl.v] at y5
          rw [HND.out] at y5
          have HP6 : Hid (∃ A6 m6, PS w A m f e br bb c s i bp p (w6.setCell ⟨A.b, 5, none⟩ (.slice (some ⟨g, 0, none⟩) (ND + 1) cap)) A6 m6 (ik + 3) false ∧ St3 m m6 s i (ik + 3) p n false) := ⟨_, _, P6, .inl ⟨rfl, HPL.out⟩⟩
          clear P6 R6 S6 hh q1 q2 q3 q4 HPL
          refine ⟨⟨⟨_, y5, (hbb _).trans b0, (hbb _).trans b1, (hbb _).trans b2⟩, rfl⟩, ?_⟩
          clear hbb
          rw [C.wpChain_zero]
          simp only [Act.put, List.setIfInBounds_toArray, List.set_cons_succ, List.set_cons_zero]
          go_wp2_with fail
          go_roundg n
          case measure => exact Nat.lt_succ_self _
          case rel =>
            obtain ⟨A6, m6, h6, s6⟩ := HP6.out
            exact ⟨k + 1, A6, m6, ik + 3, false, by simp, by omega, h6, s6⟩
        · have T3 := rtake_no HP.out.ld.rd (n := 3) (by omega) (.inr (by omega))
          go_wp2_with fail
          refine T3.mono ?_
          rintro e' w5 ⟨rfl, R5, F5⟩
          have P5 := HP.out.ofRd R5 F5 (Nat.le_refl _)
          have hno : prR m s i = none := by
            rw [HS2.out]
            have : codeP (n + 1) mk.code (s.drop ik) = none := by
              show (match rdTake 3 (s.drop ik) with | none => none | some (w, r1) => codeP n (mk.code ++ [((w.getD 0 0).toNat, u16N (w.drop 1))]) r1) = _
              rw [rdTake, if_pos (by rw [List.length_drop]; omega)]
            rw [this]
          have HF : Hid (PrPost w A m f e br bb c s i (.returned (.tuple #[])) w5) := P5.no hno
          obtain ⟨⟨r0, r1, r2, rl, rz⟩, _, _⟩ := P5.cells
          clear P5 T3 R5 F5 HP HS HS2
          go_wp2_with fail
          exact HR.out _ _ ⟨by kernel_rfl, by kernel_rfl, by kernel_rfl, by kernel_rfl, rfl⟩ HF.out
end
end Go.Proofs.Qxb6500574aGreatDoor
