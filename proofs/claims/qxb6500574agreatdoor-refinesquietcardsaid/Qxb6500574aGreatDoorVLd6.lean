/-
  THE WALK of vm: proto: the second loop, and what stands between the loops.
-/
import Derived.Test.Qxb6500574aGreatDoorVLd5
namespace Go.Proofs.Qxb6500574aGreatDoor
open Go Go.RowKit
set_option linter.unusedVariables false
set_option linter.unusedSimpArgs false
theorem u16N_take (r : Bs) : u16N (r.take 2) = u16N r := by
  unfold u16N
  have h : ∀ j, j < 2 → (r.take 2).getD j 0 = r.getD j 0 := fun j hj => by
    rw [List.getD_eq_getElem?_getD, List.getElem?_take, if_pos hj, List.getD_eq_getElem?_getD]
  rw [h 0 (by omega), h 1 (by omega)]
theorem rdTake_no {n : Nat} {s : Bs} {i : Nat} (h : s.length < i + n) (hi : i ≤ s.length) : rdTake n (s.drop i) = none := by
  rw [rdTake, if_pos (by rw [List.length_drop]; omega)]
theorem rdTake_ok {n : Nat} {s : Bs} {i : Nat} (h : i + n ≤ s.length) : rdTake n (s.drop i) = some ((s.drop i).take n, s.drop (i + n)) := by
  rw [rdTake, if_neg (by rw [List.length_drop]; omega), List.drop_drop]
/-- the image as the machine holds it -/
def imOf (m : VMD) : ImD := ⟨m.protos, m.descs, m.consts, m.code⟩
/-- proto's own variable -/
def prV (m : VMD) (np ns nup nk nc : Nat) : PrD := ⟨np, ns, m.descs.length, nup, m.consts.length, nk, m.code.length, nc⟩
section
variable {w wk w' : World} {A Ak A' : VL} {m mk m' : VMD} {f e br bb c i bp ik i' np ns nup nk nc : Nat} {s : Bs} {bad bad' : Bool}
set_option maxRecDepth 100000
set_option maxHeartbeats 1000000
/-- what stands at the second loop's head: n constants are to be read -/
def St2 (m mk : VMD) (s : Bs) (i ik np ns nup nk n : Nat) (bad : Bool) : Prop :=
  (mk.code = m.code) ∧ ((bad = false ∧ prR m s i = match constsP n mk.consts (s.drop ik) with | none => none | some (ks, r4) => prC3 (imOf m) np ns nup nk mk.descs ks r4) ∨ (bad = true ∧ prR m s i = none))
theorem St2.to3 (h : St2 m mk s i ik np ns nup nk 0 bad) (hle : ik ≤ s.length) : (bad = true ∨ s.length < ik + 2 → prR m s i = none) ∧ (bad = false → ik + 2 ≤ s.length → St3 m mk s i (ik + 2) (prV m np ns nup nk (u16N (s.drop ik))) (u16N (s.drop ik)) false) := by
  obtain ⟨hc, h⟩ := h
  refine ⟨fun hb => ?_, fun hb h2 => ?_⟩
  · rcases h with ⟨h1, h⟩ | ⟨_, h⟩
    · rcases hb with hb | hb
      · rw [h1] at hb; cases hb
      · rw [h]
        show prC3 (imOf m) np ns nup nk mk.descs mk.consts (s.drop ik) = none
        unfold prC3
        rw [rdTake_no hb hle]
    · exact h
  · rcases h with ⟨_, h⟩ | ⟨h1, _⟩
    · refine .inl ⟨rfl, ?_⟩
      rw [h]
      show prC3 (imOf m) np ns nup nk mk.descs mk.consts (s.drop ik) = _
      unfold prC3
      rw [rdTake_ok h2]
      dsimp only
      rw [u16N_take]
      show (match codeP (u16N (s.drop ik)) m.code (s.drop (ik + 2)) with | none => none | some (cs, r6) => some _) = _
      rw [hc]
      rfl
    · rw [hb] at h1; cases h1
/-- between the second loop and the third -/
theorem p2_mid (h : PS w A m f e br bb c s i bp (prV m np ns nup nk 0) wk Ak mk ik bad) (hs : St2 m mk s i ik np ns nup nk 0 bad) {a : Act} (ha : Fr40 A.b br bp a) {Q : Exit → Act → World → Prop}
    (hQ : ∀ c a t v w, Q (.panic c) (a.put (some t) v) w → Q (.panic c) a w)
    (hR : ∀ a' w', Fr40 A.b br bp a' → PrPost w A m f e br bb c s i (.returned (.tuple #[])) w' → Q .ret a' w' ∧ Q .normal a' w') :
    (codeR (pc2 Tryz.f133.body)).wp Tryz.prog Q a wk := by
  obtain ⟨h1, h2⟩ := hs.to3 h.ld.rd.le
  show (Code.seq (codeL (codeR (pc2 Tryz.f133.body))) (Code.seq (codeL (codeR (codeR (pc2 Tryz.f133.body)))) (pc3 Tryz.f133.body))).wp Tryz.prog Q a wk
  have C3 : Hid (∀ a' w' A' m' i' bad' nc, Fr40 A.b br bp a' → PS w A m f e br bb c s i bp (prV m np ns nup nk nc) w' A' m' i' bad' → nc ≤ 65535 → St3 m m' s i i' (prV m np ns nup nk nc) nc bad' → (pc3 Tryz.f133.body).wp Tryz.prog Q a' w') := fun a' w' A' m' i' bad' nc ha' h' hn hs' => p3_any h' hn hs' ha' hQ hR
  generalize pc3 Tryz.f133.body = CC at C3 ⊢
  have HP : Hid (PS w A m f e br bb c s i bp (prV m np ns nup nk 0) wk Ak mk ik bad) := h
  obtain ⟨u, rfl⟩ := ha.form
  clear ha hR hs
  simp only [pc2, pc1, codeL, codeR, codeIn, Tryz.f133, Option.getD_some]
  by_cases hno : bad = true ∨ s.length < ik + 2
  · have U := u16_no h.ld.rd hno
    have HN : Hid (prR m s i = none) := h1 hno
    clear h h1 h2
    refine wp_seq ?_
    go_wp2_with fail
    refine U.mono ?_
    rintro e' w5 ⟨rfl, R5, F5⟩
    have P5 := HP.out.ofRd R5 F5 (Nat.le_refl _)
    obtain ⟨_, ⟨p0, p1, p2, p3, p4, p5, p6, p7, pl, pz⟩, _⟩ := P5.cells
    have pz7 := pz 7
    have P6 := P5.setP (p' := prV m np ns nup nk 0) 7 (.int .i64 0) rfl
    have HF : Hid (PS w A m f e br bb c s i bp (prV m np ns nup nk 0) (w5.setCell ⟨bp, 7, none⟩ (.int .i64 0)) Ak mk ik true) := P6
    clear P5 P6 R5 F5 U HP p0 p1 p2 p3 p4 p5 p6 pz
    go_wp2_with fail
    exact C3.out _ _ Ak mk ik true 0 ⟨by kernel_rfl, by kernel_rfl, by kernel_rfl, by kernel_rfl, rfl⟩ HF.out (by omega) (.inr ⟨rfl, HN.out⟩)
  · have hb : bad = false := by cases bad; rfl; exact absurd (.inl rfl) hno
    subst hb
    have h22 : ik + 2 ≤ s.length := by omega
    have U := u16_ok h.ld.rd h22
    have HN : Hid (St3 m mk s i (ik + 2) (prV m np ns nup nk (u16N (s.drop ik))) (u16N (s.drop ik)) false) := h2 rfl h22
    have hu : u16N (s.drop ik) < 65536 := by
      rw [u16N_drop h22]
      have := s[ik].toNat_lt
      have := s[ik + 1].toNat_lt
      omega
    generalize u16N (s.drop ik) = U16 at U HN hu
    clear h h1 h2
    refine wp_seq ?_
    go_wp2_with fail
    refine U.mono ?_
    rintro e' w5 ⟨rfl, R5, F5⟩
    have P5 := HP.out.ofRd R5 F5 (by omega)
    obtain ⟨_, ⟨p0, p1, p2, p3, p4, p5, p6, p7, pl, pz⟩, _⟩ := P5.cells
    have pz7 := pz 7
    have P6 := P5.setP (p' := prV m np ns nup nk U16) 7 (.int .i64 U16) rfl
    have HF : Hid (PS w A m f e br bb c s i bp (prV m np ns nup nk U16) (w5.setCell ⟨bp, 7, none⟩ (.int .i64 U16)) Ak mk (ik + 2) false) := P6
    clear P5 P6 R5 F5 U HP p0 p1 p2 p3 p4 p5 p6 pz
    go_wp2_with fail
    exact C3.out _ _ Ak mk (ik + 2) false U16 ⟨by kernel_rfl, by kernel_rfl, by kernel_rfl, by kernel_rfl, rfl⟩ HF.out (by omega) HN.out
theorem p2_loop (h : PS w A m f e br bb c s i bp (prV m np ns nup nk 0) wk Ak mk ik bad) (hnk : nk ≤ 65535) (hs : St2 m mk s i ik np ns nup nk nk bad) {a : Act} (ha : Fr40 A.b br bp a) {K : Act → World → Prop} {Q : Exit → Act → World → Prop}
    (hK : ∀ a' w' A' m' i' bad', Fr40 A.b br bp a' → PS w A m f e br bb c s i bp (prV m np ns nup nk 0) w' A' m' i' bad' → St2 m m' s i i' np ns nup nk 0 bad' → K a' w') :
    (codeL (pc2 Tryz.f133.body)).wp Tryz.prog (Exit.then K Q) a wk := by
  obtain ⟨u, rfl⟩ := ha.form
  have HK : Hid (∀ a' w' A' m' i' bad', Fr40 A.b br bp a' → PS w A m f e br bb c s i bp (prV m np ns nup nk 0) w' A' m' i' bad' → St2 m m' s i i' np ns nup nk 0 bad' → K a' w') := hK
  have HP : Hid (PS w A m f e br bb c s i bp (prV m np ns nup nk 0) wk Ak mk ik bad) := h
  have HS : Hid (St2 m mk s i ik np ns nup nk nk bad) := hs
  clear h hs hK ha
  simp only [pc2, pc1, codeL, codeR, codeIn, Tryz.f133, Option.getD_some]
  go_wp2_with fail
  go_loopg [9] nk (fun n v9 wr => ∃ (k : Nat) (Ak : VL) (mk : VMD) (ik : Nat) (bad : Bool), v9 = .int .i64 k ∧ k + n = nk ∧ Hid (PS w A m f e br bb c s i bp (prV m np ns nup nk 0) wr Ak mk ik bad) ∧ Hid (St2 m mk s i ik np ns nup nk n bad))
  case atStart => exact ⟨0, Ak, mk, ik, bad, rfl, Nat.zero_add _, HP.out, HS.out⟩
  case round =>
    clear HP HS
    obtain ⟨k, Ak, mk, ik, bad, rfl, hkn, HP, HS⟩ := hrel
    obtain ⟨⟨r0, r1, r2, rl, rz⟩, ⟨p0, p1, p2, p3, p4, p5', p6, p7, pl, pz⟩, _⟩ := HP.out.cells
    have p5 : wr.cell? ⟨bp, 5, none⟩ = some (.int .i64 nk) := p5'
    clear p5' p0 p1 p2 p3 p4 p6 p7
    cases bad with
    | true =>
      have HS2 : Hid (St2 m mk s i ik np ns nup nk 0 true) := by
        obtain ⟨h0, h⟩ := HS.out
        rcases h with ⟨h, _⟩ | ⟨_, h⟩
        · cases h
        · exact ⟨h0, .inr ⟨rfl, h⟩⟩
      by_cases hk : k < nk
      · have hk' : (k : Int) < (nk : Int) := by omega
        go_wp2_with fail
        exact HK.out _ _ Ak mk ik true ⟨by kernel_rfl, by kernel_rfl, by kernel_rfl, by kernel_rfl, rfl⟩ HP.out HS2.out
      · have hk' : ¬ (k : Int) < (nk : Int) := by omega
        go_wp2_with fail
        exact HK.out _ _ Ak mk ik true ⟨by kernel_rfl, by kernel_rfl, by kernel_rfl, by kernel_rfl, rfl⟩ HP.out HS2.out
    | false =>
      cases gk with
      | zero =>
        have hk' : ¬ (k : Int) < (nk : Int) := by omega
        go_wp2_with fail
        exact HK.out _ _ Ak mk ik false ⟨by kernel_rfl, by kernel_rfl, by kernel_rfl, by kernel_rfl, rfl⟩ HP.out HS.out
      | succ n =>
        have hk' : (k : Int) < (nk : Int) := by omega
        have CC := const_any HP.out.ld HP.out.ln
        rw [HP.out.st.b] at CC
        go_wp2_with fail
        refine CC.mono ?_
        clear CC r0 r1 r2 rl rz p5 pl pz
        rintro e' w5 ⟨A5, m5, i5, bad5, rfl, L5, S5, hi5, hsm, hln, hok⟩
        have hpr : m5.protos = mk.protos ∧ m5.code = mk.code := by
          rcases hok with ⟨_, v, _, rfl⟩ | ⟨_, _, h1, _, h3⟩
          · exact ⟨rfl, rfl⟩
          · exact ⟨h1, h3⟩
        have h0 := HP.out
        have P5 : PS w A m f e br bb c s i bp (prV m np ns nup nk 0) w5 A5 m5 i5 bad5 := by
          obtain ⟨a1, a2, a3, a4, a5, a6⟩ := h0.same
          obtain ⟨b1, b2, b3, b4, b5, b6⟩ := hsm
          exact ⟨L5, h0.st.trans S5, S5.keep0 notVM0 h0.pb.1 h0.pb.2, h0.nw, h0.bl, by have := h0.le; omega, ⟨b1.trans a1, b2.trans a2, b3.trans a3, b4.trans a4, b5.trans a5, b6.trans a6⟩, hpr.1.trans h0.pr, hln, h0.l0⟩
        have HS5 : Hid (St2 m m5 s i i5 np ns nup nk n bad5) := by
          obtain ⟨hc, h⟩ := HS.out
          refine ⟨hpr.2.trans hc, ?_⟩
          rcases h with ⟨_, h⟩ | ⟨h, _⟩
          · have e1 : constsP (n + 1) mk.consts (s.drop ik) = match constP (s.drop ik) with | none => none | some (c, r1) => constsP n (mk.consts ++ [c]) r1 := rfl
            rw [e1] at h
            rcases hok with ⟨hb, v, hv, rfl⟩ | ⟨hb, hv, _⟩
            · rw [hv] at h
              exact .inl ⟨hb, h⟩
            · rw [hv] at h
              exact .inr ⟨hb, h⟩
          · cases h
        have HP5 : Hid (PS w A m f e br bb c s i bp (prV m np ns nup nk 0) w5 A5 m5 i5 bad5) := P5
        clear P5 L5 S5 hsm hln hok hpr h0 HP HS
        go_wp2_with fail
        go_roundg n
        case measure => exact Nat.lt_succ_self _
        case rel => exact ⟨k + 1, A5, m5, i5, bad5, by simp, by omega, HP5.out, HS5.out⟩
/-- from the second loop on -/
theorem p2_any (h : PS w A m f e br bb c s i bp (prV m np ns nup nk 0) wk Ak mk ik bad) (hnk : nk ≤ 65535) (hs : St2 m mk s i ik np ns nup nk nk bad) {a : Act} (ha : Fr40 A.b br bp a) {Q : Exit → Act → World → Prop}
    (hQ : ∀ c a t v w, Q (.panic c) (a.put (some t) v) w → Q (.panic c) a w)
    (hR : ∀ a' w', Fr40 A.b br bp a' → PrPost w A m f e br bb c s i (.returned (.tuple #[])) w' → Q .ret a' w' ∧ Q .normal a' w') :
    (pc2 Tryz.f133.body).wp Tryz.prog Q a wk := by
  show (Code.seq (codeL (pc2 Tryz.f133.body)) (codeR (pc2 Tryz.f133.body))).wp Tryz.prog Q a wk
  refine wp_seq ?_
  exact p2_loop h hnk hs ha (fun a' w' A' m' i' bad' ha' h' hs' => p2_mid h' hs' ha' hQ hR)
end
end Go.Proofs.Qxb6500574aGreatDoor
