/-
  THE WALKS of syntaxm: next.
-/
import Derived.Test.Qxb6500574aGreatDoorZQ13
import Derived.Test.Qxb6500574aGreatDoorZR1
namespace Go.Proofs.Qxb6500574aGreatDoor
open Go Go.RowKit
set_option linter.unusedVariables false
set_option linter.unusedSimpArgs false
set_option maxRecDepth 100000 in
set_option maxHeartbeats 1000000 in
theorem num_go {W : World} {A : PzP} {d : PzD} {a : Act} {c : UInt8} (h : PzM W A d) (hc : A.s[d.e]? = some c) (hk : isDig c = true) {Q : Ending → World → Prop} (H : FrMz (.pointer (some ⟨A.b, 0, none⟩)) (sv A.s) (.int .i64 (d.e : Nat)) (.int .u8 (c.toNat : Nat)) (.int .i64 (d.e : Nat)) a)
    (hN : ∀ (K : Act → World → Prop) (a : Act), FrMz (.pointer (some ⟨A.b, 0, none⟩)) (sv A.s) (.int .i64 (d.e : Nat)) (.int .u8 (c.toNat : Nat)) (.int .i64 (d.e : Nat)) a → (nN Tryz.f105.body).wp Tryz.prog (Exit.then K (bodyPost Tryz.prog Tryz.f105 Q)) a W) : (n2 Tryz.f105.body).wp Tryz.prog (bodyPost Tryz.prog Tryz.f105 Q) a W := by
  obtain ⟨u, rfl⟩ := H.form
  obtain ⟨e, HEE⟩ : ∃ e : Nat, Hid (d.e = e) := ⟨_, rfl⟩
  rw [HEE.out] at hN ⊢
  have CL : Hid (∀ w, Calls Tryz.prog 181 #[.int .u8 (c.toNat : Nat)] w fun e w' => e = .returned (.bool true) ∧ w' = w) := fun w => by have := digit_z (w := w) c; rw [hk] at this; exact this
  obtain ⟨cn, HCN⟩ : ∃ cn, Hid (c.toNat = cn) := ⟨_, rfl⟩
  rw [HCN.out] at hN CL ⊢
  obtain ⟨TL, HTL⟩ : ∃ TL, Hid (n3 Tryz.f105.body = TL) := ⟨_, rfl⟩
  obtain ⟨NM9, HNM⟩ : ∃ TL, Hid (nN Tryz.f105.body = TL) := ⟨_, rfl⟩
  have EQ : n2 Tryz.f105.body = Code.seq (Code.seq (zL (zL (n2 Tryz.f105.body))) (Code.cond (.tmp 154) (nN Tryz.f105.body) Code.skip)) (n3 Tryz.f105.body) := by kernel_rfl
  obtain ⟨cc, hcc⟩ : ∃ cc, cc = zL (zL (n2 Tryz.f105.body)) := ⟨_, rfl⟩
  rw [HTL.out, HNM.out, ← hcc] at EQ
  rw [HNM.out] at hN
  rw [EQ]
  clear EQ HTL HNM
  simp only [n5, n4, n3, n2, n1, nxT, zR, zL, Tryz.f105, Option.getD_some] at hcc
  subst hcc
  have HN := hid hN
  clear hN h H hc hk
  go_wp2_with fail
  refine (CL.out _).mono ?_
  rintro e1 w1 ⟨rfl, hw⟩
  rw [hw]
  go_wp2_with fail
  exact HN.out _ _ ⟨by kernel_rfl, by kernel_rfl, by kernel_rfl, by kernel_rfl, by kernel_rfl, by kernel_rfl, rfl⟩
theorem tok_z {W : World} {A : PzP} {d : PzD} {a : Act} (h : PzM W A d) (H : FrN (.pointer (some ⟨A.b, 0, none⟩)) (sv A.s) a) : (nxT Tryz.f105.body).wp Tryz.prog (bodyPost Tryz.prog Tryz.f105 (NxQ W A d (tokM A.s d.e))) a W := by
  refine nx_start h rfl H fun c a hc H => ?_
  have hlt := (List.getElem?_eq_some_iff.1 hc).1
  by_cases hl : isLet c = true
  · by_cases hb : span isWrd (A.s.drop d.e) ≤ 40
    · by_cases hkw : keywordN ((A.s.drop d.e).take (span isWrd (A.s.drop d.e))) = 2
      · exact nx_wname h rfl hc hl hb hkw H
      · exact nx_wkey h rfl hc hl hb hkw H
    · exact nx_wlong h rfl hc hl hb H
  have hl : isLet c = false := by simpa using hl
  refine nx_let0 h hc hl H fun a H => ?_
  by_cases hd : isDig c = true
  · have nl := numLen_rg (r := A.s.drop (d.e + 1)) hd
    rw [← drop_at hc, List.length_drop] at nl
    obtain ⟨L, hL⟩ : ∃ L, numLen (A.s.drop d.e) = L := ⟨_, rfl⟩
    rw [hL] at nl
    have hX : tokM A.s d.e = (match parseN ((A.s.drop d.e).take L) with | some b => ⟨3, d.e, [], b, 0⟩ | none => badTok d.e 2, d.e + L) := by
      unfold tokM
      rw [hc]
      dsimp only
      rw [if_neg (by rw [hl]; decide), if_pos hd, hL]
      cases parseN ((A.s.drop d.e).take L) <;> rfl
    refine num_go h hc hd H fun K a H => ?_
    have key : ∀ a, FrMz (.pointer (some ⟨A.b, 0, none⟩)) (sv A.s) (.int .i64 (d.e : Nat)) (.int .u8 (c.toNat : Nat)) (.int .i64 (d.e + L : Nat)) a → (nE Tryz.f105.body).wp Tryz.prog (Exit.then K (bodyPost Tryz.prog Tryz.f105 (NxQ W A d (tokM A.s d.e)))) a W := fun a H => by
      cases hp : parseN ((A.s.drop d.e).take L) with
      | some z => exact num_ok h (by omega) hp (by rw [hX]) (by rw [hX, hp]; rfl) H
      | none => exact num_bad h (by omega) hp (by rw [hX]) (by rw [hX, hp]; rfl) H
    obtain ⟨D, hD⟩ : ∃ D, span isDig (A.s.drop d.e) = D := ⟨_, rfl⟩
    have hDl : d.e + D ≤ A.s.length := by
      have := spanLe1 isDig (A.s.drop d.e)
      rw [List.length_drop, hD] at this
      omega
    refine num_loop h hD H fun a H => ?_
    by_cases h1 : A.s[d.e + D]? = some 46 ∧ headDig (A.s.drop (d.e + D + 1)) = true
    · exact num_dot h hDl h1.1 h1.2 ((numLen_dot hD h1.1 h1.2).symm.trans hL) H key
    · by_cases h2 : powP A.s (d.e + D)
      · exact num_pow h hDl h1 h2 ((numLen_pow hD h2).symm.trans hL) H key
      · exact num_int h hDl h1 h2 ((numLen_no hD h1 h2).symm.trans hL) H key
  have hd : isDig c = false := by simpa using hd
  refine nx_dig0 h hc hd H fun a H => ?_
  by_cases h34 : c = 34
  · exact nx_str h rfl hc h34 H
  refine nx_str0 h34 H fun a H => ?_
  by_cases h2 : isTwo c ∧ A.s[d.e + 1]? = some (twinN c)
  · exact nx_two h rfl hc hl hd h34 h2 H
  refine nx_two0 h hc h2 H fun a H => ?_
  by_cases h1 : signN [c] = 1 ∨ 128 ≤ c.toNat
  · exact nx_bad h rfl hc hl hd h34 h2 h1 H
  · exact nx_one h rfl hc hl hd h34 h2 h1 H
theorem bodyPost_mz {P : Program} {fn : Func} {R R' : Ending → World → Prop} (h : ∀ e w, R e w → R' e w) : ∀ (e : Exit) (a : Act) (w : World), bodyPost P fn R e a w → bodyPost P fn R' e a w
  | .normal, _, _, ⟨a, v, b, c⟩ => ⟨a, v, b, h _ _ c⟩
  | .ret, _, _, ⟨a, v, b, c⟩ => ⟨a, v, b, h _ _ c⟩
  | .panic _, _, _, ⟨a, b⟩ => ⟨a, h _ _ b⟩
  | .outgrown, _, _, a => h _ _ a
  | .exit _, _, _, a => a.elim
  | .goto _, _, _, a => a.elim
theorem next_z {w : World} {A : PzP} {d : PzD} (h : PzM w A d) : Calls Tryz.prog 105 #[.pointer (some ⟨A.b, 0, none⟩)] w fun e w' => e = .returned (.tuple #[]) ∧ PzM w' A { d with e := (lexM A.s d.e).2, t := tkc (lexM A.s d.e).1 } ∧ PzS w A w' A := by
  refine next_head h fun W a m S H => ?_
  have Z := tok_z m H
  exact wp_mono Z (bodyPost_mz fun e w' q => ⟨q.1, q.2.1, S.trans q.2.2⟩)
end Go.Proofs.Qxb6500574aGreatDoor
