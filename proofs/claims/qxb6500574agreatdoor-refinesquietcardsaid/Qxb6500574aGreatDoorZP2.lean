/-
  moon: THE LEXER, ONE TOKEN AT A TIME (as the model reads). Plain; no memory, no walk.
-/
import Derived.Test.Qxb6500574aGreatDoorZP1
import Derived.Test.Qxb6500574aGreatDoorWScan
import Derived.Test.Qxb6500574aGreatDoorWSy2
import Derived.Test.Qxb6500574aGreatDoorWTk
namespace Go.Proofs.Qxb6500574aGreatDoor
set_option linter.unusedVariables false
set_option linter.unusedSimpArgs false
/-- blanks and remarks are passed -/
def skipM (s : Bs) : Nat → Nat → Nat
  | 0, e => e
  | f + 1, e => match s[e]? with
    | none => e
    | some c => if isWs c then skipM s f (e + 1) else if c = 45 ∧ s[e + 1]? = some 45 then skipM s f (e + span (fun x => x != 10) (s.drop e)) else e
/-- the token at e, and where the next one may begin -/
def tokM (s : Bs) (e : Nat) : Tok × Nat := match s[e]? with
  | none => (⟨0, e, [], 0, 0⟩, e)
  | some c =>
    if isLet c then (if span isWrd (s.drop e) ≤ 40 then ⟨keywordN ((s.drop e).take (span isWrd (s.drop e))), e, (s.drop e).take (span isWrd (s.drop e)), 0, 0⟩ else badTok e 14, e + span isWrd (s.drop e))
    else if isDig c then (match parseN ((s.drop e).take (numLen (s.drop e))) with | some b => ⟨3, e, [], b, 0⟩ | none => badTok e 2, e + numLen (s.drop e))
    else if c = 34 then
      (if s[e + 1 + span (fun x => x != 34 && x != 10) (s.drop (e + 1))]? = some 34 ∧ span (fun x => x != 34 && x != 10) (s.drop (e + 1)) ≤ 40 then (⟨4, e, (s.drop (e + 1)).take (span (fun x => x != 34 && x != 10) (s.drop (e + 1))), 0, 0⟩, e + span (fun x => x != 34 && x != 10) (s.drop (e + 1)) + 2)
       else (badTok e 14, s.length))
    else if isTwo c ∧ s[e + 1]? = some (twinN c) then (if signN [c, twinN c] = 1 then (badTok e 13, s.length) else (⟨signN [c, twinN c], e, [], 0, 0⟩, e + 2))
    else if signN [c] = 1 ∨ 128 ≤ c.toNat then (badTok e 13, s.length) else (⟨signN [c], e, [], 0, 0⟩, e + 1)
def lexM (s : Bs) (e : Nat) : Tok × Nat := tokM s (skipM s (s.length + 1) e)
/-- the tokens from e on -/
def scE (s : Bs) (e : Nat) : List Tok := scanN (s.length + 1) e (s.drop e)
section
variable {s : Bs} {e f : Nat} {c : UInt8}
theorem scE_eq (h : s.length - e < f) : scanN f e (s.drop e) = scE s e := scan_fuel _ _ _ _ (by rw [List.length_drop]; exact h) (by rw [List.length_drop]; omega)
theorem span_le2 (p : UInt8 → Bool) (he : e ≤ s.length) : e + span p (s.drop e) ≤ s.length := by
  have := spanLe1 p (s.drop e)
  rw [List.length_drop] at this
  omega
theorem span_pos2 {p : UInt8 → Bool} (hc : s[e]? = some c) (h : p c = true) : 1 ≤ span p (s.drop e) := by
  rw [drop_at2 hc]
  exact spanP1 h
theorem skip_le : ∀ (f e : Nat), e ≤ s.length → e ≤ skipM s f e ∧ skipM s f e ≤ s.length
  | 0, e, h => ⟨Nat.le_refl _, h⟩
  | f + 1, e, h => by
    unfold skipM
    cases hc : s[e]? with
    | none => exact ⟨Nat.le_refl _, h⟩
    | some c =>
      have hl := (List.getElem?_eq_some_iff.1 hc).1
      dsimp only
      split
      · have := skip_le f (e + 1) (by omega)
        exact ⟨by omega, this.2⟩
      · split
        · have := skip_le f _ (span_le2 (fun x => x != 10) h)
          exact ⟨by omega, this.2⟩
        · exact ⟨Nat.le_refl _, h⟩
/-- what skipM passes, scan passes -/
theorem skip_scan : ∀ (f e : Nat), s.length - e < f → e ≤ s.length → scE s e = scE s (skipM s f e) ∧ (∀ c, s[skipM s f e]? = some c → ¬ isWs c ∧ ¬ (c = 45 ∧ s[skipM s f e + 1]? = some 45))
  | 0, e, h, _ => by omega
  | f + 1, e, h, hl => by
    unfold skipM
    cases hc : s[e]? with
    | none =>
      refine ⟨rfl, fun c z => ?_⟩
      have z : s[e]? = some c := z
      rw [hc] at z; cases z
    | some c =>
      have he := (List.getElem?_eq_some_iff.1 hc).1
      dsimp only
      by_cases h1 : isWs c
      · rw [if_pos h1]
        have ih := skip_scan f (e + 1) (by omega) (by omega)
        refine ⟨?_, ih.2⟩
        rw [← ih.1]
        conv => lhs; unfold scE
        rw [scan_ws hc h1]
        exact scE_eq (by omega)
      · rw [if_neg h1]
        by_cases h2 : c = 45 ∧ s[e + 1]? = some 45
        · rw [if_pos h2]
          have p1 : 1 ≤ span (fun x => x != 10) (s.drop e) := span_pos2 hc (by rw [h2.1]; rfl)
          have p2 := span_le2 (s := s) (e := e) (fun x => x != 10) hl
          have ih := skip_scan f (e + span (fun x => x != 10) (s.drop e)) (by omega) p2
          refine ⟨?_, ih.2⟩
          rw [← ih.1]
          conv => lhs; unfold scE
          rw [scan_com hc h1 h2.1 h2.2]
          exact scE_eq (by omega)
        · rw [if_neg h2]
          refine ⟨rfl, fun d hd => ?_⟩
          have hd : s[e]? = some d := hd
          rw [hc] at hd
          cases hd
          exact ⟨h1, h2⟩
abbrev TkR (s : Bs) (e : Nat) (x : Tok × Nat) : Prop := scE s e = x.1 :: (if x.1.k ≤ 1 then [] else scE s x.2) ∧ x.2 ≤ s.length
/-- a token of the text, its bounds -/
theorem tok_scan (he : e ≤ s.length) (hn : ∀ c, s[e]? = some c → ¬ isWs c ∧ ¬ (c = 45 ∧ s[e + 1]? = some 45)) : TkR s e (tokM s e) := by
  unfold tokM
  cases hc : s[e]? with
  | none =>
    have : s.length ≤ e := List.getElem?_eq_none_iff.1 hc
    refine ⟨?_, he⟩
    unfold scE
    rw [scan_end this]
    rfl
  | some c =>
    obtain ⟨h1, h2⟩ := hn c hc
    have hl := (List.getElem?_eq_some_iff.1 hc).1
    dsimp only
    have kw := keyword_rg ((s.drop e).take (span isWrd (s.drop e)))
    by_cases h3 : isLet c = true
    · rw [if_pos h3]
      have p1 : 1 ≤ span isWrd (s.drop e) := span_pos2 hc (by unfold isWrd; rw [h3]; rfl)
      refine ⟨?_, span_le2 _ he⟩
      conv => lhs; unfold scE
      rw [scan_word hc h1 h2 h3]
      by_cases h4 : span isWrd (s.drop e) ≤ 40
      · rw [if_pos h4, if_pos h4, if_neg (by dsimp only; omega), scE_eq (by omega)]
      · rw [if_neg h4, if_neg h4]
        rfl
    · have h3' : isLet c = false := by simpa using h3
      rw [if_neg h3]
      by_cases h5 : isDig c = true
      · rw [if_pos h5]
        have nl := numLen_rg (r := s.drop (e + 1)) h5
        rw [← drop_at2 hc, List.length_drop] at nl
        refine ⟨?_, by dsimp only; omega⟩
        conv => lhs; unfold scE
        rw [scan_num hc h1 h2 h3' h5]
        cases parseN ((s.drop e).take (numLen (s.drop e))) with
        | none => rfl
        | some b =>
          dsimp only
          rw [if_neg (by omega), scE_eq (by omega)]
      · have h5' : isDig c = false := by simpa using h5
        rw [if_neg h5]
        by_cases h6 : c = 34
        · rw [if_pos h6]
          by_cases h7 : s[e + 1 + span (fun x => x != 34 && x != 10) (s.drop (e + 1))]? = some 34 ∧ span (fun x => x != 34 && x != 10) (s.drop (e + 1)) ≤ 40
          · rw [if_pos h7]
            have hb := (List.getElem?_eq_some_iff.1 h7.1).1
            refine ⟨?_, by dsimp only; omega⟩
            conv => lhs; unfold scE
            rw [scan_str hc h1 h2 h3' h5' h6, if_pos h7]
            dsimp only
            rw [if_neg (by omega), scE_eq (by omega)]
          · rw [if_neg h7]
            refine ⟨?_, Nat.le_refl _⟩
            conv => lhs; unfold scE
            rw [scan_str hc h1 h2 h3' h5' h6, if_neg h7]
            rfl
        · rw [if_neg h6]
          by_cases h7 : isTwo c ∧ s[e + 1]? = some (twinN c)
          · rw [if_pos h7]
            have hb := (List.getElem?_eq_some_iff.1 h7.2).1
            by_cases h8 : signN [c, twinN c] = 1
            · rw [if_pos h8]
              refine ⟨?_, Nat.le_refl _⟩
              conv => lhs; unfold scE
              rw [scan_sign hc h1 h2 h3' h5' h6, if_pos h7, if_pos h8]
              rfl
            · rw [if_neg h8]
              refine ⟨?_, by dsimp only; omega⟩
              have := (sign_rg [c, twinN c]).resolve_left h8
              conv => lhs; unfold scE
              rw [scan_sign hc h1 h2 h3' h5' h6, if_pos h7, if_neg h8]
              dsimp only
              rw [if_neg (by omega), scE_eq (by omega)]
          · rw [if_neg h7]
            by_cases h8 : signN [c] = 1 ∨ 128 ≤ c.toNat
            · rw [if_pos h8]
              refine ⟨?_, Nat.le_refl _⟩
              conv => lhs; unfold scE
              rw [scan_sign hc h1 h2 h3' h5' h6, if_neg h7, if_pos h8]
              rfl
            · rw [if_neg h8]
              refine ⟨?_, by dsimp only; omega⟩
              have := (sign_rg [c]).resolve_left (fun z => h8 (.inl z))
              conv => lhs; unfold scE
              rw [scan_sign hc h1 h2 h3' h5' h6, if_neg h7, if_neg h8]
              dsimp only
              rw [if_neg (by omega), scE_eq (by omega)]
theorem next_scan (he : e ≤ s.length) : scE s e = (lexM s e).1 :: (if (lexM s e).1.k ≤ 1 then [] else scE s (lexM s e).2) ∧ (lexM s e).2 ≤ s.length := by
  obtain ⟨h1, h2⟩ := skip_scan (s := s) (s.length + 1) e (by omega) he
  obtain ⟨h3, h4⟩ := skip_le (s := s) (s.length + 1) e he
  rw [h1]
  exact tok_scan h4 h2
end
/-- the token at hand is the i-th; the lexer stands behind it -/
structure LxT (s : Bs) (T : List Tok) (i : Nat) (t : Tok) (e : Nat) : Prop where
  le : e ≤ s.length
  at_ : T[i]? = some t
  tl : T.drop (i + 1) = if t.k ≤ 1 then [] else scE s e
theorem LxT.start {s : Bs} : LxT s (scanP s) 0 (lexM s 0).1 (lexM s 0).2 := by
  have h := next_scan (s := s) (e := 0) (Nat.zero_le _)
  have e : scanP s = scE s 0 := rfl
  rw [e, h.1]
  exact ⟨h.2, rfl, rfl⟩
theorem LxT.next {s : Bs} {T : List Tok} {i e : Nat} {t : Tok} (h : LxT s T i t e) (hk : 2 ≤ t.k) : LxT s T (i + 1) (lexM s e).1 (lexM s e).2 := by
  have tl := h.tl
  rw [if_neg (by omega)] at tl
  obtain ⟨n1, n2⟩ := next_scan h.le
  rw [n1] at tl
  refine ⟨n2, ?_, ?_⟩
  · have := congrArg List.head? tl
    rw [List.head?_drop] at this
    exact this
  · have := congrArg List.tail tl
    rw [List.tail_drop] at this
    exact this
theorem LxT.cur {s : Bs} {T : List Tok} {i e : Nat} {t : Tok} (h : LxT s T i t e) : T.getD i tok0 = t := by rw [List.getD_eq_getElem?_getD, h.at_]; rfl
/-- the text of a sign or a keyword -/
def symS (k : Nat) : Bs := if k < 24 then keywordL.getD (k - 5) [] else signL.getD (k - 24) []
end Go.Proofs.Qxb6500574aGreatDoor
