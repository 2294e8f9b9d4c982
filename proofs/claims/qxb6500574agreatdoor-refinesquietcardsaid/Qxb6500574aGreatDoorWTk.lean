/-
  moon: THE TOKENS OF A TEXT. Plain; no memory, no walk.
-/
import Derived.Test.Qxb6500574aGreatDoorWNk3
namespace Go.Proofs.Qxb6500574aGreatDoor
set_option linter.unusedVariables false
set_option linter.unusedSimpArgs false
def TkQ (L : Nat) : Nat → List Tok → Prop
  | _, [] => False
  | lo, t :: r => lo ≤ t.p ∧ t.p ≤ L ∧ ((r = [] ∧ ((t.k = 0 ∧ t.e = 0) ∨ (t.k = 1 ∧ t.e ≠ 0 ∧ t.e ≤ 14))) ∨ (2 ≤ t.k ∧ t.k ≤ 46 ∧ t.e = 0 ∧ TkQ L (t.p + 1) r))
theorem TkQ.mono {L : Nat} : ∀ {l : List Tok} {lo lo' : Nat}, TkQ L lo l → lo' ≤ lo → TkQ L lo' l
  | [], _, _, h, _ => h
  | t :: r, lo, lo', h, hl => ⟨Nat.le_trans hl h.1, h.2⟩
theorem TkQ.end0 {L p : Nat} (h : p ≤ L) : TkQ L p [⟨0, p, [], 0, 0⟩] := ⟨Nat.le_refl _, h, .inl ⟨rfl, .inl ⟨rfl, rfl⟩⟩⟩
theorem TkQ.bad {L p e : Nat} (h : p ≤ L) (h1 : e ≠ 0) (h2 : e ≤ 14) : TkQ L p [badTok p e] := ⟨Nat.le_refl _, h, .inl ⟨rfl, .inr ⟨rfl, h1, h2⟩⟩⟩
theorem TkQ.cons {L p q k n : Nat} {s : Bs} {r : List Tok} (h : TkQ L q r) (hp : p ≤ L) (hq : p + 1 ≤ q) (h1 : 2 ≤ k) (h2 : k ≤ 46) : TkQ L p (⟨k, p, s, n, 0⟩ :: r) := ⟨Nat.le_refl _, hp, .inr ⟨h1, h2, rfl, h.mono hq⟩⟩
theorem idx_lt {l : List Bs} {t : Bs} {i : Nat} (h : idx l t = some i) : i < l.length := by
  unfold idx at h
  exact (List.findIdx?_eq_some_iff_findIdx_eq.1 h).1
theorem keyword_rg (t : Bs) : 2 ≤ keywordN t ∧ keywordN t ≤ 46 := by
  unfold keywordN
  cases h : idx keywordL t with
  | none => exact ⟨by decide, by decide⟩
  | some i =>
    have := idx_lt h
    have e : keywordL.length = 19 := rfl
    dsimp only
    omega
theorem sign_rg (t : Bs) : signN t = 1 ∨ (2 ≤ signN t ∧ signN t ≤ 46) := by
  unfold signN
  cases h : idx signL t with
  | none => exact .inl rfl
  | some i =>
    have := idx_lt h
    have e : signL.length = 23 := rfl
    right
    dsimp only
    omega
theorem spanLe1 (p : UInt8 → Bool) (r : Bs) : span p r ≤ r.length := by
  unfold span
  exact (List.takeWhile_sublist _).length_le
theorem spanP1 {p : UInt8 → Bool} {c : UInt8} {r : Bs} (h : p c = true) : 1 ≤ span p (c :: r) := by
  unfold span
  rw [List.takeWhile_cons, if_pos h]
  simp
theorem numLen_rg {c : UInt8} {r : Bs} (h : isDig c = true) : 1 ≤ numLen (c :: r) ∧ numLen (c :: r) ≤ (c :: r).length := by
  have h1 := spanP1 (p := isDig) (r := r) h
  have h2 := spanLe1 isDig (c :: r)
  unfold numLen
  dsimp only
  split
  · exact ⟨h1, h2⟩
  · rename_i c' q hd
    have hl : ((c :: r).drop (span isDig (c :: r))).length = (c' :: q).length := by rw [hd]
    rw [List.length_drop, List.length_cons (as := q)] at hl
    split
    · exact ⟨h1, h2⟩
    · split
      · exact ⟨h1, h2⟩
      · rename_i x y
        have l1 := spanLe1 isDig (x :: y)
        have l2 := spanLe1 isDig y
        simp only [List.length_cons] at hl l1 h2 ⊢
        split
        · exact ⟨by omega, by omega⟩
        · split
          · exact ⟨by omega, by omega⟩
          · exact ⟨h1, h2⟩
theorem scan_tkq {L : Nat} : ∀ (f p : Nat) (r : Bs), r.length < f → p + r.length ≤ L → TkQ L p (scanN f p r)
  | 0, p, r, h, _ => absurd h (Nat.not_lt_zero _)
  | f + 1, p, [], _, h => TkQ.end0 (by simp at h; exact h)
  | f + 1, p, c :: r, h, hL => by
    have hp : p ≤ L := by omega
    simp only [List.length_cons] at h hL
    have step : ∀ k, 1 ≤ k → k ≤ (c :: r).length → TkQ L (p + k) (scanN f (p + k) ((c :: r).drop k)) := fun k h1 h2 => scan_tkq f (p + k) _ (by rw [List.length_drop]; simp only [List.length_cons] at h2 ⊢; omega) (by rw [List.length_drop]; simp only [List.length_cons] at h2 ⊢; omega)
    unfold scanN
    split
    · exact (scan_tkq f (p + 1) r (by omega) (by omega)).mono (by omega)
    · split
      · rename_i h1 h2
        have := spanP1 (p := fun x => x != 10) (c := c) (r := r) (by rw [h2.1]; decide)
        exact (step _ this (spanLe1 _ _)).mono (by omega)
      · split
        · rename_i h1 h2 h3
          have hp1 := spanP1 (p := isWrd) (c := c) (r := r) (by unfold isWrd; rw [h3]; rfl)
          dsimp only
          split
          · exact TkQ.cons (step _ hp1 (spanLe1 _ _)) hp (by omega) (keyword_rg _).1 (keyword_rg _).2
          · exact TkQ.bad hp (by decide) (by decide)
        · split
          · rename_i h1 h2 h3 h4
            obtain ⟨n1, n2⟩ := numLen_rg (r := r) h4
            dsimp only
            split
            · exact TkQ.cons (step _ n1 n2) hp (by omega) (by decide) (by decide)
            · exact TkQ.bad hp (by decide) (by decide)
          · split
            · dsimp only
              split
              · rename_i h5 h6
                have hk : span (fun x => x != 34 && x != 10) r + 1 ≤ r.length := by
                  have h7 := h6.1
                  have h8 := spanLe1 (fun x => x != 34 && x != 10) r
                  have : r.drop (span (fun x => x != 34 && x != 10) r) ≠ [] := fun e => by rw [e] at h7; cases h7
                  have := List.length_pos_iff.2 this
                  rw [List.length_drop] at this
                  omega
                exact TkQ.cons (scan_tkq f _ _ (by rw [List.length_drop]; omega) (by rw [List.length_drop]; omega)) hp (by omega) (by decide) (by decide)
              · exact TkQ.bad hp (by decide) (by decide)
            · dsimp only
              generalize (if c = 46 ∨ c = 47 then c else 61) = tw
              by_cases h7 : (c = 46 ∨ c = 47 ∨ c = 61 ∨ c = 126 ∨ c = 60 ∨ c = 62) ∧ r.head? = some tw
              · simp only [if_pos h7]
                have hr : 1 ≤ r.length := by
                  cases r with
                  | nil => cases h7.2
                  | cons z q => simp
                by_cases h6 : signN [c, tw] = 1 ∨ 128 ≤ c.toNat
                · rw [if_pos h6]
                  exact TkQ.bad hp (by decide) (by decide)
                · rw [if_neg h6]
                  have hs := (sign_rg [c, tw]).resolve_left (fun e => h6 (.inl e))
                  exact TkQ.cons (q := p + 2) (scan_tkq f (p + 2) _ (by rw [List.length_drop]; omega) (by rw [List.length_drop]; omega)) hp (by omega) hs.1 hs.2
              · simp only [if_neg h7]
                by_cases h6 : signN [c] = 1 ∨ 128 ≤ c.toNat
                · rw [if_pos h6]
                  exact TkQ.bad hp (by decide) (by decide)
                · rw [if_neg h6]
                  have hs := (sign_rg [c]).resolve_left (fun e => h6 (.inl e))
                  exact TkQ.cons (q := p + 1) (scan_tkq f (p + 1) _ (by omega) (by omega)) hp (by omega) hs.1 hs.2
/-- what is known of the tokens, by their places -/
structure TkA (T : List Tok) (L lo : Nat) : Prop where
  n1 : 1 ≤ T.length
  all : ∀ i, i < T.length → ((T.getD i tok0).k = 0 ∨ (T.getD i tok0).k = 1 ↔ i + 1 = T.length) ∧ (T.getD i tok0).k ≤ 46 ∧ lo + i ≤ (T.getD i tok0).p ∧ (T.getD i tok0).p ≤ L ∧ ((T.getD i tok0).e ≠ 0 ↔ (T.getD i tok0).k = 1) ∧ (T.getD i tok0).e ≤ 14 ∧ (0 < i → (T.getD (i - 1) tok0).p < (T.getD i tok0).p)
theorem TkQ.out {L : Nat} : ∀ {T : List Tok} {lo : Nat}, TkQ L lo T → TkA T L lo
  | [], _, h => h.elim
  | t :: r, lo, ⟨h1, h2, h3⟩ => by
    rcases h3 with ⟨rfl, h4⟩ | ⟨k1, k2, e0, h4⟩
    · refine ⟨by simp, fun i hi => ?_⟩
      have : i = 0 := by simp at hi; exact hi
      subst this
      refine ⟨⟨fun _ => rfl, fun _ => ?_⟩, ?_, h1, h2, ?_, ?_, fun h => absurd h (Nat.lt_irrefl _)⟩
      · show t.k = 0 ∨ t.k = 1
        rcases h4 with h | h
        · exact .inl h.1
        · exact .inr h.1
      · show t.k ≤ 46
        omega
      · show t.e ≠ 0 ↔ t.k = 1
        omega
      · show t.e ≤ 14
        omega
    · have ih := TkQ.out h4
      refine ⟨by simp, fun i hi => ?_⟩
      cases i with
      | zero =>
        refine ⟨⟨fun e => ?_, fun e => ?_⟩, k2, h1, h2, ?_, ?_, fun h => absurd h (Nat.lt_irrefl _)⟩
        · exfalso
          have e' : t.k = 0 ∨ t.k = 1 := e
          omega
        · have := ih.n1
          simp only [List.length_cons] at e
          omega
        · show t.e ≠ 0 ↔ t.k = 1
          omega
        · show t.e ≤ 14
          omega
      | succ i =>
        simp only [List.length_cons] at hi ⊢
        obtain ⟨a1, a2, a3, a4, a5, a6, a7⟩ := ih.all i (by omega)
        refine ⟨⟨fun e => ?_, fun e => ?_⟩, a2, ?_, a4, a5, a6, fun _ => ?_⟩
        · have := a1.1 e
          omega
        · exact a1.2 (by omega)
        · show lo + (i + 1) ≤ (r.getD i tok0).p
          omega
        · cases i with
          | zero =>
            show t.p < (r.getD 0 tok0).p
            omega
          | succ j => exact a7 (by omega)
theorem scan_tka (s : Bs) : TkA (scanP s) s.length 0 := (scan_tkq (s.length + 1) 0 s (Nat.lt_succ_self _) (by omega)).out
theorem TkA.len {T : List Tok} {L : Nat} (h : TkA T L 0) : T.length ≤ L + 1 := by
  have h1 := h.n1
  have := (h.all (T.length - 1) (by omega)).2.2
  omega
theorem TkA.out0 {T : List Tok} {i : Nat} (h : ¬ i < T.length) : T.getD i tok0 = tok0 := by
  rw [List.getD_eq_getElem?_getD, List.getElem?_eq_none (by omega)]; rfl
theorem TkA.e14 {T : List Tok} {L : Nat} (h : TkA T L 0) : E14 T := fun i => by
  by_cases hi : i < T.length
  · exact (h.all i hi).2.2.2.2.2.1
  · rw [TkA.out0 hi]; decide
theorem TkA.etk {T : List Tok} {L : Nat} (h : TkA T L 0) : ETk T := fun i hk => by
  by_cases hi : i < T.length
  · exact (h.all i hi).2.2.2.2.1.2 hk
  · rw [TkA.out0 hi] at hk; exact absurd hk (by decide)
end Go.Proofs.Qxb6500574aGreatDoor
