/-
  moon: THE PARSER's ERRORS: which they are, and where. Plain; no memory, no walk.
-/
import Derived.Test.Qxb6500574aGreatDoorWTk
namespace Go.Proofs.Qxb6500574aGreatDoor
set_option linter.unusedVariables false
set_option linter.unusedSimpArgs false
/-- an error of the text -/
def SynE (e : Nat) : Prop := e = 1 ∨ e = 2 ∨ (13 ≤ e ∧ e ≤ 20)
def BTk (L : Nat) (t : Tok) : Prop := t.p ≤ L ∧ (t.k = 1 → t.e = 2 ∨ t.e = 13 ∨ t.e = 14)
def BT (L : Nat) (l : List Tok) : Prop := ∀ t ∈ l, BTk L t
theorem BT.end0 {L p : Nat} (h : p ≤ L) : BT L [⟨0, p, [], 0, 0⟩] := fun t ht => by
  simp only [List.mem_singleton] at ht
  subst ht
  exact ⟨h, fun e => by cases e⟩
theorem BT.bad {L p e : Nat} (h : p ≤ L) (he : e = 2 ∨ e = 13 ∨ e = 14) : BT L [badTok p e] := fun t ht => by
  simp only [List.mem_singleton] at ht
  subst ht
  exact ⟨h, fun _ => he⟩
theorem BT.cons {L p k n : Nat} {s : Bs} {r : List Tok} (h : BT L r) (hp : p ≤ L) (h1 : 2 ≤ k) : BT L (⟨k, p, s, n, 0⟩ :: r) := fun t ht => by
  rcases List.mem_cons.1 ht with e | e
  · subst e
    refine ⟨hp, fun e => ?_⟩
    dsimp only at e
    omega
  · exact h t e
theorem scan_bt {L : Nat} : ∀ (f p : Nat) (r : Bs), p + r.length ≤ L → BT L (scanN f p r)
  | 0, p, r, h => BT.end0 (by omega)
  | f + 1, p, [], h => BT.end0 (by simp at h; exact h)
  | f + 1, p, c :: r, hL => by
    have hp : p ≤ L := by omega
    simp only [List.length_cons] at hL
    have step : ∀ k, k ≤ (c :: r).length → BT L (scanN f (p + k) ((c :: r).drop k)) := fun k h2 => scan_bt f (p + k) _ (by rw [List.length_drop]; simp only [List.length_cons] at h2 ⊢; omega)
    unfold scanN
    split
    · exact scan_bt f (p + 1) r (by omega)
    · split
      · exact step _ (spanLe1 _ _)
      · split
        · dsimp only
          split
          · exact BT.cons (step _ (spanLe1 _ _)) hp (keyword_rg _).1
          · exact BT.bad hp (by decide)
        · split
          · rename_i h1 h2 h3 h4
            obtain ⟨n1, n2⟩ := numLen_rg (r := r) h4
            dsimp only
            split
            · exact BT.cons (step _ n2) hp (by decide)
            · exact BT.bad hp (by decide)
          · split
            · dsimp only
              split
              · rename_i h5 h6
                have hk : span (fun x => x != 34 && x != 10) r + 1 ≤ r.length := by
                  have h7 := h6.1
                  have h8 := spanLe1 (fun x => x != 34 && x != 10) r
                  have : r.drop (span (fun x => x != 34 && x != 10) r) ≠ [] := fun e => by rw [e] at h7; cases h7
                  have := List.length_pos_iff.2 this
                  rw [List.length_drop] at this
                  omega
                exact BT.cons (scan_bt f _ _ (by rw [List.length_drop]; omega)) hp (by decide)
              · exact BT.bad hp (by decide)
            · dsimp only
              generalize (if c = 46 ∨ c = 47 then c else 61) = tw
              by_cases h7 : (c = 46 ∨ c = 47 ∨ c = 61 ∨ c = 126 ∨ c = 60 ∨ c = 62) ∧ r.head? = some tw
              · simp only [if_pos h7]
                have hr : 1 ≤ r.length := by
                  cases r with
                  | nil => cases h7.2
                  | cons z q => simp
                by_cases h6 : signN [c, tw] = 1 ∨ 128 ≤ c.toNat
                · rw [if_pos h6]
                  exact BT.bad hp (by decide)
                · rw [if_neg h6]
                  have hs := (sign_rg [c, tw]).resolve_left (fun e => h6 (.inl e))
                  exact BT.cons (scan_bt f (p + 2) _ (by rw [List.length_drop]; omega)) hp hs.1
              · simp only [if_neg h7]
                by_cases h6 : signN [c] = 1 ∨ 128 ≤ c.toNat
                · rw [if_pos h6]
                  exact BT.bad hp (by decide)
                · rw [if_neg h6]
                  have hs := (sign_rg [c]).resolve_left (fun e => h6 (.inl e))
                  exact BT.cons (scan_bt f (p + 1) _ (by omega)) hp hs.1
/-- every token, also beyond the end -/
theorem BT.get {L : Nat} {T : List Tok} (h : BT L T) (i : Nat) : BTk L (T.getD i tok0) := by
  rw [List.getD_eq_getElem?_getD]
  cases e : T[i]? with
  | none => exact ⟨Nat.zero_le _, fun x => by cases x⟩
  | some t => exact h t (List.mem_of_getElem? e)
/-- an error that can be told -/
def GdE (L : Nat) (y : Nat × Nat) : Prop := (y.1 = 2 ∨ (13 ≤ y.1 ∧ y.1 ≤ 20)) ∧ y.2 ≤ L
def EB (L : Nat) (r : PR) : Prop := ∀ y, r = .inl y → y = (99, 0) ∨ GdE L y
section
variable {L : Nat} {T : List Tok}
theorem EB.inr (x : List Nat × PSt) : EB L (.inr x) := fun y h => by cases h
theorem EB.ok (s : PSt) (d : Nd) : EB L (okP s d) := fun y h => by cases h
theorem EB.fail (E : BT L T) (s : PSt) {e : Nat} (he : 13 ≤ e ∧ e ≤ 20) : EB L (failP T s e) := fun y h => by
  have h1 := Sum.inl.inj h
  have h2 := E.get s.i
  rw [← h1]
  refine .inr ⟨?_, h2.1⟩
  dsimp only
  split
  · rename_i hk
    have := h2.2 hk
    unfold curT
    omega
  · exact .inr he
theorem EB.bind {r : PR} {f : List Nat → PSt → PR} (h : EB L r) (g : ∀ v s, EB L (f v s)) : EB L (PBd r f) := fun y e => by
  cases r with
  | inl z => exact h y e
  | inr z => exact g _ _ y e
theorem EB.ite {p : Prop} [Decidable p] {a b : PR} (h : EB L a) (g : EB L b) : EB L (if p then a else b) := by
  split
  · exact h
  · exact g
theorem EB.expect (E : BT L T) (s : PSt) (k : Nat) {f : PSt → PR} (g : ∀ s, EB L (f s)) : EB L (expectP T s k f) := by
  unfold expectP
  split
  · exact g _
  · exact EB.fail E s (by decide)
theorem EB.name (E : BT L T) (s : PSt) (k : Nat) {f : Tok → PSt → PR} (g : ∀ t s, EB L (f t s)) : EB L (nameP T s k f) := by
  unfold nameP
  split
  · exact EB.fail E s (by decide)
  · split
    · exact EB.fail E s (by decide)
    · exact g _ _
set_option maxHeartbeats 4000000 in
theorem par_eb (E : BT L T) : ∀ (n task room : Nat) (x : List Nat) (s : PSt), EB L (parN T n task room x s) := by
  intro n
  induction n with
  | zero => intro task room x s y h; cases h; exact .inl rfl
  | succ n ih =>
    intro task room x s
    unfold parN
    dsimp only
    repeat' first
      | exact ih _ _ _ _
      | exact EB.inr _
      | exact EB.ok _ _
      | exact EB.fail E _ (by decide)
      | refine EB.bind ?_ (fun _ _ => ?_)
      | refine EB.expect E _ _ (fun _ => ?_)
      | refine EB.name E _ _ (fun _ _ => ?_)
      | refine EB.ite ?_ ?_
end
/-- the errors of a text, and their places -/
theorem tree_err {src : Bs} {e p : Nat} (h : treeP src = .inl (e, p)) : SynE e ∧ p ≤ src.length ∧ (e = 1 ↔ 2048 < src.length) := by
  unfold treeP at h
  split at h
  · rename_i hl
    cases h
    exact ⟨.inl rfl, Nat.zero_le _, by simp [hl]⟩
  · rename_i hl
    have E : BT src.length (scanP src) := scan_bt _ _ _ (by omega)
    have G : ∀ {e p : Nat}, GdE src.length (e, p) → SynE e ∧ p ≤ src.length ∧ (e = 1 ↔ 2048 < src.length) := fun {e p} g => by
      have g1 := g.1
      have g2 := g.2
      dsimp only at g1 g2
      unfold SynE
      omega
    dsimp only at h
    split at h
    · rename_i y hy
      cases h
      rcases par_eb E _ _ _ _ _ _ hy with e1 | e1
      · exfalso
        rw [e1] at hy
        refine par_nf (T := scanP src) (scan_tka src).e14 (100 * ((scanP src).length + 20)) 9 12 [] ⟨0, 0, 0, 0, [nd0]⟩ ?_ hy
        have : cT 9 ≤ 1000 := by decide
        dsimp only
        omega
      · exact G e1
    · rename_i x hx
      split at h
      · have hf := EB.fail E x.2 (e := 15) (by decide)
        cases hq : failP (scanP src) x.2 15 with
        | inl y =>
          rw [hq] at h
          have h : (Sum.inl y : Sum (Nat × Nat) (List Nd × Nat)) = .inl (e, p) := h
          cases h
          rcases hf _ hq with e1 | e1
          · exfalso
            cases e1
            unfold failP at hq
            have hq := Sum.inl.inj hq
            have h2 := (E.get x.2.i).2
            have h3 := congrArg Prod.fst hq
            dsimp only at h3
            split at h3
            · rename_i hk
              have := h2 hk
              unfold curT at h3
              omega
            · omega
          · exact G e1
        | inr y => unfold failP at hq; cases hq
      · split at h
        · cases h
          exact G ⟨.inr ⟨by dsimp only; omega, by dsimp only; omega⟩, Nat.le_refl _⟩
        · cases h
theorem tree_len {src : Bs} {x : List Nd × Nat} (h : treeP src = .inr x) : src.length ≤ 2048 := by
  unfold treeP at h
  split at h
  · cases h
  · omega
end Go.Proofs.Qxb6500574aGreatDoor
