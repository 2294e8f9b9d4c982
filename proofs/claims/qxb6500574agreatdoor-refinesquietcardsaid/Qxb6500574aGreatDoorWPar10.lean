/-
  moon: WHAT THE PARSER LAYS: the tokens; the tree. Plain; no memory, no walk.
-/
import Derived.Test.Qxb6500574aGreatDoorWPar9
import Derived.Test.Qxb6500574aGreatDoorVLawN
namespace Go.Proofs.Qxb6500574aGreatDoor
set_option linter.unusedVariables false
set_option linter.unusedSimpArgs false
structure TkOk (t : Tok) : Prop where
  nm : t.k = 2 → nmOk t.s
  st : t.k = 4 → t.s.length ≤ 40
  nu : t.k = 3 → t.n < 18446744073709551616 ∧ isNan t.n = false
theorem TkOk.none {t : Tok} (h : t.k < 2 ∨ 5 ≤ t.k) : TkOk t := ⟨fun e => by omega, fun e => by omega, fun e => by omega⟩
theorem keyword_k (t : Bs) : keywordN t = 2 ∨ 5 ≤ keywordN t := by
  unfold keywordN
  split
  · exact .inr (by omega)
  · exact .inl rfl
theorem sign_k (t : Bs) : signN t = 1 ∨ 5 ≤ signN t := by
  unfold signN
  split
  · exact .inr (by omega)
  · exact .inl rfl
theorem parse_dig {c : UInt8} {r : Bs} {k b : Nat} (hc : isDig c = true) (h : parseN ((c :: r).take k) = some b) : FinOk b := by
  unfold parseN at h
  split at h
  · cases h
  · split at h
    · rename_i e
      cases k with
      | zero => cases e
      | succ k =>
        rw [List.take_succ_cons] at e
        have e := (List.cons.inj e).1
        subst e
        exact absurd hc (by decide)
    · dsimp only at h
      have hh : (((c :: r).take k).head? == some 45) = false := by
        cases k with
        | zero => rfl
        | succ k =>
          rw [List.take_succ_cons]
          simp only [List.head?_cons]
          refine Bool.eq_false_iff.2 fun e => ?_
          have e : c = 45 := by simpa using e
          subst e
          exact absurd hc (by decide)
      rw [hh] at h
      simp only [Bool.false_eq_true, if_false] at h
      cases hm : magN ((c :: r).take k) with
      | none => rw [hm] at h; cases h
      | some f =>
        rw [hm] at h
        cases h
        exact mag_fin hm
theorem span_pos {p : UInt8 → Bool} {c : UInt8} {r : Bs} (h : p c = true) : 1 ≤ span p (c :: r) := by
  unfold span
  rw [List.takeWhile_cons, if_pos h]
  simp
theorem scan_ok : ∀ (f p : Nat) (r : Bs), ∀ t ∈ scanN f p r, TkOk t := by
  intro f
  induction f with
  | zero =>
    intro p r t ht
    unfold scanN at ht
    rw [List.mem_singleton.1 ht]
    exact .none (.inl (by simp))
  | succ f ih =>
    intro p r t ht
    cases r with
    | nil =>
      unfold scanN at ht
      rw [List.mem_singleton.1 ht]
      exact .none (.inl (by simp))
    | cons c r =>
      unfold scanN at ht
      split at ht
      · exact ih _ _ t ht
      split at ht
      · exact ih _ _ t ht
      split at ht
      · rename_i hl
        dsimp only at ht
        split at ht
        · rename_i hk
          rcases List.mem_cons.1 ht with rfl | ht
          · rcases keyword_k ((c :: r).take (span isWrd (c :: r))) with e | e
            · refine ⟨fun _ => ?_, fun x => ?_, fun x => ?_⟩
              · have h1 : 1 ≤ span isWrd (c :: r) := span_pos (by simp [isWrd, hl])
                have h2 : 1 ≤ (c :: r).length := by simp
                refine ⟨?_, ?_⟩
                · rw [List.length_take]; omega
                · rw [List.length_take]; omega
              · simp only at x; omega
              · simp only at x; omega
            · exact .none (.inr e)
          · exact ih _ _ t ht
        · rw [List.mem_singleton.1 ht]
          exact .none (.inl (by simp [badTok]))
      split at ht
      · rename_i hd
        dsimp only at ht
        split at ht
        · rename_i b hb
          rcases List.mem_cons.1 ht with rfl | ht
          · have := parse_dig hd hb
            exact ⟨fun x => by simp only at x; omega, fun x => by simp only at x; omega, fun _ => ⟨this.1, this.2⟩⟩
          · exact ih _ _ t ht
        · rw [List.mem_singleton.1 ht]
          exact .none (.inl (by simp [badTok]))
      split at ht
      · dsimp only at ht
        split at ht
        · rename_i hq
          rcases List.mem_cons.1 ht with rfl | ht
          · refine ⟨fun x => by simp only at x; omega, fun _ => ?_, fun x => by simp only at x; omega⟩
            simp only [List.length_take]
            omega
          · exact ih _ _ t ht
        · rw [List.mem_singleton.1 ht]
          exact .none (.inl (by simp [badTok]))
      · dsimp only at ht
        generalize (if c = 46 ∨ c = 47 then c else (61 : UInt8)) = tw at ht
        generalize (if (c = 46 ∨ c = 47 ∨ c = 61 ∨ c = 126 ∨ c = 60 ∨ c = 62) ∧ r.head? = some tw then [c, tw] else [c]) = tt at ht
        split at ht
        · rw [List.mem_singleton.1 ht]
          exact .none (.inl (by simp [badTok]))
        · rename_i hs
          rcases List.mem_cons.1 ht with rfl | ht
          · rcases sign_k tt with e | e
            · exact (hs (.inl e)).elim
            · exact .none (.inr e)
          · exact ih _ _ t ht
theorem scan_tok (src : Bs) : TOk (scanP src) := by
  have key : ∀ i, TkOk ((scanP src).getD i tok0) := by
    intro i
    rw [List.getD_eq_getElem?_getD]
    cases e : (scanP src)[i]? with
    | none => exact .none (.inl (by decide))
    | some t => exact scan_ok _ _ _ t (List.mem_of_getElem? e)
  exact ⟨fun i => (key i).nm, fun i => (key i).st, fun i => (key i).nu⟩
/-- what treeP gives -/
structure TrP (N : List Nd) (root : Nat) : Prop where
  n1 : 1 ≤ N.length
  le : N.length ≤ 301
  ex : ∃ l b al', b ≤ 12 ∧ Chain N root l ∧ SeqS (fun x lo a b al al' => Sh N 0 x lo a b 120 al al' false) l 0 (N.length - 1) 0 b 0 al'
theorem tree_shape {src : Bs} {N : List Nd} {root : Nat} (h : treeP src = .inr (N, root)) : TrP N root := by
  unfold treeP at h
  split at h
  · cases h
  · dsimp only at h
    split at h
    · cases h
    · rename_i x hx
      have ok : SOk ⟨0, 0, 0, 0, [nd0]⟩ := ⟨by decide, by decide, by decide⟩
      have B := (PA.all (scan_tok src) _).p9 _ _ _ _ ok hx (by decide)
      split at h
      · cases h
      · split at h
        · cases h
        · cases h
          obtain ⟨l, al', c1, c2⟩ := B.ex
          have := B.kp.le
          simp only [List.length_cons, List.length_nil] at this
          exact ⟨by omega, by omega, l, _, al', B.kp.f12, c1, c2⟩
end Go.Proofs.Qxb6500574aGreatDoor
