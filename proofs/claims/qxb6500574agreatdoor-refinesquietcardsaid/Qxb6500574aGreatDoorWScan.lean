/-
  moon: THE LEXER, STEP BY STEP. Plain; no memory, no walk.
-/
import Derived.Test.Qxb6500574aGreatDoorWPlain
namespace Go.Proofs.Qxb6500574aGreatDoor
set_option linter.unusedVariables false
set_option linter.unusedSimpArgs false
theorem span_cons2 (p : UInt8 → Bool) (c : UInt8) (r : Bs) : span p (c :: r) = if p c then span p r + 1 else 0 := by
  unfold span
  rw [List.takeWhile_cons]
  split <;> simp
theorem drop_at2 {s : Bs} {K : Nat} {c : UInt8} (hc : s[K]? = some c) : s.drop K = c :: s.drop (K + 1) := by
  obtain ⟨h1, h2⟩ := List.getElem?_eq_some_iff.1 hc
  rw [List.drop_eq_getElem_cons h1, h2]
section
variable {s : Bs} {e f : Nat} {c : UInt8}
theorem scan_end (h : s.length ≤ e) : scanN (f + 1) e (s.drop e) = [⟨0, e, [], 0, 0⟩] := by
  rw [List.drop_eq_nil_of_le h]
  rfl
abbrev isWs (c : UInt8) : Prop := c = 32 ∨ c = 9 ∨ c = 10 ∨ c = 13
theorem scan_ws (hc : s[e]? = some c) (h : isWs c) : scanN (f + 1) e (s.drop e) = scanN f (e + 1) (s.drop (e + 1)) := by
  rw [drop_at2 hc]
  conv => lhs; unfold scanN
  rw [if_pos h]
theorem scan_com (hc : s[e]? = some c) (h : ¬ isWs c) (h1 : c = 45) (h2 : s[e + 1]? = some 45) : scanN (f + 1) e (s.drop e) = scanN f (e + span (fun x => x != 10) (s.drop e)) (s.drop (e + span (fun x => x != 10) (s.drop e))) := by
  have hd : (s.drop (e + 1)).head? = some 45 := by rw [List.head?_drop]; exact h2
  rw [← List.drop_drop, drop_at2 hc]
  conv => lhs; unfold scanN
  rw [if_neg h, if_pos ⟨h1, hd⟩]
/-- a word -/
theorem scan_word (hc : s[e]? = some c) (h : ¬ isWs c) (h1 : ¬ (c = 45 ∧ s[e + 1]? = some 45)) (h2 : isLet c = true) : scanN (f + 1) e (s.drop e) = if span isWrd (s.drop e) ≤ 40 then ⟨keywordN ((s.drop e).take (span isWrd (s.drop e))), e, (s.drop e).take (span isWrd (s.drop e)), 0, 0⟩ :: scanN f (e + span isWrd (s.drop e)) (s.drop (e + span isWrd (s.drop e))) else [badTok e 14] := by
  have hd : ¬ (c = 45 ∧ (s.drop (e + 1)).head? = some 45) := by rw [List.head?_drop]; exact h1
  rw [← List.drop_drop, drop_at2 hc]
  conv => lhs; unfold scanN
  rw [if_neg h, if_neg hd, if_pos h2]
/-- a number -/
theorem scan_num (hc : s[e]? = some c) (h : ¬ isWs c) (h1 : ¬ (c = 45 ∧ s[e + 1]? = some 45)) (h2 : isLet c = false) (h3 : isDig c = true) : scanN (f + 1) e (s.drop e) = match parseN ((s.drop e).take (numLen (s.drop e))) with
      | some b => ⟨3, e, [], b, 0⟩ :: scanN f (e + numLen (s.drop e)) (s.drop (e + numLen (s.drop e)))
      | none => [badTok e 2] := by
  have hd : ¬ (c = 45 ∧ (s.drop (e + 1)).head? = some 45) := by rw [List.head?_drop]; exact h1
  rw [← List.drop_drop, drop_at2 hc]
  conv => lhs; unfold scanN
  rw [if_neg h, if_neg hd, if_neg (by rw [h2]; simp), if_pos h3]
  rfl
/-- a text in quotes: k bytes, the closing quote at e + k + 1 -/
theorem scan_str (hc : s[e]? = some c) (h : ¬ isWs c) (h1 : ¬ (c = 45 ∧ s[e + 1]? = some 45)) (h2 : isLet c = false) (h3 : isDig c = false) (h4 : c = 34) : scanN (f + 1) e (s.drop e) =
    if s[e + 1 + span (fun x => x != 34 && x != 10) (s.drop (e + 1))]? = some 34 ∧ span (fun x => x != 34 && x != 10) (s.drop (e + 1)) ≤ 40 then ⟨4, e, (s.drop (e + 1)).take (span (fun x => x != 34 && x != 10) (s.drop (e + 1))), 0, 0⟩ :: scanN f (e + span (fun x => x != 34 && x != 10) (s.drop (e + 1)) + 2) (s.drop (e + span (fun x => x != 34 && x != 10) (s.drop (e + 1)) + 2)) else [badTok e 14] := by
  have hd : ¬ (c = 45 ∧ (s.drop (e + 1)).head? = some 45) := by rw [List.head?_drop]; exact h1
  have e1 : s[e + 1 + span (fun x => x != 34 && x != 10) (s.drop (e + 1))]? = ((s.drop (e + 1)).drop (span (fun x => x != 34 && x != 10) (s.drop (e + 1)))).head? := by rw [List.drop_drop, List.head?_drop]
  have e2 : s.drop (e + span (fun x => x != 34 && x != 10) (s.drop (e + 1)) + 2) = (s.drop (e + 1)).drop (span (fun x => x != 34 && x != 10) (s.drop (e + 1)) + 1) := by rw [List.drop_drop]; congr 1; omega
  rw [e1, e2, drop_at2 hc]
  conv => lhs; unfold scanN
  rw [if_neg h, if_neg hd, if_neg (by rw [h2]; simp), if_neg (by rw [h3]; simp), if_pos h4]
/-- a sign: the twin of c -/
abbrev twinN (c : UInt8) : UInt8 := if c = 46 ∨ c = 47 then c else 61
abbrev isTwo (c : UInt8) : Prop := c = 46 ∨ c = 47 ∨ c = 61 ∨ c = 126 ∨ c = 60 ∨ c = 62
theorem scan_sign (hc : s[e]? = some c) (h : ¬ isWs c) (h1 : ¬ (c = 45 ∧ s[e + 1]? = some 45)) (h2 : isLet c = false) (h3 : isDig c = false) (h4 : ¬ c = 34) : scanN (f + 1) e (s.drop e) =
    if isTwo c ∧ s[e + 1]? = some (twinN c) then (if signN [c, twinN c] = 1 then [badTok e 13] else ⟨signN [c, twinN c], e, [], 0, 0⟩ :: scanN f (e + 2) (s.drop (e + 2)))
    else (if signN [c] = 1 ∨ 128 ≤ c.toNat then [badTok e 13] else ⟨signN [c], e, [], 0, 0⟩ :: scanN f (e + 1) (s.drop (e + 1))) := by
  have hd : ¬ (c = 45 ∧ (s.drop (e + 1)).head? = some 45) := by rw [List.head?_drop]; exact h1
  have e1 : s[e + 1]? = (s.drop (e + 1)).head? := by rw [List.head?_drop]
  have e2 : s.drop (e + 2) = (s.drop (e + 1)).drop 1 := by rw [List.drop_drop]
  rw [e1, e2, drop_at2 hc]
  conv => lhs; unfold scanN
  rw [if_neg h, if_neg hd, if_neg (by rw [h2]; simp), if_neg (by rw [h3]; simp), if_neg h4]
  dsimp only
  by_cases ht : isTwo c ∧ (s.drop (e + 1)).head? = some (twinN c)
  · have ht' : (c = 46 ∨ c = 47 ∨ c = 61 ∨ c = 126 ∨ c = 60 ∨ c = 62) ∧ (s.drop (e + 1)).head? = some (if c = 46 ∨ c = 47 then c else 61) := ht
    rw [if_pos ht, if_pos ht', if_pos ht']
    have hlt : ¬ 128 ≤ c.toNat := by
      rcases ht.1 with h | h | h | h | h | h <;> subst h <;> decide
    have ex : (signN [c, if c = 46 ∨ c = 47 then c else 61] = 1 ∨ 128 ≤ c.toNat) ↔ signN [c, twinN c] = 1 := ⟨fun z => z.elim id (fun y => absurd y hlt), .inl⟩
    by_cases hz : signN [c, twinN c] = 1
    · rw [if_pos (ex.2 hz), if_pos hz]
    · rw [if_neg fun z => hz (ex.1 z), if_neg hz]
      rfl
  · have ht' : ¬ ((c = 46 ∨ c = 47 ∨ c = 61 ∨ c = 126 ∨ c = 60 ∨ c = 62) ∧ (s.drop (e + 1)).head? = some (if c = 46 ∨ c = 47 then c else 61)) := ht
    rw [if_neg ht, if_neg ht', if_neg ht']
    rfl
end
end Go.Proofs.Qxb6500574aGreatDoor
