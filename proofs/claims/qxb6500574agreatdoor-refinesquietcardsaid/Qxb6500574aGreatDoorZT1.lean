/-
  moon: THE TABLES OF THE MODEL: a list of pairs in the order of first insertion. Plain; no memory, no walk.
-/
import Derived.Test.Qxb6500574aGreatDoorVLawC
import Derived.Test.Qxb6500574aGreatDoorZM44
namespace Go.Proofs.Qxb6500574aGreatDoor
set_option linter.unusedVariables false
abbrev PrL := List (Vl × Vl)
def normM (k : Vl) : Vl := if k.t = 2 ∧ k.n = 9223372036854775808 then ⟨k.t, 0, k.s⟩ else k
def findM (l : PrL) (k : Vl) : Option Nat := l.findIdx? fun e => e.1.same (normM k)
def pr00 : Vl × Vl := (nilV, nilV)
def getM (l : PrL) (k : Vl) : Vl := match findM l k with
  | none => nilV
  | some p => (l.getD p pr00).2
def putM (l : PrL) (k v : Vl) : Nat × PrL :=
  if !wellV k || !wellV v then (4, l)
  else if k.t = 0 then (5, l)
  else if k.t = 2 ∧ isNan k.n then (6, l)
  else match findM l k with
    | some p => (0, l.set p ((l.getD p pr00).1, v))
    | none => if v.t = 0 then (0, l) else if 32 ≤ l.length then (8, l) else (0, l ++ [(normM k, v)])
def nxtM (l : PrL) (p : Nat) : Vl × Vl := ((l.drop p).find? fun e => decide (e.2.t ≠ 0)).getD pr00
def nextM (l : PrL) (k : Vl) : Option (Vl × Vl) :=
  if !wellV k then none
  else if k.t = 0 then some (nxtM l 0)
  else match findM l k with
    | none => none
    | some p => some (nxtM l (p + 1))
/-- from n on, at most j more rounds; K n: the bits of n + 1 -/
def lenG (l : PrL) (K : Nat → Nat) : Nat → Nat → Nat
  | 0, n => n
  | j + 1, n => match findM l (numV (K n)) with
    | none => n
    | some p => if (l.getD p pr00).2.t = 0 then n else lenG l K j (n + 1)
def keyI (n : Nat) : Nat := fromIntN ((n : Int) + 1)
def lenM (l : PrL) : Nat := lenG l keyI 33 0
/-- all that holds of a table -/
structure TTi (t : TabD) : Prop where
  f : TFit t
  c : TCk t
  n : TN t
  u : (t.order.map fun e => e.1).Nodup
theorem TTi.nil : TTi tab0 := ⟨⟨by simp [tab0], by simp [tab0], by simp [tab0], by simp [tab0], by simp [tab0], by simp [tab0], by simp [tab0], by simp [tab0], by simp [tab0], by simp [tab0]⟩, TCk.nil, TN.nil, by simp [tab0]⟩
theorem vsame_iff {a b : Vl} : a.same b = true ↔ a = b := by
  obtain ⟨a1, a2, a3⟩ := a
  obtain ⟨b1, b2, b3⟩ := b
  unfold Vl.same
  simp
  constructor
  · rintro ⟨⟨rfl, rfl⟩, rfl⟩; exact ⟨rfl, rfl, rfl⟩
  · rintro ⟨rfl, rfl, rfl⟩; exact ⟨⟨rfl, rfl⟩, rfl⟩
theorem nil_t {v : Vl} (h : wellV v = true) : isNilV v = decide (v.t = 0) := by
  have : isNilV v = true ↔ v.t = 0 := by
    unfold isNilV
    rw [vsame_iff]
    constructor
    · intro e; rw [e]; rfl
    · intro e
      obtain ⟨a, b, c⟩ := v
      have e : a = 0 := e
      subst e
      unfold wellV at h
      simp at h
      unfold nilV
      by_cases hc : c = []
      · simp [hc] at h
        rw [hc, h]
      · simp [hc] at h
  rw [Bool.eq_iff_iff, decide_eq_true_iff]
  exact this
theorem toInt_zero {x : Nat} (hx : x < 18446744073709551616) : toIntN x = some 0 ↔ x = 0 ∨ x = 9223372036854775808 := by
  constructor
  · intro h
    by_cases hz : x % 9223372036854775808 = 0
    · omega
    · have := ord_eq_bits (nearest_lt 0) hx (toIntN_ord h).1 hz
      have e : fromIntN 0 = 0 := by decide +kernel
      rw [e] at this
      omega
  · rintro (h | h) <;> subst h <;> decide +kernel
theorem one_norm {k : Vl} (hw : wellV k = true) (hb : k.t = 2 → k.n < 18446744073709551616) : (oneV k).1 = normM k := by
  unfold oneV normM
  by_cases h2 : k.t = 2
  · rw [if_neg (fun h => h h2)]
    have z := toInt_zero (hb h2)
    cases hq : toIntN k.n with
    | none =>
      rw [hq] at z
      have : k.n ≠ 9223372036854775808 := fun e => by have := z.2 (.inr e); cases this
      rw [if_neg (fun h => this h.2)]
    | some i =>
      dsimp only
      rw [hq] at z
      by_cases h0 : i = 0
      · subst h0
        rw [if_pos rfl]
        rcases z.1 rfl with e | e
        · rw [if_neg (fun h => by rw [e] at h; exact absurd h.2 (by decide))]
          obtain ⟨a, b, c⟩ := k
          have e : b = 0 := e
          have h2 : a = 2 := h2
          subst e h2
          rfl
        · rw [if_pos ⟨h2, e⟩, h2]
      · have : k.n ≠ 9223372036854775808 := fun e => by have := z.2 (.inr e); cases this; exact h0 rfl
        rw [if_neg h0, if_neg (fun h => this h.2)]
  · rw [if_pos h2, if_neg (fun h => h2 h.1)]
theorem norm_well {k : Vl} (hw : wellV k = true) : wellV (normM k) = true := by
  unfold normM
  split
  · rename_i h
    have hk := num_is hw h.1
    rw [hk]; rfl
  · exact hw
theorem norm_norm (k : Vl) : normM (normM k) = normM k := by
  by_cases h : k.t = 2 ∧ k.n = 9223372036854775808
  · have e : normM k = ⟨k.t, 0, k.s⟩ := by unfold normM; rw [if_pos h]
    rw [e]
    unfold normM
    rw [if_neg (fun z => by have z2 : (0 : Nat) = 9223372036854775808 := z.2; cases z2)]
  · have e : normM k = k := by unfold normM; rw [if_neg h]
    rw [e, e]
theorem norm_t (k : Vl) : (normM k).t = k.t := by unfold normM; split <;> rfl
theorem norm_b {k : Vl} (hb : k.t = 2 → k.n < 18446744073709551616) : (normM k).t = 2 → (normM k).n < 18446744073709551616 := by
  intro h
  rw [norm_t] at h
  unfold normM
  split
  · show 0 < _; decide
  · exact hb h
/-- what the index finds bears the key -/
theorem TTi.key {t : TabD} (T : TTi t) {k : Vl} (hw : wellV k = true) (hb : k.t = 2 → k.n < 18446744073709551616) {p : Nat} (h : t.find (oneV k).1 (oneV k).2 = some p) : ∃ x, t.order[p]? = some x ∧ x.1 = normM k := by
  have M := T.c.mid
  rw [← one_norm hw hb]
  have hw1 := one_well hw
  have hi := oneV_i k
  unfold TabD.find at h
  by_cases ha : 1 ≤ (oneV k).2 ∧ (oneV k).2 ≤ t.arr.length
  · rw [if_pos ha] at h
    obtain ⟨x, x1, x2⟩ := M.pa _ _ h
    refine ⟨x, x1, ?_⟩
    rw [x2, show (((((oneV k).2.toNat - 1 : Nat)) : Int) + 1) = (oneV k).2 by omega]
    have h2 : k.t = 2 ∧ toIntN k.n = some (oneV k).2 ∧ (oneV k).1 = k := by
      revert ha
      unfold oneV
      split
      · intro ha; omega
      · rename_i h2
        split
        · intro ha; dsimp only at ha; omega
        · rename_i i hti
          split
          · intro ha; dsimp only at ha; omega
          · intro ha; exact ⟨Decidable.not_not.1 h2, hti, rfl⟩
    obtain ⟨h2, h3, h4⟩ := h2
    rw [h4]
    have e := num_is hw h2
    have al := T.f.al
    have ie := int_key (hb h2) (i := (oneV k).2.toNat) (by omega) (by omega) (by rw [h3, Int.toNat_of_nonneg (by omega)])
    rw [Int.toNat_of_nonneg (by omega)] at ie
    exact (congrArg numV ie.symm).trans e.symm
  rw [if_neg ha] at h
  by_cases h2 : (oneV k).1.t = 2
  · rw [if_pos h2] at h
    unfold look at h
    cases hf : t.nums.find? (fun e => e.1 == (oneV k).1.n) with
    | none => rw [hf] at h; cases h
    | some e =>
      rw [hf] at h
      cases h
      obtain ⟨x, x1, x2⟩ := M.pn e (List.mem_of_find?_eq_some hf)
      refine ⟨x, x1, ?_⟩
      have := List.find?_some hf
      have : e.1 = (oneV k).1.n := by simpa using this
      rw [x2, this]
      exact (num_is hw1 h2).symm
  rw [if_neg h2] at h
  by_cases h3 : (oneV k).1.t = 3
  · rw [if_pos h3] at h
    unfold look at h
    cases hf : t.strs.find? (fun e => e.1 == (oneV k).1.s) with
    | none => rw [hf] at h; cases h
    | some e =>
      rw [hf] at h
      cases h
      obtain ⟨x, x1, x2⟩ := M.ps e (List.mem_of_find?_eq_some hf)
      refine ⟨x, x1, ?_⟩
      have := List.find?_some hf
      have : e.1 = (oneV k).1.s := by simpa using this
      rw [x2, this]
      exact (str_is hw1 h3).symm
  rw [if_neg h3] at h
  unfold look at h
  cases hf : t.refs.find? (fun e => e.1 == packV (oneV k).1) with
  | none => rw [hf] at h; cases h
  | some e =>
    rw [hf] at h
    cases h
    obtain ⟨⟨x, x1, x2⟩, _, u1, _⟩ := M.pr e (List.mem_of_find?_eq_some hf)
    refine ⟨x, x1, ?_⟩
    have := List.find?_some hf
    have : e.1 = packV (oneV k).1 := by simpa using this
    rw [this] at x2 u1
    by_cases h0 : (oneV k).1.t = 0
    · exfalso
      have hz : (oneV k).1 = nilV := by
        have := nil_t hw1
        rw [decide_eq_true h0] at this
        exact vsame_iff.1 this
      rw [hz] at u1
      exact u1 (by decide +kernel)
    · rw [x2, (pack_back hw1 h2 h3 h0).1]
theorem nodup_at {l : PrL} (h : (l.map fun e => e.1).Nodup) {p q : Nat} {x y : Vl × Vl} (hp : l[p]? = some x) (hq : l[q]? = some y) (e : x.1 = y.1) : p = q := by
  obtain ⟨hp1, hp2⟩ := List.getElem?_eq_some_iff.1 hp
  obtain ⟨hq1, hq2⟩ := List.getElem?_eq_some_iff.1 hq
  have hg := List.pairwise_iff_getElem.1 h
  have h3 : ∀ (i j : Nat) (hi : i < l.length) (hj : j < l.length), i < j → (l[i]).1 ≠ (l[j]).1 := fun i j hi hj hij => by
    have := hg i j (by simpa using hi) (by simpa using hj) hij
    simpa using this
  rcases Nat.lt_trichotomy p q with hlt | heq | hgt
  · exact absurd (by rw [hp2, hq2]; exact e) (h3 p q hp1 hq1 hlt)
  · exact heq
  · exact absurd (by rw [hp2, hq2]; exact e.symm) (h3 q p hq1 hp1 hgt)
theorem findM_some {l : PrL} {k : Vl} {p : Nat} (h : findM l k = some p) : ∃ x, l[p]? = some x ∧ x.1 = normM k := by
  unfold findM at h
  obtain ⟨h1, h2, h3⟩ := List.findIdx?_eq_some_iff_getElem.1 h
  exact ⟨l[p], List.getElem?_eq_getElem h1, vsame_iff.1 h2⟩
theorem findM_none {l : PrL} {k : Vl} (h : findM l k = none) : ∀ x ∈ l, x.1 ≠ normM k := by
  unfold findM at h
  intro x hx e
  have := List.findIdx?_eq_none_iff.1 h x hx
  rw [vsame_iff.2 e] at this
  cases this
theorem TTi.find {t : TabD} (T : TTi t) {k : Vl} (hw : wellV k = true) (hb : k.t = 2 → k.n < 18446744073709551616) : t.find (oneV k).1 (oneV k).2 = findM t.order k := by
  cases h1 : findM t.order k with
  | none =>
    cases h2 : t.find (oneV k).1 (oneV k).2 with
    | none => rfl
    | some p =>
      exfalso
      obtain ⟨x, x1, x2⟩ := T.key hw hb h2
      exact findM_none h1 x (List.mem_of_getElem? x1) x2
  | some q =>
    obtain ⟨y, y1, y2⟩ := findM_some h1
    cases h2 : t.find (oneV k).1 (oneV k).2 with
    | none =>
      exfalso
      have := (T.n.kx y (List.mem_of_getElem? y1)).2
      rw [y2, ← one_norm hw hb, oneV_one k] at this
      exact this h2
    | some p =>
      obtain ⟨x, x1, x2⟩ := T.key hw hb h2
      rw [nodup_at T.u x1 y1 (x2.trans y2.symm)]
theorem TTi.get {t : TabD} (T : TTi t) {k : Vl} (hw : wellV k = true) (hb : k.t = 2 → k.n < 18446744073709551616) : t.get k = getM t.order k := by
  unfold TabD.get getM
  dsimp only
  rw [T.find hw hb]
  rfl
theorem find_congr {α : Type} {p q : α → Bool} : ∀ {l : List α}, (∀ x ∈ l, p x = q x) → l.find? p = l.find? q
  | [], _ => rfl
  | a :: l, h => by
    rw [List.find?_cons, List.find?_cons, h a (List.mem_cons_self ..), find_congr (fun x hx => h x (List.mem_cons_of_mem _ hx))]
theorem TTi.nxt {t : TabD} (T : TTi t) (p : Nat) : t.nextP p = nxtM t.order p := by
  unfold TabD.nextP nxtM pr00
  congr 1
  apply find_congr
  intro x hx
  have := (T.c.mid.wk x (List.mem_of_mem_drop hx)).2.1
  rw [nil_t this]
  by_cases h : x.2.t = 0 <;> simp [h]
theorem TTi.next {t : TabD} (T : TTi t) {k : Vl} (hb : k.t = 2 → k.n < 18446744073709551616) : t.next k = nextM t.order k := by
  unfold TabD.next nextM
  cases hw : wellV k with
  | false => rfl
  | true =>
    simp only [Bool.not_true, Bool.false_eq_true, if_false]
    rw [T.nxt 0, T.find hw hb]
    by_cases h0 : k.t = 0
    · rw [if_pos h0, if_pos h0]
    · rw [if_neg h0, if_neg h0]
      cases findM t.order k with
      | none => rfl
      | some p => exact congrArg some (T.nxt (p + 1))
theorem put_order {t : TabD} (T : TTi t) {k v : Vl} (hb : k.t = 2 → k.n < 18446744073709551616) : ((t.put k v).1, (t.put k v).2.order) = putM t.order k v := by
  unfold TabD.put putM
  cases hw : wellV k with
  | false => rfl
  | true =>
  cases hv : wellV v with
  | false => rfl
  | true =>
  simp only [Bool.not_true, Bool.or_self, Bool.false_eq_true, if_false]
  by_cases h0 : k.t = 0
  · rw [if_pos h0, if_pos h0]
  rw [if_neg h0, if_neg h0]
  by_cases hn : k.t = 2 ∧ isNan k.n = true
  · rw [if_pos hn, if_pos hn]
  rw [if_neg hn, if_neg hn]
  rw [T.find hw hb, nil_t hv]
  cases findM t.order k with
  | some p => rfl
  | none =>
    dsimp only
    by_cases hz : v.t = 0
    · rw [if_pos (decide_eq_true hz), if_pos hz]
    rw [if_neg (by simpa using hz), if_neg hz]
    by_cases h32 : t.order.length ≥ 32
    · rw [if_pos h32, if_pos h32]
    rw [if_neg h32, if_neg (show ¬ 32 ≤ t.order.length by omega), one_norm hw hb]
    split
    · rename_i hi
      unfold TabD.index
      dsimp only
      split
      · rfl
      · split <;> rfl
    · rename_i hi
      unfold TabD.migrate
      dsimp only
      split
      · rfl
      · rw [(mig_order _ _ _ _).1]
theorem TTi.put {t : TabD} (T : TTi t) (k v : Vl) (hb : k.t = 2 → k.n < 18446744073709551616) : TTi (t.put k v).2 := by
  refine ⟨(T.f.put k v hb).1, T.c.put T.f k v hb, T.n.put k v, ?_⟩
  have e : (t.put k v).2.order = (putM t.order k v).2 := congrArg Prod.snd (put_order T (v := v) hb)
  rw [e]
  unfold putM
  split
  · exact T.u
  split
  · exact T.u
  split
  · exact T.u
  split
  · rename_i p hp
    have : (t.order.set p ((t.order.getD p pr00).1, v)).map (fun e => e.1) = t.order.map (fun e => e.1) := by
      obtain ⟨x, x1, x2⟩ := findM_some hp
      rw [List.map_set]
      apply List.ext_getElem? 
      intro i
      by_cases hi : p = i
      · subst hi
        have hl := (List.getElem?_eq_some_iff.1 x1).1
        rw [List.getElem?_set_self (by simpa using hl), List.getElem?_map, x1, List.getD_eq_getElem?_getD, x1]
        rfl
      · rw [List.getElem?_set_ne hi]
    rw [this]
    exact T.u
  · rename_i hp
    split
    · exact T.u
    · split
      · exact T.u
      · rw [List.map_append, List.nodup_append]
        refine ⟨T.u, by simp, ?_⟩
        intro a ha b hb' e
        simp only [List.map_cons, List.map_nil, List.mem_singleton] at hb'
        obtain ⟨x, hx, hx2⟩ := List.mem_map.1 ha
        exact findM_none hp x hx (by rw [hx2, e, hb'])
end Go.Proofs.Qxb6500574aGreatDoor
