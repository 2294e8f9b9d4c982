/-
  A REGION THAT DRAWS ITS ORDER: a head that only reads, then operations one behind the other (calls among them), then mere work on temporaries in whatever order, then a tail. No program.
-/
import Derived.Test.Qxb6500574aGreatDoorReg3
namespace Go.Proofs.Qxb6500574aGreatDoor
open Go Go.RowKit
set_option linter.unusedVariables false
set_option linter.unusedSimpArgs false
section
variable {P : Program} {ops : Array Oper} {Q : Exit → Act → World → Prop} {md : Region.Mode} {S S2 : World → Prop} {need need2 : Nat → Bool}

/-- each operation ahead of number m is waited for by a later one up to m; each behind m waits for one that is not ahead of m -/
def sinkB (md : Region.Mode) (ops : Array Oper) (m : Nat) : Bool :=
  ((List.range m).all fun i => (List.range (m + 1)).any fun j => decide (i < j) && Region.waitsFor md ops j i) && ((List.range ops.size).all fun t => decide (t ≤ m) || (List.range t).any fun j => decide (m ≤ j) && Region.waitsFor md ops t j)
theorem sinkB_blocks {m : Nat} (hs : sinkB md ops m = true) {listed : Array Bool} (hcl : ClosedL md ops listed) {i : Nat} (hi : i < m) (hun : listed.getD i true = false) : ∀ t, m ≤ t → t ∉ Region.ready md ops listed := by
  simp only [sinkB, Bool.and_eq_true] at hs
  obtain ⟨h1, h2⟩ := hs
  have unl : ∀ (k j : Nat), Region.waitsFor md ops j k = true → listed.getD k false = false → listed.getD j false = false := by
    intro k j hw hk
    obtain ⟨oj, hoj, e, he, hb, hon⟩ := Region.waitsFor_spec hw
    cases hl : listed.getD j false with
    | false => rfl
    | true =>
      have := hcl j oj hoj hl e he hb
      rw [hon, hk] at this
      cases this
  have rdy : ∀ (k t : Nat), Region.waitsFor md ops t k = true → listed.getD k false = false → t ∉ Region.ready md ops listed := by
    intro k t hw hk hr
    obtain ⟨ot, hot, e, he, hb, hon⟩ := Region.waitsFor_spec hw
    obtain ⟨_, o', ho', hall⟩ := mem_ready.1 hr
    obtain rfl := Option.some.inj (hot.symm.trans ho')
    have := hall e he hb
    rw [hon, hk] at this
    cases this
  have key : ∀ (d i : Nat), m - i = d → i < m → listed.getD i false = false → listed.getD m false = false ∧ m ∉ Region.ready md ops listed := by
    intro d
    induction d using Nat.strongRecOn with
    | _ d ih =>
      intro i hd hi hun
      have h3 := List.all_eq_true.1 h1 i (List.mem_range.2 hi)
      obtain ⟨j, hj, hj2⟩ := List.any_eq_true.1 h3
      simp only [Bool.and_eq_true, decide_eq_true_eq] at hj2
      have hjle : j ≤ m := by have := List.mem_range.1 hj; omega
      have hju := unl i j hj2.2 hun
      by_cases hjm : j = m
      · subst hjm
        exact ⟨hju, rdy i j hj2.2 hun⟩
      · exact ih (m - j) (by omega) j rfl (by omega) hju
  intro t ht hr
  obtain ⟨km, kr⟩ := key (m - i) i rfl hi (getD_both hun)
  obtain ⟨_, ot, hot, _⟩ := mem_ready.1 hr
  have htl : t < ops.size := (Array.getElem?_eq_some_iff.1 hot).1
  have up : ∀ d t, t = d → m ≤ t → t < ops.size → listed.getD t false = false := by
    intro d
    induction d using Nat.strongRecOn with
    | _ d ih =>
      intro t hd hmt htl
      by_cases htm : t = m
      · rw [htm]; exact km
      · have h4 := List.all_eq_true.1 h2 t (List.mem_range.2 htl)
        simp only [Bool.or_eq_true, decide_eq_true_eq] at h4
        rcases h4 with h4 | h4
        · omega
        · obtain ⟨j, hj, hj2⟩ := List.any_eq_true.1 h4
          simp only [Bool.and_eq_true, decide_eq_true_eq] at hj2
          have hjt := List.mem_range.1 hj
          exact unl j t hj2.2 (ih j (by omega) j rfl hj2.1 (by omega))
  by_cases htm : t = m
  · subst htm; exact kr hr
  · have h4 := List.all_eq_true.1 h2 t (List.mem_range.2 htl)
    simp only [Bool.or_eq_true, decide_eq_true_eq] at h4
    rcases h4 with h4 | h4
    · omega
    · obtain ⟨j, hj, hj2⟩ := List.any_eq_true.1 h4
      simp only [Bool.and_eq_true, decide_eq_true_eq] at hj2
      have hjt := List.mem_range.1 hj
      exact rdy j t hj2.2 (up j j rfl hj2.1 (by omega)) hr
theorem wpAnyM_headB {m : Nat} (hs : Region.noSelect ops = true) (hsk : sinkB md ops m = true) (hQ : ∀ c a t v w, Q (.panic c) (a.put (some t) v) w → Q (.panic c) a w) {w : World} (hS : S w) (g : Nat) {T : Act → Prop} :
    ∀ (ks : List Nat) (l : List Oper) (listed : Array Bool) (a : Act), (∀ k ∈ ks, k < m) → ClosedL md ops listed → ks.map (fun k => ops[k]?) = l.map some → headF md ops ks listed = true →
      (∀ a', T a' → wpAnyM P md ops Q S (fun j => decide (j < m)) g (listAll ks listed) a' w) → wpQuiet P ops S T l a → wpAnyM P md ops Q S (fun j => decide (j < m)) (ks.length + g) listed a w
  | [], [], _, a, _, _, _, _, hT, h => by simpa [listAll] using hT a h
  | [], _ :: _, _, _, _, _, hl, _, _, _ => by simp at hl
  | _ :: _, [], _, _, _, _, hl, _, _, _ => by simp at hl
  | k :: ks, o :: l, listed, a, hkm, hcl, hl, hB, hT, h => by
    simp only [List.map_cons, List.cons.injEq] at hl
    obtain ⟨h0, hl⟩ := hl
    simp only [headF, Bool.and_eq_true, h0, Option.map_some, Option.getD_some] at hB
    obtain ⟨⟨⟨hr, hf⟩, hk⟩, hB'⟩ := hB
    have hr' : k ∈ Region.ready md ops listed := by simpa using hr
    obtain ⟨v, hy, hK⟩ := yieldsIf_of_quiet (K := wpQuiet P ops S T l) hk h
    have hq : ∀ c a w, Q (.panic c) (a.put o.dst v) w → Q (.panic c) a w := by
      intro c a w hq
      cases hd : o.dst with
      | none => rw [hd] at hq; exact hq
      | some t => rw [hd] at hq; exact hQ c a t v w hq
    rw [show (k :: ks).length + g = (ks.length + g) + 1 by simp; omega]
    have rest := wpAnyM_headB hs hsk hQ hS g ks l (listed.setIfInBounds k true) (a.put o.dst v) (fun j hj => hkm j (by simp [hj])) (hcl.set hr') hl hB' hT hK
    refine wpAnyM_first h0 (Region.noSelect_spec hs) hq (fun _ => True) (fun _ _ h => h) (fun lst _ hc hun j hj => ?_) (ks.length + g) listed a w trivial hcl (Region.free_spec h0 hf) hr' hy hS rest
    rcases Nat.lt_or_ge j m with h' | h'
    · simpa using h'
    · exact absurd hj (sinkB_blocks hsk hc (hkm k (by simp)) hun j h')
/-- mere work on temporaries -/
theorem wpAnyM_headY (hs : Region.noSelect ops = true) (hQ : ∀ c a t v w, Q (.panic c) (a.put (some t) v) w → Q (.panic c) a w) {w : World} (g : Nat) {T : Act → Prop} :
    ∀ (ks : List Nat) (l : List Oper) (listed : Array Bool) (a : Act), ks.map (fun k => ops[k]?) = l.map some → headF md ops ks listed = true →
      (∀ a', T a' → wpAnyM P md ops Q S (fun _ => false) g (listAll ks listed) a' w) → wpQuiet P ops (fun _ => True) T l a → wpAnyM P md ops Q S (fun _ => false) (ks.length + g) listed a w
  | [], [], _, a, _, _, hT, h => by simpa [listAll] using hT a h
  | [], _ :: _, _, _, hl, _, _, _ => by simp at hl
  | _ :: _, [], _, _, hl, _, _, _ => by simp at hl
  | k :: ks, o :: l, listed, a, hl, hB, hT, h => by
    simp only [List.map_cons, List.cons.injEq] at hl
    obtain ⟨h0, hl⟩ := hl
    simp only [headF, Bool.and_eq_true, h0, Option.map_some, Option.getD_some] at hB
    obtain ⟨⟨⟨hr, hf⟩, hk⟩, hB'⟩ := hB
    have hr' : k ∈ Region.ready md ops listed := by simpa using hr
    obtain ⟨v, hy, hK⟩ := yieldsIf_of_quiet (K := wpQuiet P ops (fun _ => True) T l) hk h
    have hq : ∀ c a w, Q (.panic c) (a.put o.dst v) w → Q (.panic c) a w := by
      intro c a w hq
      cases hd : o.dst with
      | none => rw [hd] at hq; exact hq
      | some t => rw [hd] at hq; exact hQ c a t v w hq
    rw [show (k :: ks).length + g = (ks.length + g) + 1 by simp; omega]
    have rest := wpAnyM_headY hs hQ g ks l (listed.setIfInBounds k true) (a.put o.dst v) hl hB' hT hK
    exact wpAnyM_firstY h0 (Region.noSelect_spec hs) hq rfl (ks.length + g) listed a w (Region.free_spec h0 hf) hr' hy rest
/-- c operations one behind the other, then whatever follows -/
def chainC (md : Region.Mode) (ops : Array Oper) : Nat → Nat → Array Bool → Bool
  | 0, _, _ => true
  | fuel + 1, k, listed => (Region.ready md ops listed == [k]) && chainC md ops fuel (k + 1) (listed.setIfInBounds k true)
def chainL : Nat → Nat → Array Bool → Array Bool
  | 0, _, listed => listed
  | fuel + 1, k, listed => chainL fuel (k + 1) (listed.setIfInBounds k true)
theorem wpAnyM_seq (g : Nat) {K : Act → World → Prop} : ∀ (l : List Oper) (k : Nat) (listed : Array Bool) (a : Act) (w : World), (∀ j, k ≤ j → need j = false) → (∀ j, j < l.length → l[j]? = ops[k + j]?) → chainC md ops l.length k listed = true →
    (∀ a' w', K a' w' → wpAnyM P md ops Q S need g (chainL l.length k listed) a' w') → wpList P ops (Exit.then K Q) l a w → wpAnyM P md ops Q S need (l.length + g) listed a w
  | [], _, _, a, w, _, _, _, hK, h => by simpa [chainL] using hK a w h
  | o :: l, k, listed, a, w, hmk, hl, hB, hK, h => by
    have h0 : ops[k]? = some o := by simpa using (hl 0 (by simp)).symm
    simp only [List.length_cons, chainC, Bool.and_eq_true, beq_iff_eq] at hB
    rw [show (o :: l).length + g = (l.length + g) + 1 by simp; omega]
    refine ⟨fun h' => (by rw [hB.1] at h'; cases h'), fun i hi => ?_⟩
    rw [hB.1] at hi
    obtain rfl : i = k := by simpa using hi
    have key := fun a' w' => wpAnyM_seq g (K := K) l (i + 1) (listed.setIfInBounds i true) a' w' (fun j hj => hmk j (by omega)) (fun j hj => by have := hl (j + 1) (by simp; omega); simpa [Nat.add_assoc, Nat.add_comm 1 j] using this) hB.2 hK
    have hni : ∀ w' : World, need i = true → S w' := fun _ hn => by rw [hmk i (Nat.le_refl _)] at hn; cases hn
    unfold wpOp
    simp only [h0]
    unfold wpList at h
    split
    · rename_i hw
      rw [if_pos hw] at h
      rcases h with h | ⟨h1, h2⟩
      · exact .inl (Oper.wp_mono (fun a' w' h' => ⟨hni w', key a' w' h'⟩) (wp_then h))
      · exact .inr ⟨h1, h2⟩
    · rename_i hw
      rw [if_neg hw] at h
      exact ⟨hni _, key _ _ h⟩
/-- behind the head nothing is asked of the world -/
theorem wpAnyM_none {m : Nat} (hn : ∀ j, m ≤ j → need j = false) : ∀ (fuel : Nat) (listed : Array Bool) (a : Act) (w : World), (∀ j, j < m → listed.getD j true = true) → wpAnyM P md ops Q S2 (fun _ => false) fuel listed a w → wpAnyM P md ops Q S need fuel listed a w
  | 0, _, _, _, _, h => h
  | fuel + 1, listed, a, w, hl, h => by
    refine ⟨h.1, fun i hi => wpOp_mono (fun a' w' h' => ⟨fun hni => ?_, wpAnyM_none hn fuel _ a' w' (fun j hj => ?_) h'.2⟩) (h.2 i hi)⟩
    · have h1 := (mem_ready.1 hi).1
      rcases Nat.lt_or_ge i m with h2 | h2
      · rw [hl i h2] at h1; cases h1
      · rw [hn i h2] at hni; cases hni
    · by_cases e : i = j
      · subst e
        by_cases hs : i < listed.size
        · simp [hs]
        · simp [Array.getElem?_eq_none (Nat.le_of_not_lt hs)]
      · rw [getD_set_ne true e]
        exact hl j hj
def regY (ops : Array Oper) (n c t : Nat) : Bool :=
  Region.noSelect ops && decide (n + c ≤ t ∧ t ≤ ops.size) && sinkB .any ops n && headF .any ops (List.range n) (Array.replicate ops.size false) && chainC .any ops c n (listAll (List.range n) (Array.replicate ops.size false)) &&
  headF .any ops ((List.range t).drop (n + c)) (chainL c n (listAll (List.range n) (Array.replicate ops.size false))) && chainFrom .any ops (ops.size - t) t (listAll ((List.range t).drop (n + c)) (chainL c n (listAll (List.range n) (Array.replicate ops.size false)))) && (List.range n).all (fun j => (listAll (List.range n) (Array.replicate ops.size false)).getD j true)
/-- n operations that only read, c one behind the other, mere work on temporaries up to number t, the tail -/
theorem wp_region_Y {id : Nat} {a : Act} {w : World} {l : List Oper} (n c t : Nat) (hm : P.follows .mixedOrders = true) (hB : regY l.toArray n c t = true)
    (hQ : ∀ c a t v w, Q (.panic c) (a.put (some t) v) w → Q (.panic c) a w)
    (h : wpQuiet P l.toArray (fun x => x = w.drew) (fun a' => wpList P l.toArray (Exit.then (fun a2 w2 => wpQuiet P l.toArray (fun _ => True) (fun a3 => wpList P l.toArray Q (l.drop t) a3 w2) ((l.take t).drop (n + c)) a2) Q) ((l.drop n).take c) a' w.drew) (l.take n) a) : (Code.region id l.toArray true).wp P Q a w := by
  simp only [regY, Bool.and_eq_true, decide_eq_true_eq] at hB
  obtain ⟨⟨⟨⟨⟨⟨⟨hs, hnt, htl⟩, hsk⟩, hh1⟩, hch⟩, hh2⟩, hc⟩, hal⟩ := hB
  have htl' : t ≤ l.length := by simpa using htl
  have hcl0 : ClosedL .any l.toArray (Array.replicate l.toArray.size false) := fun j oj _ hl => by rw [getD_replicate_false] at hl; cases hl
  refine wp_region_any hm (wpAny_of_M (S := fun x => x = w.drew) (need := fun j => decide (j < n)) _ _ _ _ ?_)
  have e1 : (List.range n).map (fun k => l.toArray[k]?) = (l.take n).map some := by
    apply List.ext_getElem?
    intro i
    by_cases hi : i < n
    · have : i < l.length := by omega
      simp [hi, this]
    · simp [hi]; omega
  have e2 : ((List.range t).drop (n + c)).map (fun k => l.toArray[k]?) = ((l.take t).drop (n + c)).map some := by
    apply List.ext_getElem?
    intro i
    simp only [List.getElem?_map, List.getElem?_drop]
    by_cases hi : n + c + i < t
    · have : n + c + i < l.length := by omega
      simp [hi, this]
    · rw [List.getElem?_eq_none (by simp; omega), List.getElem?_eq_none (by simp; omega)]
      rfl
  have hlc : ((l.drop n).take c).length = c := by simp; omega
  have hly : ((List.range t).drop (n + c)).length = t - (n + c) := by simp
  have hld : (l.drop t).length = l.toArray.size - t := by simp
  have main := wpAnyM_headB (P := P) (ops := l.toArray) (Q := Q) (md := .any) (S := fun x => x = w.drew) (m := n) hs hsk hQ (w := w.drew) rfl (c + ((t - (n + c)) + (l.toArray.size - t))) (T := fun a' => wpList P l.toArray (Exit.then (fun a2 w2 => wpQuiet P l.toArray (fun _ => True) (fun a3 => wpList P l.toArray Q (l.drop t) a3 w2) ((l.take t).drop (n + c)) a2) Q) ((l.drop n).take c) a' w.drew) (List.range n) (l.take n) (Array.replicate l.toArray.size false) a (fun k hk => List.mem_range.1 hk) hcl0 e1 hh1 ?_ h
  · simp only [List.length_range] at main
    rw [show n + (c + ((t - (n + c)) + (l.toArray.size - t))) = l.toArray.size by omega] at main
    exact main
  · intro a' ha'
    refine wpAnyM_none (m := n) (S2 := fun _ => True) (fun j hj => by simp; omega) _ _ _ _ (fun j hj => List.all_eq_true.1 hal j (List.mem_range.2 hj)) ?_
    have sq := wpAnyM_seq (P := P) (ops := l.toArray) (Q := Q) (md := .any) (S := fun _ => True) (need := fun _ => false) ((t - (n + c)) + (l.toArray.size - t)) (K := fun a2 w2 => wpQuiet P l.toArray (fun _ => True) (fun a3 => wpList P l.toArray Q (l.drop t) a3 w2) ((l.take t).drop (n + c)) a2) ((l.drop n).take c) n (listAll (List.range n) (Array.replicate l.toArray.size false)) a' w.drew (fun _ _ => rfl) (fun j hj => by
      rw [hlc] at hj
      simp [List.getElem?_take, hj]) (by rw [hlc]; exact hch) (fun a2 w2 hk => ?_) ha'
    · rw [hlc] at sq
      exact sq
    · rw [hlc]
      have y := wpAnyM_headY (P := P) (ops := l.toArray) (Q := Q) (md := .any) (S := fun _ => True) hs hQ (w := w2) (l.toArray.size - t) (T := fun a3 => wpList P l.toArray Q (l.drop t) a3 w2) ((List.range t).drop (n + c)) ((l.take t).drop (n + c)) (chainL c n (listAll (List.range n) (Array.replicate l.toArray.size false))) a2 e2 hh2 (fun a3 ha3 => ?_) hk
      · rw [hly] at y
        exact y
      · have tl := wpAnyM_tail (P := P) (ops := l.toArray) (Q := Q) (S := fun _ => True) (md := .any) (need := fun _ => false) (l.drop t) t (listAll ((List.range t).drop (n + c)) (chainL c n (listAll (List.range n) (Array.replicate l.toArray.size false)))) a3 w2 (fun _ _ => rfl) (fun j => by simp) (by rw [hld]; exact hc) ha3
        rw [hld] at tl
        exact tl
end
end Go.Proofs.Qxb6500574aGreatDoor
