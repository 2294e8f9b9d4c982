/-
  mach.Mach: plain data, and how it lies in memory. No walk.
-/
import Derived.Test.Qxb6500575aGreatDoorProg
import Derived.Test.Qxb6500575aGreatDoorCk2
import Derived.Test.Qxb6500575aGreatDoorRegApp
namespace Go.Proofs.Qxb6500575aGreatDoor
open Go Go.RowKit
set_option linter.unusedVariables false
set_option linter.unusedSimpArgs false

/-- each block of S has one of the types ts -/
def Typed (w : World) (S : Nat → Prop) (ts : List TypeId) : Prop := ∀ k, S k → ∃ cs t, Has w k cs t ∧ t ∈ ts
theorem Typed.has {w : World} {S : Nat → Prop} {ts : List TypeId} (h : Typed w S ts) {k : Nat} {cs : Array Value} {t : TypeId} (hh : Has w k cs t) (hn : t ∉ ts) : ¬ S k := by
  intro hS
  obtain ⟨cs', t', h1, h2⟩ := h k hS
  have := hh.symm.trans h1
  simp at this
  exact hn (this.2 ▸ h2)
theorem Typed.owns {w : World} {S : Nat → Prop} {ts : List TypeId} (h : Typed w S ts) {v : Value} {e : TypeId} {size n : Nat} {xs : List Value} (ho : w.ownsRow 0 e size v n xs) (hn : e ∉ ts) : ∀ g, v.ownBlock = some g → ¬ S g := by
  intro g hg hS
  obtain ⟨cs', t', h1, h2⟩ := h g hS
  exact hn (owns_type ho hg h1 ▸ h2)
theorem Typed.apart {w : World} {S S' : Nat → Prop} {ts ts' : List TypeId} (h : Typed w S ts) (h' : Typed w S' ts') (hn : ∀ t ∈ ts, t ∉ ts') : ∀ k, S k → ¬ S' k := by
  intro k hS
  obtain ⟨cs, t, h1, h2⟩ := h k hS
  exact h'.has h1 (hn t h2)
theorem owns_typed {w : World} {v : Value} {e : TypeId} {size n : Nat} {xs : List Value} (ho : w.ownsRow 0 e size v n xs) {g : Nat} (hg : v.ownBlock = some g) : ∃ cs, Has w g cs e := by
  rcases ho.2 with ⟨h1, _⟩ | ⟨g', cap', cur, hv, hb, hcur, _⟩
  · rw [h1] at hg; cases hg
  · rw [hv] at hg
    simp [Value.ownBlock] at hg
    subst hg
    exact ⟨cur, hcur⟩

/-- the pages; none: a page of zeros -/
structure KD where
  pages : List (Option (List UInt8))
  max : Nat
structure KL where
  pa : Option Addr
  pc : Nat
  ps : List (Option Nat)
def ptrV (o : Option Nat) : Value := .pointer (o.map fun g => ⟨g, 0, none⟩)
abbrev KL.made (L : KL) : Int := (L.ps.countP Option.isSome : Nat)
structure KRep (w : World) (bk : Nat) (L : KL) (d : KD) : Prop where
  here : Has w bk #[.slice L.pa d.pages.length L.pc, .int .i64 d.max, .int .i64 L.made] 96
  row : w.ownsRow 0 223 1 (.slice L.pa d.pages.length L.pc) d.pages.length (L.ps.map ptrV)
  len : L.ps.length = d.pages.length
  nil : ∀ i : Nat, L.ps[i]? = some none → d.pages[i]? = some none
  page : ∀ (i g : Nat), L.ps[i]? = some (some g) → ∃ bs, d.pages[i]? = some (some bs) ∧ bs.length = 8 ∧ Has w g (byteCells bs).toArray 5
  inj : ∀ (i j g : Nat), L.ps[i]? = some (some g) → L.ps[j]? = some (some g) → i = j
  le : d.pages.length ≤ d.max
  max : d.max ≤ 4
def KS (bk : Nat) (L : KL) (k : Nat) : Prop := k = bk ∨ (Value.slice L.pa 0 0).ownBlock = some k ∨ ∃ i : Nat, L.ps[i]? = some (some k)
structure KStep (w w' : World) (bk : Nat) (L L' : KL) : Prop where
  fr : Fr (KS bk L) w w'
  sub : ∀ k, k < w.heap.size → KS bk L' k → KS bk L k
theorem KStep.refl (w : World) (bk : Nat) (L : KL) : KStep w w bk L L := ⟨Fr.refl _ _, fun _ _ h => h⟩
theorem KStep.trans {w w1 w2 : World} {bk : Nat} {L L1 L2 : KL} (h : KStep w w1 bk L L1) (h' : KStep w1 w2 bk L1 L2) : KStep w w2 bk L L2 :=
  ⟨h.fr.trans h'.fr h.sub, fun k hk hS => h.sub k hk (h'.sub k (Nat.lt_of_lt_of_le hk h.fr.size) hS)⟩
theorem KStep.fresh {w w1 : World} {bk : Nat} {L : KL} (h : Fr (fun _ => False) w w1) : KStep w w1 bk L L := ⟨h.weaken (fun _ _ h => h.elim), fun _ _ h => h⟩
theorem KStep.newer {w w1 w2 : World} {bk : Nat} {L L1 : KL} (h : KStep w w1 bk L L1) (hf : Fr (fun _ => False) w1 w2) : KStep w w2 bk L L1 := h.trans (KStep.fresh hf)

/-- the byte at place i -/
def KD.byte (d : KD) (i : Nat) : UInt8 := (((d.pages[i / 8]?).join).bind (·[i % 8]?)).getD 0
def KD.bytes (d : KD) (a n : Nat) : List UInt8 := (List.range n).map fun j => d.byte (a + j)

section
variable {w w2 : World} {bk : Nat} {L : KL} {d : KD}
theorem KRep.typed (h : KRep w bk L d) : Typed w (KS bk L) [96, 223, 5] := by
  rintro k (rfl | hk | ⟨i, hi⟩)
  · exact ⟨_, _, h.here, by simp⟩
  · obtain ⟨cs, hcs⟩ := owns_typed h.row (by rw [ownBlock_any]; exact hk)
    exact ⟨cs, _, hcs, by simp⟩
  · obtain ⟨bs, _, _, hh⟩ := h.page i k hi
    exact ⟨_, _, hh, by simp⟩
theorem KRep.fr (h : KRep w bk L d) {S : Nat → Prop} (hf : Fr S w w2) (hS : ∀ j, KS bk L j → ¬ S j) : KRep w2 bk L d :=
  { h with
    here := h.here.fr hf (hS _ (.inl rfl))
    row := owns_fr h.row hf (fun g hg => hS g (.inr (.inl (by rw [ownBlock_any]; exact hg))))
    page := fun i g hi => by
      obtain ⟨bs, h1, h2, h3⟩ := h.page i g hi
      exact ⟨bs, h1, h2, h3.fr hf (hS g (.inr (.inr ⟨i, hi⟩)))⟩ }
theorem KRep.fresh (h : KRep w bk L d) (hf : Fr (fun _ => False) w w2) : KRep w2 bk L d := h.fr hf (fun _ _ h => h)
/-- the page at place i: nil, or a block -/
theorem KRep.ptr (h : KRep w bk L d) {i : Nat} (hi : i < d.pages.length) : ∃ o, L.ps[i]? = some o ∧ ∃ g, L.pa = some ⟨g, 0, none⟩ ∧ w.cell? ⟨g, i, none⟩ = some (ptrV o) ∧ (∀ j, w.frozen? ⟨g, j, none⟩ = false) ∧ g < w.heap.size ∧ d.pages.length ≤ L.pc ∧ bk ≠ g := by
  have hl : i < L.ps.length := by rw [h.len]; exact hi
  obtain ⟨g, ha, hc⟩ := owns_some h.row (by omega)
  have ho := h.row
  rw [ha] at ho
  refine ⟨L.ps[i], List.getElem?_eq_getElem hl, g, ha, ?_, fun j => ho.frozenAt j, owns_lt ho g rfl, ?_, fun e => owns_ne ho h.here (by decide) (by rw [e]; rfl)⟩
  · rw [hc i (by omega), List.getElem?_map, List.getElem?_eq_getElem hl]; rfl
  · rcases owns_form h.row with ⟨h1, h2, _⟩ | ⟨_, _, h1⟩
    · omega
    · exact h1
/-- a block of bytes that is no page -/
theorem KRep.put (h : KRep w bk L d) {g : Nat} (hg : ¬ KS bk L g) (i : Nat) (v : Value) : KRep (w.setCell ⟨g, i, none⟩ v) bk L d :=
  h.fr (S := fun k => k = g) (Fr.setCell (S := fun k => k = g) (Fr.refl _ _) (p := ⟨g, i, none⟩) (.inl rfl) _) (fun j hj e => hg (e ▸ hj))
/-- one page is written -/
theorem KRep.write (h : KRep w bk L d) {i g : Nat} (hi : L.ps[i]? = some (some g)) (bs : List UInt8) (hb : bs.length = 8) {cs : Array Value} (hcs : cs = (byteCells bs).toArray) :
    KRep (w.setRow g cs) bk L { d with pages := d.pages.set i (some bs) } ∧ KStep w (w.setRow g cs) bk L L := by
  subst hcs
  have hF : Fr (fun k => k = g) w (w.setRow g (byteCells bs).toArray) := ⟨rfl, rfl, rfl, by simp [World.setRow], fun k _ hk => setRow_other w g k _ hk⟩
  obtain ⟨bs0, h1, h2, h3⟩ := h.page i g hi
  have hg : KS bk L g := .inr (.inr ⟨i, hi⟩)
  refine ⟨?_, ⟨hF.weaken (fun k _ e => e ▸ hg), fun _ _ h => h⟩⟩
  have hrow : ∀ g', (Value.slice L.pa d.pages.length L.pc).ownBlock = some g' → ¬ g' = g := fun g' hg' e => owns_ne h.row h3 (by decide) (e ▸ hg')
  refine { here := ?_, row := ?_, len := ?_, nil := ?_, page := ?_, inj := h.inj, le := by simpa using h.le, max := h.max }
  · have := h.here.fr hF (fun e => h.here.ne h3 (by decide) e)
    simpa using this
  · have := owns_fr h.row hF hrow
    simpa using this
  · simpa using h.len
  · intro j hj
    have hne : i ≠ j := fun e => by rw [e] at hi; rw [hi] at hj; cases hj
    rw [List.getElem?_set_ne hne]
    exact h.nil j hj
  · intro j g' hj
    by_cases e : i = j
    · subst e
      rw [hi] at hj
      simp at hj
      subst hj
      have hil : i < d.pages.length := by rw [← h.len]; exact (List.getElem?_eq_some_iff.1 hi).1
      refine ⟨bs, by rw [List.getElem?_set_self hil], hb, setRow_heap w g _ _ _ _ h3⟩
    · obtain ⟨b1, k1, k2, k3⟩ := h.page j g' hj
      refine ⟨b1, by rw [List.getElem?_set_ne e]; exact k1, k2, k3.fr hF (fun e' => e ?_)⟩
      subst e'
      exact h.inj i j _ hi hj
/-- a page is made -/
theorem KRep.make (h : KRep w bk L d) {i g : Nat} (hi : L.ps[i]? = some none) (hg : L.pa = some ⟨g, 0, none⟩) {b : Nat} (hb : Has w b (byteCells (List.replicate 8 0)).toArray 5) (hn : ¬ KS bk L b) :
    KRep ((w.setCell ⟨g, i, none⟩ (.pointer (some ⟨b, 0, none⟩))).setCell ⟨bk, 2, none⟩ (.int .i64 (L.made + 1))) bk { L with ps := L.ps.set i (some b) } { d with pages := d.pages.set i (some (List.replicate 8 0)) } ∧
    (∀ k, KS bk { L with ps := L.ps.set i (some b) } k → KS bk L k ∨ k = b) ∧
    Fr (KS bk L) w ((w.setCell ⟨g, i, none⟩ (.pointer (some ⟨b, 0, none⟩))).setCell ⟨bk, 2, none⟩ (.int .i64 (L.made + 1))) := by
  have hil : i < L.ps.length := (List.getElem?_eq_some_iff.1 hi).1
  have ho := h.row
  rw [hg] at ho
  have hgS : KS bk L g := .inr (.inl (by rw [hg]; rfl))
  have hbg : bk ≠ g := fun e => owns_ne ho h.here (by decide) (by rw [e]; rfl)
  have hcnt : (L.ps.set i (some b)).countP Option.isSome = L.ps.countP Option.isSome + 1 := by
    obtain ⟨l1, l2, hl, hlen⟩ : ∃ l1 l2, L.ps = l1 ++ none :: l2 ∧ l1.length = i := by
      refine ⟨L.ps.take i, L.ps.drop (i + 1), ?_, by simp; omega⟩
      have e9 : L.ps[i] = none := (List.getElem?_eq_some_iff.1 hi).2
      rw [← e9, ← List.drop_eq_getElem_cons hil, List.take_append_drop]
    rw [hl, List.set_append_right _ _ (by omega), hlen, Nat.sub_self]
    simp [List.countP_append, List.countP_cons]
    omega
  have hF : Fr (KS bk L) w ((w.setCell ⟨g, i, none⟩ (.pointer (some ⟨b, 0, none⟩))).setCell ⟨bk, 2, none⟩ (.int .i64 (L.made + 1))) :=
    Fr.setCell (S := KS bk L) (Fr.setCell (S := KS bk L) (Fr.refl _ _) (p := ⟨g, i, none⟩) (.inl hgS) _) (p := ⟨bk, 2, none⟩) (.inl (.inl rfl)) _
  refine ⟨?_, ?_, hF⟩
  · have hst := (ho.stored i (.pointer (some ⟨b, 0, none⟩))).1
    have hh : Has ((w.setCell ⟨g, i, none⟩ (.pointer (some ⟨b, 0, none⟩))).setCell ⟨bk, 2, none⟩ (.int .i64 (L.made + 1))) bk _ _ := (h.here.other (p := ⟨g, i, none⟩) hbg (.pointer (some ⟨b, 0, none⟩))).put 2 (.int .i64 (L.made + 1))
    refine { here := ?_, row := ?_, len := ?_, nil := ?_, page := ?_, inj := ?_, le := by simpa using h.le, max := h.max }
    · have e1 : KL.made { L with ps := L.ps.set i (some b) } = L.made + 1 := by simp only [KL.made, hcnt]; simp
      rw [e1]
      simpa using hh
    · have := owns_other hst (p := ⟨bk, 2, none⟩) (by simp [Value.ownBlock]; exact fun e => hbg e.symm) (.int .i64 (L.made + 1))
      simp only [hg, List.length_set, List.map_set]
      simpa [ptrV] using this
    · simpa using h.len
    · intro j hj
      by_cases e : i = j
      · subst e
        rw [List.getElem?_set_self hil] at hj; cases hj
      · rw [List.getElem?_set_ne e] at hj
        rw [List.getElem?_set_ne e]
        exact h.nil j hj
    · intro j g' hj
      by_cases e : i = j
      · subst e
        rw [List.getElem?_set_self hil] at hj
        simp at hj
        subst hj
        refine ⟨List.replicate 8 0, by rw [List.getElem?_set_self (by rw [← h.len]; exact hil)], by simp, ?_⟩
        exact hb.fr hF hn
      · rw [List.getElem?_set_ne e] at hj
        rw [List.getElem?_set_ne e]
        obtain ⟨b1, k1, k2, k3⟩ := h.page j g' hj
        refine ⟨b1, k1, k2, ?_⟩
        have n1 : g' ≠ g := fun e => owns_ne ho k3 (by decide) (by rw [e]; rfl)
        have n2 : g' ≠ bk := fun e => (h.here.ne k3 (by decide)) e.symm
        exact (k3.other (p := ⟨g, i, none⟩) n1 _).other (p := ⟨bk, 2, none⟩) n2 _
    · intro j j' g' hj hj'
      by_cases e : i = j
      · by_cases e' : i = j'
        · omega
        · subst e
          rw [List.getElem?_set_self hil] at hj
          rw [List.getElem?_set_ne e'] at hj'
          simp at hj
          subst hj
          exact absurd (.inr (.inr ⟨j', hj'⟩)) hn
      · rw [List.getElem?_set_ne e] at hj
        by_cases e' : i = j'
        · subst e'
          rw [List.getElem?_set_self hil] at hj'
          simp at hj'
          subst hj'
          exact absurd (.inr (.inr ⟨j, hj⟩)) hn
        · rw [List.getElem?_set_ne e'] at hj'
          exact h.inj j j' g' hj hj'
  · rintro k (rfl | hk | ⟨j, hj⟩)
    · exact .inl (.inl rfl)
    · exact .inl (.inr (.inl hk))
    · by_cases e : i = j
      · subst e
        simp only at hj
        rw [List.getElem?_set_self hil] at hj
        simp at hj
        exact .inr hj.symm
      · simp only at hj
        rw [List.getElem?_set_ne e] at hj
        exact .inl (.inr (.inr ⟨j, hj⟩))
/-- a run of bytes of one page -/
theorem KRep.bytes_nil (h : KRep w bk L d) {i a n : Nat} (hi : L.ps[i]? = some none) (ha : a / 8 = i) (hn : a % 8 + n ≤ 8) : d.bytes a n = List.replicate n 0 := by
  unfold KD.bytes
  apply List.ext_getElem (by simp)
  intro j h1 h2
  simp at h1
  simp only [List.getElem_map, List.getElem_range, List.getElem_replicate]
  unfold KD.byte
  have e1 : (a + j) / 8 = i := by omega
  rw [e1, h.nil i hi]
  rfl
theorem KD.bytes_page {i a n : Nat} {bs : List UInt8} (hp : d.pages[i]? = some (some bs)) (hl : bs.length = 8) (ha : a / 8 = i) (hn : a % 8 + n ≤ 8) : d.bytes a n = (bs.drop (a % 8)).take n := by
  unfold KD.bytes
  apply List.ext_getElem (by simp; omega)
  intro j h1 h2
  simp at h1
  simp only [List.getElem_map, List.getElem_range, List.getElem_take, List.getElem_drop]
  unfold KD.byte
  have e1 : (a + j) / 8 = i := by omega
  have e2 : (a + j) % 8 = a % 8 + j := by omega
  rw [e1, hp, e2]
  simp
  rw [List.getElem?_eq_getElem (by omega)]
  rfl
theorem KD.bytes_add (d : KD) (a n m : Nat) : d.bytes a (n + m) = d.bytes a n ++ d.bytes (a + n) m := by
  unfold KD.bytes
  rw [List.range_add, List.map_append, List.map_map]
  congr 1
  apply List.map_congr_left
  intro j _
  simp only [Function.comp]
  congr 1
  omega
theorem KD.bytes_len (d : KD) (a n : Nat) : (d.bytes a n).length = n := by simp [KD.bytes]
end
end Go.Proofs.Qxb6500575aGreatDoor
