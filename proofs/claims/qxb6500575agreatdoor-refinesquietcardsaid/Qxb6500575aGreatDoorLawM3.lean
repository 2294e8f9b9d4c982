/-
  THE PLAIN LAW, model and real: blocks open, turn and close. No program.
-/
import Derived.Test.Qxb6500575aGreatDoorLawM2
namespace Go.Proofs.Qxb6500575aGreatDoor
open Go Go.RowKit
set_option linter.unusedVariables false
set_option linter.unusedSimpArgs false

section
variable {src : List Ins} {i : Nat} {s : Ck} {m : Mk}
/-- a new innermost block; behind instruction i (a block, a loop, an if) -/
theorem Rel.open (h : Rel src i s m) {c : Ins} (hc : src[i]? = some c) (ho : c.op = 1 ∨ c.op = 2 ∨ c.op = 3) (b : Blk) (t : Ctl) (hbt : b.fg = t.blk) (hat : t.at_ = i) (ht4 : t.op ≠ 4) (hcs : m.cs ≠ [])
    (h2 : t.op = 2 → b.head = posM src i) (hn2 : t.op ≠ 2 → b.head = -1) (halt : ∀ p, b.alt = some p → t.op = 3 ∧ PR s.code m.code p (posM src (altT src i).toNat)) (h3 : t.op = 3 → b.alt.isSome = true) (hw : b.wait = []) :
    Rel src (i + 1) { s with opn := b :: s.opn } { m with cs := t :: m.cs } := by
  have hlt : i < src.length := (List.getElem?_eq_some_iff.1 hc).1
  have hcc : src[i] = c := (List.getElem?_eq_some_iff.1 hc).2
  have adv : ∀ (e : Int) (k : Nat), endsR (src.drop i) i e k = endsR (src.drop (i + 1)) ((i + 1 : Nat) : Int) e (k + 1) := by
    intro e k
    rw [List.drop_eq_getElem_cons hlt, hcc]
    conv => lhs; unfold endsR
    rw [if_pos ho]
    push_cast
    rfl
  refine ⟨?_, h.len, fun k x y hx hy => ?_, fun k y hy => ?_, fun p => ?_⟩
  · have h1 := h.ck
    have a1 := fg_st h1
    have a2 := fg_opn h1
    simp only [Ck.fg, Mk.ck, List.map_cons]
    rw [a1, a2, hbt]
  · cases k with
    | zero =>
      simp at hx hy
      subst hx; subst hy
      refine ⟨fun e => ⟨by rw [h2 e, hat]; rfl, by rw [hat]; omega⟩, hn2, fun _ => ⟨-1, by rw [hat]; rfl, fun _ => rfl⟩, fun p hp => ⟨(halt p hp).1, by rw [hat]; omega, by rw [hat]; exact (halt p hp).2⟩, h3, fun p hp => by rw [hw] at hp; cases hp⟩
    | succ k =>
      simp at hx hy
      have g := h.blk k x y hx hy
      refine ⟨g.loop, g.nol, fun h0 => ?_, g.alt, g.alt3, g.wait⟩
      obtain ⟨e, e1, e2⟩ := g.ends h0
      exact ⟨e, by rw [e1, adv], e2⟩
  · cases k with
    | zero =>
      simp at hy
      subst hy
      refine ⟨fun e => ?_, fun _ => by rw [hat]; omega⟩
      simp at e
      exact absurd e hcs
    | succ k =>
      simp at hy ⊢
      exact h.base k y hy
  · rcases h.eq p with g | ⟨k, x, y, h1, h2, g⟩
    · exact .inl g
    · refine .inr ⟨k + 1, x, y, by simpa using h1, by simpa using h2, ?_⟩
      rcases g with g | g | g
      · exact .inl g
      · exact .inr (.inl g)
      · obtain ⟨g1, g2, e, g3, g4⟩ := g
        exact .inr (.inr ⟨g1, g2, e, by rw [g3, adv], g4⟩)

/-- past an instruction that opens and closes nothing -/
theorem Rel.advance (h : Rel src i s m) {c : Ins} (hc : src[i]? = some c) (ho : ¬ (c.op = 1 ∨ c.op = 2 ∨ c.op = 3)) (h4 : ¬ c.op = 4) (h5 : ¬ c.op = 5) : Rel src (i + 1) s m := by
  have hlt : i < src.length := (List.getElem?_eq_some_iff.1 hc).1
  have hcc : src[i] = c := (List.getElem?_eq_some_iff.1 hc).2
  have adv : ∀ (e : Int) (k : Nat), endsR (src.drop i) i e k = endsR (src.drop (i + 1)) ((i + 1 : Nat) : Int) e k := by
    intro e k
    rw [List.drop_eq_getElem_cons hlt, hcc]
    conv => lhs; unfold endsR
    rw [if_neg ho, if_neg h4, if_neg h5]
    push_cast
    rfl
  refine ⟨h.ck, h.len, fun k x y hx hy => ?_, h.base, fun p => ?_⟩
  · have g := h.blk k x y hx hy
    refine ⟨g.loop, g.nol, fun h0 => ?_, g.alt, g.alt3, g.wait⟩
    obtain ⟨e, e1, e2⟩ := g.ends h0
    exact ⟨e, by rw [e1, adv], e2⟩
  · rcases h.eq p with g | ⟨k, x, y, h1, h2, g⟩
    · exact .inl g
    · refine .inr ⟨k, x, y, h1, h2, ?_⟩
      rcases g with g | g | g
      · exact .inl g
      · exact .inr (.inl g)
      · obtain ⟨g1, g2, e, g3, g4⟩ := g
        exact .inr (.inr ⟨g1, g2, e, by rw [g3, adv], g4⟩)

/-- an else -/
theorem Rel.turn (h : Rel src i s m) {c : Ins} (hc : src[i]? = some c) (ho : c.op = 4) {b : Blk} {r : List Blk} {t : Ctl} {q : List Ctl} (hb : s.opn = b :: r) (ht : m.cs = t :: q) {al : Nat} (ha : b.alt = some al) (hpos : posM src (i + 1) = s.code.length + 1) :
    Rel src (i + 1) { s with code := patchAt (s.code ++ [⟨4, -1, 0, 0⟩]) al ((s.code.length : Int) + 1), opn := { b with wait := b.wait ++ [s.code.length], alt := none, dead := false } :: r }
      { m with cs := { t with op := 4, dead := false } :: q, code := m.code ++ [⟨4, posM src (endsM src t.at_.toNat).2.toNat, 0, 0⟩] } := by
  have hlt : i < src.length := (List.getElem?_eq_some_iff.1 hc).1
  have hcc : src[i] = c := (List.getElem?_eq_some_iff.1 hc).2
  have adv : ∀ (e : Int) (k : Nat), endsR (src.drop i) i e k = endsR (src.drop (i + 1)) ((i + 1 : Nat) : Int) (if k = 0 then (i : Int) else e) k := by
    intro e k
    rw [List.drop_eq_getElem_cons hlt, hcc]
    conv => lhs; unfold endsR
    rw [if_neg (by omega), if_pos ho]
    push_cast
    rfl
  have g0 := h.blk 0 b t (by rw [hb]; rfl) (by rw [ht]; rfl)
  obtain ⟨a1, a2, a3⟩ := g0.alt al ha
  have hal := a3.lt
  have hET : endT src t.at_ = (endsM src t.at_.toNat).2 := by unfold endT; rw [if_pos a2]
  obtain ⟨x1, hx1⟩ : ∃ x1, x1 = patchAt (s.code ++ [⟨4, -1, 0, 0⟩]) al ((s.code.length : Int) + 1) := ⟨_, rfl⟩
  obtain ⟨y1, hy1⟩ : ∃ y1, y1 = m.code ++ [⟨4, posM src (endsM src t.at_.toNat).2.toNat, 0, 0⟩] := ⟨_, rfl⟩
  have prm : ∀ {p : Nat} {tt : Int}, PR s.code m.code p tt → PR x1 y1 p tt := by
    intro p tt hp
    rw [hx1, hy1]
    exact (hp.app _ _).patch _ _
  rw [← hx1, ← hy1]
  refine ⟨?_, by rw [hx1, hy1]; simp [patchAt_len, h.len], fun k x y hx hy => ?_, fun k y hy => ?_, fun p => ?_⟩
  · have e0 := h.ck
    have a1 := fg_st e0
    obtain ⟨t', q', ht', e1, e2⟩ := fg_cons e0 hb
    rw [ht] at ht'
    obtain ⟨rfl, rfl⟩ := List.cons.inj ht'
    simp only [Ck.fg, Mk.ck, List.map_cons]
    rw [a1, e2]
    have g1 : b.res = resOf t.bt := congrArg Blk.res e1
    have g2 : b.carry = t.label := congrArg Blk.carry e1
    have g3 : b.height = t.height := congrArg Blk.height e1
    congr 1
    congr 1
    simp only [Blk.fg, Ctl.blk, g1, g2, g3]
    congr 1
    unfold Ctl.label
    rw [if_neg (by omega), if_neg (by show ¬ (4 : Int) = 2; decide)]
  · cases k with
    | zero =>
      simp at hx hy
      subst hx; subst hy
      have hn := g0.nol (by omega)
      obtain ⟨e, e1, e2⟩ := g0.ends a2
      refine ⟨(fun e => by cases e), fun _ => hn, fun _ => ⟨i, by rw [e1, adv, if_pos rfl], fun e => absurd rfl e⟩, (fun p hp => by cases hp), (fun e => by cases e), fun p hp => ?_⟩
      rcases List.mem_append.1 hp with hp | hp
      · exact prm (g0.wait p hp)
      · simp at hp
        subst hp
        refine ⟨⟨4, -1, 0, 0⟩, ?_, ?_⟩
        · rw [hx1, patchAt_get]
          simp
          intro e; omega
        · rw [hy1, h.len, hET]
          simp
    | succ k =>
      simp at hx hy
      have g := h.blk (k + 1) x y (by rw [hb]; simpa using hx) (by rw [ht]; simpa using hy)
      refine ⟨g.loop, g.nol, fun h0 => ?_, fun p hp => ⟨(g.alt p hp).1, (g.alt p hp).2.1, prm (g.alt p hp).2.2⟩, g.alt3, fun p hp => prm (g.wait p hp)⟩
      obtain ⟨e, e1, e2⟩ := g.ends h0
      exact ⟨e, by rw [e1, adv, if_neg (by omega)], e2⟩
  · have hb0 := h.base k
    rw [ht] at hb0
    cases k with
    | zero =>
      simp at hy
      subst hy
      exact hb0 t rfl
    | succ k =>
      simp at hy
      exact hb0 y (by simpa using hy)
  · by_cases hpa : p = al
    · subst hpa
      obtain ⟨e, e1, e2⟩ := g0.ends a2
      obtain ⟨a, p1, p2⟩ := a3
      refine .inr ⟨0, _, _, rfl, rfl, .inr (.inr ⟨rfl, a2, i, by rw [e1, adv, if_pos rfl], a, ?_, ?_⟩)⟩
      · rw [hx1, patchAt_get, List.getElem?_append_left hal, p1, hpos]
        simp
      · rw [hy1, List.getElem?_append_left (by rw [← h.len]; exact hal)]
        exact p2
    · by_cases hp : p < s.code.length
      · have hxp : x1[p]? = s.code[p]? := by
          rw [hx1, patchAt_get, List.getElem?_append_left hp]
          simp [hpa]
        have hyp : y1[p]? = m.code[p]? := by rw [hy1, List.getElem?_append_left (by rw [← h.len]; exact hp)]
        rcases h.eq p with g | ⟨k, x, y, h1, h2, g⟩
        · left
          rw [hxp, hyp]; exact g
        · right
          rw [hb] at h1
          rw [ht] at h2
          cases k with
          | zero =>
            simp at h1 h2
            subst h1; subst h2
            refine ⟨0, _, _, rfl, rfl, ?_⟩
            rcases g with g | g | g
            · exact .inl (List.mem_append_left _ g)
            · rw [ha] at g; exact absurd (Option.some.inj g).symm hpa
            · exact absurd g.1 (by omega)
          | succ k =>
            refine ⟨k + 1, x, y, by simpa using h1, by simpa using h2, ?_⟩
            rcases g with g | g | g
            · exact .inl g
            · exact .inr (.inl g)
            · obtain ⟨g1, g2, e, g3, a, g4, g5⟩ := g
              refine .inr (.inr ⟨g1, g2, e, by rw [g3, adv, if_neg (by omega)], a, by show x1[p]? = _; rw [hxp]; exact g4, by show y1[p]? = _; rw [hyp]; exact g5⟩)
      · by_cases hp2 : p = s.code.length
        · subst hp2
          exact .inr ⟨0, _, _, rfl, rfl, .inl (List.mem_append_right _ (by simp))⟩
        · left
          show x1[p]? = y1[p]?
          rw [List.getElem?_eq_none (by rw [hx1]; simp [patchAt_len]; omega), List.getElem?_eq_none (by rw [hy1]; simp [← h.len]; omega)]

/-- the codes behind an end -/
theorem Rel.closed (h : Rel src i s m) {c : Ins} (hc : src[i]? = some c) (ho : c.op = 5) {b : Blk} {r : List Blk} {t : Ctl} {q : List Ctl} (hb : s.opn = b :: r) (ht : m.cs = t :: q) (hpos : posM src i = s.code.length) (hlast : q = [] → i + 1 = src.length) :
    ∀ p, (patchAll s.code s.code.length (b.wait ++ b.alt.toList))[p]? = m.code[p]? ∨ ∃ k x y, r[k]? = some x ∧ q[k]? = some y ∧ Owner src i (k + 1) (patchAll s.code s.code.length (b.wait ++ b.alt.toList)) m.code x y p := by
  have hlt : i < src.length := (List.getElem?_eq_some_iff.1 hc).1
  have hcc : src[i] = c := (List.getElem?_eq_some_iff.1 hc).2
  have g0 := h.blk 0 b t (by rw [hb]; rfl) (by rw [ht]; rfl)
  have hend : ∀ e : Int, endsR (src.drop i) i e 0 = (e, (i : Int)) := by
    intro e
    rw [List.drop_eq_getElem_cons hlt, hcc]
    unfold endsR
    rw [if_neg (by omega), if_neg (by omega), if_pos ho, if_pos rfl]
  have hT : (endT src t.at_).toNat = i := by
    unfold endT
    by_cases h0 : 0 ≤ t.at_
    · rw [if_pos h0]
      obtain ⟨e, e1, _⟩ := g0.ends h0
      rw [e1, hend]
      simp
    · rw [if_neg h0]
      have hq : q = [] := by
        by_cases hq : q = []
        · exact hq
        · have := (h.base 0 t (by rw [ht]; rfl)).2 (by rw [ht]; have := List.length_pos_iff.2 hq; simp; exact this)
          exact absurd this h0
      have := hlast hq
      omega
  have inW : ∀ p, p ∈ b.wait ++ b.alt.toList → (patchAll s.code s.code.length (b.wait ++ b.alt.toList))[p]? = m.code[p]? := by
    intro p hp
    rw [patchAll_get]
    have key : PR s.code m.code p s.code.length := by
      rcases List.mem_append.1 hp with h1 | h1
      · have := g0.wait p h1
        rw [hT, hpos] at this
        exact this
      · have ha : b.alt = some p := by simpa using h1
        obtain ⟨a1, a2, a3⟩ := g0.alt p ha
        obtain ⟨e, e1, e2⟩ := g0.ends a2
        have he := e2 (by omega)
        subst he
        have : altT src t.at_.toNat = i := by
          unfold altT
          rw [e1, hend]
          rfl
        rw [this] at a3
        simp at a3
        rw [hpos] at a3
        exact a3
    obtain ⟨a, k1, k2⟩ := key
    rw [k1, k2]
    simp [hp]
  intro p
  by_cases hp : p ∈ b.wait ++ b.alt.toList
  · exact .inl (inW p hp)
  · have hxp : (patchAll s.code s.code.length (b.wait ++ b.alt.toList))[p]? = s.code[p]? := by
      rw [patchAll_get]
      cases s.code[p]? <;> simp [hp]
    rcases h.eq p with g | ⟨k, x, y, h1, h2, g⟩
    · left; rw [hxp]; exact g
    · rw [hb] at h1
      rw [ht] at h2
      cases k with
      | zero =>
        simp at h1 h2
        subst h1; subst h2
        rcases g with g | g | g
        · exact absurd (List.mem_append_left _ g) hp
        · exact absurd (List.mem_append_right _ (by rw [g]; simp)) hp
        · left
          obtain ⟨g1, g2, e, g3, a, g4, g5⟩ := g
          rw [hxp, g4, g5]
          have : altT src t.at_.toNat = (e : Int) + 1 := by
            unfold altT
            rw [g3, hend]
            simp
          rw [this]
          simp
      | succ k =>
        refine .inr ⟨k, x, y, by simpa using h1, by simpa using h2, ?_⟩
        rcases g with g | g | g
        · exact .inl g
        · exact .inr (.inl g)
        · obtain ⟨g1, g2, e, g3, a, g4, g5⟩ := g
          exact .inr (.inr ⟨g1, g2, e, g3, a, by rw [hxp]; exact g4, g5⟩)

/-- an inner end -/
theorem Rel.leave (h : Rel src i s m) {c : Ins} (hc : src[i]? = some c) (ho : c.op = 5) {b : Blk} {r : List Blk} {t : Ctl} {q : List Ctl} (hb : s.opn = b :: r) (ht : m.cs = t :: q) (hpos : posM src i = s.code.length) (hq : q ≠ []) :
    Rel src (i + 1) { s with opn := r, code := patchAll s.code s.code.length (b.wait ++ b.alt.toList) } { m with cs := q } := by
  have hlt : i < src.length := (List.getElem?_eq_some_iff.1 hc).1
  have hcc : src[i] = c := (List.getElem?_eq_some_iff.1 hc).2
  have adv : ∀ (e : Int) (k : Nat), endsR (src.drop i) i e (k + 1) = endsR (src.drop (i + 1)) ((i + 1 : Nat) : Int) e k := by
    intro e k
    rw [List.drop_eq_getElem_cons hlt, hcc]
    conv => lhs; unfold endsR
    rw [if_neg (by omega), if_neg (by omega), if_pos ho, if_neg (by omega)]
    push_cast
    rfl
  have hcl := h.closed hc ho hb ht hpos (fun e => absurd e hq)
  refine ⟨?_, by simp [patchAll_len, h.len], fun k x y hx hy => ?_, fun k y hy => ?_, fun p => ?_⟩
  · have e0 := h.ck
    have a1 := fg_st e0
    obtain ⟨t', q', ht', e1, e2⟩ := fg_cons e0 hb
    rw [ht] at ht'
    obtain ⟨rfl, rfl⟩ := List.cons.inj ht'
    simp only [Ck.fg, Mk.ck]
    rw [a1, e2]
  · have g := h.blk (k + 1) x y (by rw [hb]; simpa using hx) (by rw [ht]; simpa using hy)
    refine ⟨g.loop, g.nol, fun h0 => ?_, fun p hp => ⟨(g.alt p hp).1, (g.alt p hp).2.1, (g.alt p hp).2.2.patchAll _ _⟩, g.alt3, fun p hp => (g.wait p hp).patchAll _ _⟩
    obtain ⟨e, e1, e2⟩ := g.ends h0
    exact ⟨e, by rw [e1, adv], e2⟩
  · have hb0 := h.base (k + 1) y (by rw [ht]; simpa using hy)
    rw [ht] at hb0
    simpa using hb0
  · rcases hcl p with g | ⟨k, x, y, h1, h2, g⟩
    · exact .inl g
    · refine .inr ⟨k, x, y, h1, h2, ?_⟩
      rcases g with g | g | g
      · exact .inl g
      · exact .inr (.inl g)
      · obtain ⟨g1, g2, e, g3, g4⟩ := g
        exact .inr (.inr ⟨g1, g2, e, by rw [g3, adv], g4⟩)
end
end Go.Proofs.Qxb6500575aGreatDoor
