/-
  THE PLAIN LAW, model and real: the flat codes. No program.
-/
import Derived.Test.Qxb6500575aGreatDoorLawM1
namespace Go.Proofs.Qxb6500575aGreatDoor
open Go Go.RowKit
set_option linter.unusedVariables false
set_option linter.unusedSimpArgs false

/-- place p: alike but for the target, which is t in the model -/
def PR (x y : List Flat) (p : Nat) (t : Int) : Prop := ∃ a : Flat, x[p]? = some a ∧ y[p]? = some { a with imm := t }
theorem PR.app {x y : List Flat} {p : Nat} {t : Int} (h : PR x y p t) (u v : List Flat) : PR (x ++ u) (y ++ v) p t := by
  obtain ⟨a, h1, h2⟩ := h
  exact ⟨a, by rw [List.getElem?_append_left (List.getElem?_eq_some_iff.1 h1).1]; exact h1, by rw [List.getElem?_append_left (List.getElem?_eq_some_iff.1 h2).1]; exact h2⟩
theorem PR.patch {x y : List Flat} {p : Nat} {t : Int} (h : PR x y p t) (q : Nat) (t' : Int) : PR (patchAt x q t') y p t := by
  obtain ⟨a, h1, h2⟩ := h
  refine ⟨if p = q then { a with imm := t' } else a, by rw [patchAt_get, h1]; rfl, ?_⟩
  rw [h2]
  split <;> rfl
theorem PR.patchAll {x y : List Flat} {p : Nat} {t : Int} (h : PR x y p t) (qs : List Nat) (t' : Int) : PR (patchAll x t' qs) y p t := by
  obtain ⟨a, h1, h2⟩ := h
  refine ⟨if p ∈ qs then { a with imm := t' } else a, by rw [patchAll_get, h1]; rfl, ?_⟩
  rw [h2]
  split <;> rfl
theorem PR.lt {x y : List Flat} {p : Nat} {t : Int} (h : PR x y p t) : p < x.length := by
  obtain ⟨a, h1, _⟩ := h
  exact (List.getElem?_eq_some_iff.1 h1).1

/-- one open block, real and model, k others inside it, ahead of instruction i -/
structure BR (src : List Ins) (i k : Nat) (x y : List Flat) (b : Blk) (c : Ctl) : Prop where
  loop : c.op = 2 → b.head = posM src c.at_.toNat ∧ 0 ≤ c.at_
  nol : c.op ≠ 2 → b.head = -1
  ends : 0 ≤ c.at_ → ∃ e : Int, endsM src c.at_.toNat = endsR (src.drop i) i e k ∧ (c.op ≠ 4 → e = -1)
  alt : ∀ p, b.alt = some p → c.op = 3 ∧ 0 ≤ c.at_ ∧ PR x y p (posM src (altT src c.at_.toNat).toNat)
  alt3 : c.op = 3 → b.alt.isSome = true
  wait : ∀ p ∈ b.wait, PR x y p (posM src (endT src c.at_).toNat)
/-- the if's own place, in its else arm -/
def Third (src : List Ins) (i k : Nat) (x y : List Flat) (c : Ctl) (p : Nat) : Prop :=
  c.op = 4 ∧ 0 ≤ c.at_ ∧ ∃ e : Nat, endsM src c.at_.toNat = endsR (src.drop i) i e k ∧ ∃ a : Flat, x[p]? = some { a with imm := posM src (e + 1) } ∧ y[p]? = some { a with imm := posM src (altT src c.at_.toNat).toNat }
def Owner (src : List Ins) (i k : Nat) (x y : List Flat) (b : Blk) (c : Ctl) (p : Nat) : Prop := p ∈ b.wait ∨ b.alt = some p ∨ Third src i k x y c p
structure Rel (src : List Ins) (i : Nat) (s : Ck) (m : Mk) : Prop where
  ck : s.fg = m.ck
  len : s.code.length = m.code.length
  blk : ∀ (k : Nat) b c, s.opn[k]? = some b → m.cs[k]? = some c → BR src i k s.code m.code b c
  base : ∀ (k : Nat) c, m.cs[k]? = some c → (k + 1 = m.cs.length → c.at_ = -1) ∧ (k + 1 < m.cs.length → 0 ≤ c.at_)
  eq : ∀ p, s.code[p]? = m.code[p]? ∨ ∃ k b c, s.opn[k]? = some b ∧ m.cs[k]? = some c ∧ Owner src i k s.code m.code b c p

section
variable {src : List Ins} {i : Nat} {s : Ck} {m : Mk}
theorem Rel.hd (h : Rel src i s m) {k : Nat} {b : Blk} {c : Ctl} (hb : s.opn[k]? = some b) (hc : m.cs[k]? = some c) : b.res = resOf c.bt ∧ b.carry = c.label ∧ b.height = c.height ∧ b.dead = c.dead := by
  have e := fg_both h.ck hb hc
  exact ⟨congrArg Blk.res e, congrArg Blk.carry e, congrArg Blk.height e, congrArg Blk.dead e⟩
theorem Rel.opt (h : Rel src i s m) {k : Nat} {b : Blk} (hb : s.opn[k]? = some b) : ∃ c, m.cs[k]? = some c := by
  have hl : k < m.cs.length := by rw [← fg_len h.ck]; exact (List.getElem?_eq_some_iff.1 hb).1
  exact ⟨_, List.getElem?_eq_getElem hl⟩

/-- the same flat code but for the rest -/
theorem BR.app {k : Nat} {x y : List Flat} {b : Blk} {c : Ctl} (h : BR src i k x y b c) (u v : List Flat) : BR src i k (x ++ u) (y ++ v) b c :=
  ⟨h.loop, h.nol, h.ends, fun p hp => ⟨(h.alt p hp).1, (h.alt p hp).2.1, (h.alt p hp).2.2.app u v⟩, h.alt3, fun p hp => (h.wait p hp).app u v⟩
theorem Third.app {k : Nat} {x y : List Flat} {c : Ctl} {p : Nat} (h : Third src i k x y c p) (u v : List Flat) : Third src i k (x ++ u) (y ++ v) c p := by
  obtain ⟨h1, h2, e, h3, a, h4, h5⟩ := h
  exact ⟨h1, h2, e, h3, a, by rw [List.getElem?_append_left (List.getElem?_eq_some_iff.1 h4).1]; exact h4, by rw [List.getElem?_append_left (List.getElem?_eq_some_iff.1 h5).1]; exact h5⟩
theorem Owner.app {k : Nat} {x y : List Flat} {b : Blk} {c : Ctl} {p : Nat} (h : Owner src i k x y b c p) (u v : List Flat) : Owner src i k (x ++ u) (y ++ v) b c p := by
  rcases h with h | h | h
  · exact .inl h
  · exact .inr (.inl h)
  · exact .inr (.inr (h.app u v))
/-- the same cell laid on both sides -/
theorem eq_app {x y : List Flat} (hl : x.length = y.length) (u : List Flat) {p : Nat} (h : x[p]? = y[p]?) : (x ++ u)[p]? = (y ++ u)[p]? := by
  by_cases hp : p < x.length
  · rw [List.getElem?_append_left hp, List.getElem?_append_left (by omega)]; exact h
  · rw [List.getElem?_append_right (by omega), List.getElem?_append_right (by omega), hl]

/-- the blocks but for what they share (height, results, dead) -/
def Blk.own (b : Blk) : Int × Option Nat × List Nat := (b.head, b.alt, b.wait)
def Ctl.own (c : Ctl) : Int × Int := (c.op, c.at_)
theorem Rel.congr (h : Rel src i s m) {s' : Ck} {m' : Mk} (hck : s'.fg = m'.ck) (hc : s'.code = s.code) (hm : m'.code = m.code) (ho : s'.opn.map Blk.own = s.opn.map Blk.own) (hcs : m'.cs.map Ctl.own = m.cs.map Ctl.own) : Rel src i s' m' := by
  have ob : ∀ (k : Nat) b', s'.opn[k]? = some b' → ∃ b, s.opn[k]? = some b ∧ b'.own = b.own := by
    intro k b' hb
    have := congrArg (fun l => l[k]?) ho
    simp only [List.getElem?_map, hb] at this
    cases hs : s.opn[k]? with
    | none => rw [hs] at this; cases this
    | some b => rw [hs] at this; exact ⟨b, rfl, by simpa using this⟩
  have ob2 : ∀ (k : Nat) b, s.opn[k]? = some b → ∃ b', s'.opn[k]? = some b' ∧ b'.own = b.own := by
    intro k b hb
    have := congrArg (fun l => l[k]?) ho
    simp only [List.getElem?_map, hb] at this
    cases hs : s'.opn[k]? with
    | none => rw [hs] at this; cases this
    | some b => rw [hs] at this; exact ⟨b, rfl, by simpa using this⟩
  have oc : ∀ (k : Nat) c', m'.cs[k]? = some c' → ∃ c, m.cs[k]? = some c ∧ c'.own = c.own := by
    intro k b' hb
    have := congrArg (fun l => l[k]?) hcs
    simp only [List.getElem?_map, hb] at this
    cases hs : m.cs[k]? with
    | none => rw [hs] at this; cases this
    | some b => rw [hs] at this; exact ⟨b, rfl, by simpa using this⟩
  have oc2 : ∀ (k : Nat) c, m.cs[k]? = some c → ∃ c', m'.cs[k]? = some c' ∧ c'.own = c.own := by
    intro k b hb
    have := congrArg (fun l => l[k]?) hcs
    simp only [List.getElem?_map, hb] at this
    cases hs : m'.cs[k]? with
    | none => rw [hs] at this; cases this
    | some b => rw [hs] at this; exact ⟨b, rfl, by simpa using this⟩
  have hcl : m'.cs.length = m.cs.length := by simpa using congrArg List.length hcs
  refine ⟨hck, by rw [hc, hm]; exact h.len, fun k b' c' hb hc' => ?_, fun k c' hc' => ?_, fun p => ?_⟩
  · obtain ⟨b, h1, e1⟩ := ob k b' hb
    obtain ⟨c, h2, e2⟩ := oc k c' hc'
    have g := h.blk k b c h1 h2
    simp only [Blk.own, Ctl.own, Prod.mk.injEq] at e1 e2
    rw [hc, hm]
    refine ⟨?_, ?_, ?_, ?_, ?_, ?_⟩
    · rw [e2.1, e2.2, e1.1]; exact g.loop
    · rw [e2.1, e1.1]; exact g.nol
    · rw [e2.1, e2.2]; exact g.ends
    · rw [e2.1, e2.2, e1.2.1]; exact g.alt
    · rw [e2.1, e1.2.1]; exact g.alt3
    · rw [e2.2, e1.2.2]; exact g.wait
  · obtain ⟨c, h2, e2⟩ := oc k c' hc'
    simp only [Ctl.own, Prod.mk.injEq] at e2
    rw [hcl, e2.2]
    exact h.base k c h2
  · rw [hc, hm]
    rcases h.eq p with g | ⟨k, b, c, h1, h2, g⟩
    · exact .inl g
    · obtain ⟨b', k1, e1⟩ := ob2 k b h1
      obtain ⟨c', k2, e2⟩ := oc2 k c h2
      simp only [Blk.own, Ctl.own, Prod.mk.injEq] at e1 e2
      refine .inr ⟨k, b', c', k1, k2, ?_⟩
      unfold Owner Third at g ⊢
      rw [e1.2.1, e1.2.2, e2.1, e2.2]
      exact g
theorem Rel.emit (h : Rel src i s m) (u : List Flat) : Rel src i { s with code := s.code ++ u } { m with code := m.code ++ u } :=
  ⟨h.ck, by simp [h.len], fun k b c hb hc => (h.blk k b c hb hc).app u u, h.base, fun p => by
    rcases h.eq p with g | ⟨k, b, c, h1, h2, g⟩
    · exact .inl (eq_app h.len u g)
    · exact .inr ⟨k, b, c, h1, h2, g.app u u⟩⟩

/-- a jump to the l-th label outward -/
theorem Rel.jump (h : Rel src i s m) (op : Int) (l : Nat) (hl : l < s.opn.length) :
    Rel src i (s.jump op l).1 { m with code := m.code ++ [{ m.jump src l with op := op }] } ∧ (s.jump op l).2 = m.label l := by
  have hb : s.opn[l]? = some s.opn[l] := List.getElem?_eq_getElem hl
  obtain ⟨c, hc⟩ := h.opt hb
  obtain ⟨b, hbe⟩ : ∃ b, b = s.opn[l] := ⟨_, rfl⟩
  rw [← hbe] at hb
  have g := h.blk l b c hb hc
  obtain ⟨e1, e2, e3, e4⟩ := h.hd hb hc
  have hjl : m.jump src l = c.jump src := by unfold Mk.jump; rw [hc]
  have hll : m.label l = c.label := by unfold Mk.label; rw [hc]
  have hj : s.jump op l = ({ s with code := s.code ++ [{ op := op, imm := b.head, keep := b.carry.length, cut := b.height }], opn := if b.head < 0 then s.opn.set l { b with wait := b.wait ++ [s.code.length] } else s.opn }, b.carry) := by
    unfold Ck.jump; rw [hb]
  rw [hj, hjl, hll]
  refine ⟨?_, e2⟩
  by_cases h2 : c.op = 2
  · obtain ⟨k1, k2⟩ := g.loop h2
    have : ¬ b.head < 0 := by rw [k1]; omega
    rw [if_neg this]
    have ej : ({ op := op, imm := b.head, keep := b.carry.length, cut := b.height } : Flat) = { c.jump src with op := op } := by
      unfold Ctl.jump
      rw [k1, e2, e3, if_pos h2]
    rw [ej]
    exact h.emit _
  · have k1 := g.nol h2
    have : b.head < 0 := by rw [k1]; omega
    rw [if_pos this]
    have ej : ({ c.jump src with op := op } : Flat) = { op := op, imm := posM src (endT src c.at_).toNat, keep := b.carry.length, cut := b.height } := by
      unfold Ctl.jump
      rw [e2, e3, if_neg h2]
    rw [ej]
    have hset : ∀ (k : Nat) x, (s.opn.set l { b with wait := b.wait ++ [s.code.length] })[k]? = some x → (k = l ∧ x = { b with wait := b.wait ++ [s.code.length] }) ∨ (k ≠ l ∧ s.opn[k]? = some x) := by
      intro k x hx
      by_cases hk : l = k
      · subst hk
        rw [List.getElem?_set_self hl] at hx
        exact .inl ⟨rfl, by simpa using hx.symm⟩
      · rw [List.getElem?_set_ne hk] at hx
        exact .inr ⟨fun e => hk e.symm, hx⟩
    refine ⟨?_, by simp [h.len], fun k x y hx hy => ?_, h.base, fun p => ?_⟩
    · show _ = m.ck
      rw [← h.ck]
      unfold Ck.fg
      simp only
      congr 1
      exact map_set_same Blk.fg s.opn l b _ hb rfl
    · rcases hset k x hx with ⟨rfl, rfl⟩ | ⟨hk, hx⟩
      · have hy2 : y = c := by rw [hc] at hy; exact (Option.some.inj hy).symm
        subst hy2
        have g2 := g.app [{ op := op, imm := b.head, keep := b.carry.length, cut := b.height }] [{ op := op, imm := posM src (endT src y.at_).toNat, keep := b.carry.length, cut := b.height }]
        refine ⟨g2.loop, g2.nol, g2.ends, g2.alt, g2.alt3, fun p hp => ?_⟩
        rcases List.mem_append.1 hp with hp | hp
        · exact g2.wait p hp
        · simp at hp
          subst hp
          exact ⟨⟨op, b.head, b.carry.length, b.height⟩, by simp, by rw [h.len]; simp⟩
      · exact (h.blk k x y hx hy).app _ _
    · by_cases hp : p < s.code.length
      · rcases h.eq p with q | ⟨k, x, y, h1, h2', q⟩
        · left
          rw [List.getElem?_append_left hp, List.getElem?_append_left (by rw [← h.len]; exact hp)]; exact q
        · right
          by_cases hk : k = l
          · subst hk
            have hx2 : x = b := by rw [hb] at h1; exact (Option.some.inj h1).symm
            subst hx2
            refine ⟨k, _, y, List.getElem?_set_self hl, h2', ?_⟩
            rcases q.app [{ op := op, imm := x.head, keep := x.carry.length, cut := x.height }] [{ op := op, imm := posM src (endT src c.at_).toNat, keep := x.carry.length, cut := x.height }] with q | q | q
            · exact .inl (List.mem_append_left _ q)
            · exact .inr (.inl q)
            · exact .inr (.inr q)
          · exact ⟨k, x, y, by rw [List.getElem?_set_ne (fun e => hk e.symm)]; exact h1, h2', q.app _ _⟩
      · by_cases hp2 : p = s.code.length
        · subst hp2
          exact .inr ⟨l, _, c, List.getElem?_set_self hl, hc, .inl (List.mem_append_right _ (by simp))⟩
        · left
          rw [List.getElem?_eq_none (by simp; omega), List.getElem?_eq_none (by simp [← h.len]; omega)]
end
end Go.Proofs.Qxb6500575aGreatDoor
