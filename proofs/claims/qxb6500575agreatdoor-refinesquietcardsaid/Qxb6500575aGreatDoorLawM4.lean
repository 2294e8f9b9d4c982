/-
  THE PLAIN LAW, model and real: one instruction. No program.
-/
import Derived.Test.Qxb6500575aGreatDoorLawM3
namespace Go.Proofs.Qxb6500575aGreatDoor
open Go Go.RowKit
set_option linter.unusedVariables false
set_option linter.unusedSimpArgs false

theorem two_typed {x : Int} {y : Bool} (h : x = 0 ∨ x = 6) (e : decide (x = 0) = y) : x = typedM y := by
  subst e
  rcases h with h | h <;> subst h <;> rfl
theorem sig_same {op : Int} (h : (sigsP op).2.2 = true) : ((sigsP op).1, (sigsP op).2.1) = sigM op := by
  unfold sigsP at h ⊢
  unfold sigM
  by_cases a1 : op = 15 ∨ op = 17
  · rw [if_pos a1, if_pos a1]
  rw [if_neg a1, if_neg a1]
  by_cases a2 : op = 18
  · rw [if_pos a2, if_pos a2]
  rw [if_neg a2, if_neg a2]
  by_cases a3 : op = 16 ∨ op = 29 ∨ op = 19 ∨ op = 21 ∨ op = 22 ∨ op = 23 ∨ op = 24
  · rw [if_pos a3, if_pos (show op = 16 ∨ op = 19 ∨ op = 21 ∨ op = 22 ∨ op = 23 ∨ op = 24 ∨ op = 29 by omega)]
  rw [if_neg a3, if_neg (show ¬ (op = 16 ∨ op = 19 ∨ op = 21 ∨ op = 22 ∨ op = 23 ∨ op = 24 ∨ op = 29) by omega)]
  by_cases a4 : op = 20 ∨ op = 32 ∨ op = 33
  · rw [if_pos a4, if_pos a4]
  rw [if_neg a4, if_neg a4]
  by_cases a5 : op = 25 ∨ op = 27 ∨ op = 28
  · rw [if_pos a5, if_pos a5]
  rw [if_neg a5, if_neg a5]
  by_cases a6 : op = 26
  · rw [if_pos a6, if_pos a6]
  rw [if_neg a6, if_neg a6]
  by_cases a7 : op = 30 ∨ op = 31
  · rw [if_pos a7, if_pos a7]
  rw [if_neg a7, if_neg a7]
  by_cases a8 : 40 ≤ op ∧ op < 56
  · rw [if_pos a8, if_pos a8]
  rw [if_neg a8, if_neg a8]
  by_cases a9 : 60 ≤ op ∧ op < 76
  · rw [if_pos a9]
    by_cases b1 : op = 73 ∨ op = 74 ∨ op = 75
    · rw [if_pos b1, if_neg (by omega)]
    · rw [if_neg b1, if_pos (by omega)]
  · rw [if_neg a1, if_neg a2, if_neg a3, if_neg a4, if_neg a5, if_neg a6, if_neg a7, if_neg a8, if_neg a9] at h
    cases h
/-- the same step on both sides: neither code nor holes turn -/
structure Both (s : Ck) (m : Mk) (s' : Ck) (m' : Mk) : Prop where
  ck : s'.fg = m'.ck
  code : s'.code = s.code
  mcode : m'.code = m.code
  own : s'.opn.map Blk.own = s.opn.map Blk.own
  mown : m'.cs.map Ctl.own = m.cs.map Ctl.own
section
variable {src : List Ins} {i : Nat} {s : Ck} {m : Mk}
theorem both_pops (h : s.fg = m.ck) (l : List UInt8) : Both s m (s.pops l).1 (m.pops l).1 := ⟨(rel_pops h l).1, s.pops_code l, rfl, by rw [s.pops_opn], rfl⟩
theorem both_pop (h : s.fg = m.ck) (l : UInt8) : Both s m (s.pop l).1 (m.pop l).1 := ⟨(rel_pop h l).1, s.pop_code l, rfl, by rw [s.pop_opn], rfl⟩
theorem both_swap (h : s.fg = m.ck) (a b : List UInt8) : Both s m (s.swap a b).1 (m.swap a b).1 := ⟨(rel_swap h a b).1, s.pops_code a, rfl, by show (s.pops a).1.opn.map _ = _; rw [s.pops_opn], rfl⟩
theorem both_leaves (h : s.fg = m.ck) (l : List UInt8) : Both s m (s.leaves l).1 (m.pops l).1.kill := by
  refine ⟨(rel_leaves h l).1, ?_, ?_, ?_, ?_⟩
  · unfold Ck.leaves
    split <;> exact s.pops_code l
  · unfold Mk.kill
    split <;> rfl
  · unfold Ck.leaves
    split
    · rw [s.pops_opn]
    · rename_i b r hb
      rw [s.pops_opn] at hb
      rw [hb]
      rfl
  · unfold Mk.kill
    split
    · rfl
    · rename_i b r hb
      rw [m.pops_cs] at hb
      rw [hb]
      rfl
theorem both_sel (h : s.fg = m.ck) : Both s m s.sel.1 m.sel.1 := by
  refine ⟨(rel_sel h).1, ?_, rfl, ?_, rfl⟩
  · show (((s.pops [105]).1.pop 0).1.pop ((s.pops [105]).1.pop 0).2.1).1.code = _
    rw [Ck.pop_code, Ck.pop_code, Ck.pops_code]
  · show (((s.pops [105]).1.pop 0).1.pop ((s.pops [105]).1.pop 0).2.1).1.opn.map _ = _
    rw [Ck.pop_opn, Ck.pop_opn, Ck.pops_opn]
theorem sel_codes (s : Ck) : s.sel.2 = 0 ∨ s.sel.2 = 6 := by
  unfold Ck.sel
  simp only
  split
  · exact .inr rfl
  · exact pops_codes _ _
theorem plain_rel {E : Env} {c : Ins} (h : s.fg = m.ck) (hw : well c = true) (h1 : ¬ (c.op = 1 ∨ c.op = 2 ∨ c.op = 3)) (h4 : ¬ c.op = 4) (h5 : ¬ c.op = 5) (h6 : ¬ (c.op = 6 ∨ c.op = 7)) (h8 : ¬ c.op = 8) :
    (match m.plain E c with
      | none => (s.plainOne E c).2 = 5
      | some p => Both s m (s.plainOne E c).1 p.1 ∧ (s.plainOne E c).2 = typedM p.2) := by
  unfold Mk.plain Ck.plainOne Ck.handle
  by_cases b0 : c.op = 0
  · simp only [if_pos b0]
    exact ⟨both_leaves h [], two_typed (leaves_codes _ _) (rel_leaves h []).2⟩
  simp only [if_neg b0]
  by_cases b9 : c.op = 9
  · simp only [if_pos b9]
    exact ⟨both_leaves h _, two_typed (leaves_codes _ _) (rel_leaves h _).2⟩
  simp only [if_neg b9]
  by_cases b10 : c.op = 10
  · have b11 : ¬ c.op = 11 := by omega
    simp only [if_pos b10, if_neg b11]
    unfold Ck.call
    cases hu : E.funs[c.imm.toNat]? with
    | none => rfl
    | some u => exact ⟨both_swap h _ _, two_typed (swap_codes _ _ _) (rel_swap h _ _).2⟩
  simp only [if_neg b10]
  by_cases b11 : c.op = 11
  · simp only [if_pos b11]
    have e1 : s.pops [0] = ((s.pop 0).1, if (s.pop 0).2.2 = true then 0 else 6) := by
      show (if (s.pop 0).2.2 = true then ((s.pop 0).1, (0 : Int)) else ((s.pop 0).1, 6)) = _
      split <;> rfl
    rw [e1]
    refine ⟨both_pop h 0, ?_⟩
    rw [← (rel_pop h 0).2]
    rfl
  simp only [if_neg b11]
  by_cases b12 : c.op = 12
  · simp only [if_pos b12]
    exact ⟨both_sel h, two_typed (sel_codes s) (rel_sel h).2⟩
  simp only [if_neg b12]
  by_cases b13 : c.op = 13
  · simp only [if_pos b13, if_pos (show c.op = 13 ∨ c.op = 14 from .inl b13)]
    unfold Ck.local
    cases hu : (E.me.params ++ E.me.locals)[c.imm.toNat]? with
    | none => rfl
    | some t =>
      simp only
      rw [if_neg (by omega)]
      exact ⟨both_swap h [] [t], two_typed (swap_codes _ _ _) (rel_swap h [] [t]).2⟩
  by_cases b14 : c.op = 14
  · simp only [if_neg b13, if_pos b14, if_pos (show c.op = 13 ∨ c.op = 14 from .inr b14)]
    unfold Ck.local
    cases hu : (E.me.params ++ E.me.locals)[c.imm.toNat]? with
    | none => rfl
    | some t =>
      simp only
      rw [if_pos b14]
      exact ⟨both_pops h [t], two_typed (pops_codes _ _) (rel_pops h [t]).2⟩
  have b15 : ¬ (c.op = 13 ∨ c.op = 14) := by omega
  simp only [if_neg b13, if_neg b14, if_neg b15]
  have hk := sigs_known hw h1 h4 h5 h6 h8 b0 b9 b11 b10 b12 b15
  rw [if_pos hk, ← sig_same hk]
  exact ⟨both_swap h _ _, two_typed (swap_codes _ _ _) (rel_swap h _ _).2⟩

theorem Rel.both (h : Rel src i s m) {s' : Ck} {m' : Mk} (hb : Both s m s' m') : Rel src i s' m' := h.congr hb.ck hb.code hb.mcode hb.own hb.mown

theorem Ck.jump_len (s : Ck) (op : Int) (l : Nat) : (s.jump op l).1.opn.length = s.opn.length := by
  unfold Ck.jump
  split
  · rfl
  · simp only
    split <;> simp
theorem Ck.jump_clen (s : Ck) (op : Int) (l : Nat) (hl : l < s.opn.length) : (s.jump op l).1.code.length = s.code.length + 1 := by
  unfold Ck.jump
  rw [List.getElem?_eq_getElem hl]
  simp
theorem flat_op (c : Flat) (h : c.op = 6) : { c with op := 6 } = c := by cases c; simp at h; subst h; rfl
theorem Mk.jump_op (m : Mk) (l : Nat) : (m.jump src l).op = 6 := by unfold Mk.jump; split <;> rfl
theorem Mk.jump_code (m : Mk) (u : List Flat) (l : Nat) : ({ m with code := u } : Mk).jump src l = m.jump src l := rfl
/-- the jumps of a table -/
theorem Rel.jumps (d : List UInt8) : ∀ (tab : List UInt8) (s : Ck) (m : Mk), Rel src i s m → (∀ t ∈ tab, t.toNat < s.opn.length) →
    ∀ q : Bool, ∃ s' : Ck, tab.foldl (fun p t => ((p.1.jump 6 t.toNat).1, p.2 && (p.1.jump 6 t.toNat).2 == d)) (s, q) = (s', q && m.tableOk tab d) ∧ Rel src i s' { m with code := m.code ++ tab.map (fun t => m.jump src t.toNat) } ∧ s'.code.length = s.code.length + tab.length
  | [], s, m, h, _, q => ⟨s, by simp [Mk.tableOk], by simpa using h, by simp⟩
  | t :: ts, s, m, h, ht, q => by
    obtain ⟨h1, h2⟩ := h.jump 6 t.toNat (ht t (by simp))
    rw [flat_op _ (m.jump_op _)] at h1
    obtain ⟨s', e1, e2, e3⟩ := Rel.jumps d ts _ _ h1 (fun x hx => by rw [s.jump_len]; exact ht x (by simp [hx])) (q && (s.jump 6 t.toNat).2 == d)
    refine ⟨s', ?_, ?_, ?_⟩
    · rw [List.foldl_cons, e1, h2]
      congr 1
      unfold Mk.tableOk
      rw [List.all_cons, Bool.and_assoc]
      congr 1
      congr 1
      by_cases hh : m.label t.toNat = d <;> simp [hh]
    · have : (m.code ++ List.map (fun t => m.jump src t.toNat) (t :: ts)) = (m.code ++ [m.jump src t.toNat]) ++ ts.map (fun t => m.jump src t.toNat) := by simp
      rw [this]
      exact e2
    · rw [e3, s.jump_clen _ _ (ht t (by simp))]; simp; omega
theorem posM_succ {c : Ins} (hc : src[i]? = some c) : posM src (i + 1) = posM src i + posOne c := by
  conv => lhs; unfold posM
  rw [hc]
theorem Ck.leaves_code3 (s : Ck) (l : List UInt8) : (s.leaves l).1.code = s.code := by
  unfold Ck.leaves
  split <;> exact s.pops_code l
theorem Ck.closes_code2 (s : Ck) : s.closes.1.code = s.code := by
  unfold Ck.closes
  split
  · rfl
  · exact s.pops_code _

theorem rel_step {E : Env} {c : Ins} (h : Rel src i s m) (hpos : posM src i = s.code.length) (hc : src[i]? = some c) (hw : well c = true) {b : Blk} {r : List Blk} (hb : s.opn = b :: r) (hal : c.op = 4 → ∃ al, b.alt = some al) (hlast : c.op = 5 → r = [] → i + 1 = src.length) :
    (s.one E c).2 = (m.one E src i c).2 ∧ ((s.one E c).2 = 0 →
      ((¬ (c.op = 5 ∧ r = [])) → Rel src (i + 1) (s.one E c).1 (m.one E src i c).1 ∧ posM src (i + 1) = (s.one E c).1.code.length) ∧
      ((c.op = 5 ∧ r = []) → (s.one E c).1.code = (m.one E src i c).1.code)) := by
  obtain ⟨t, q, ht, e1, e2⟩ := fg_cons h.ck hb
  have hp1 := posM_succ hc
  have hcs : m.cs ≠ [] := by rw [ht]; simp
  have hlen := fg_len h.ck
  have hqr : r.length = q.length := by rw [hb, ht] at hlen; simpa using hlen
  unfold Ck.one Mk.one
  by_cases h1 : c.op = 1 ∨ c.op = 2
  · rw [if_pos (by omega), if_pos h1]
    have n5 : ¬ (c.op = 5 ∧ r = []) := by omega
    have hz : posOne c = 0 := by unfold posOne; rw [if_pos (by omega)]
    unfold Ck.enter
    by_cases h2 : c.op = 2
    · rw [if_pos h2]
      refine ⟨rfl, fun _ => ⟨fun _ => ⟨?_, by rw [hp1, hz, hpos]; rfl⟩, fun e => absurd e n5⟩⟩
      refine h.open hc (by omega) _ _ ?_ rfl (by show c.op ≠ 4; omega) hcs (fun _ => by simp [hpos]) (fun e => absurd h2 e) (fun p hp => by cases hp) (fun e => by have : c.op = 3 := e; omega) rfl
      simp only [Blk.fg, Ctl.blk, Ctl.label, if_pos h2, fg_st h.ck]
    · rw [if_neg h2, if_neg (by omega)]
      refine ⟨rfl, fun _ => ⟨fun _ => ⟨?_, by rw [hp1, hz, hpos]; rfl⟩, fun e => absurd e n5⟩⟩
      refine h.open hc (by omega) _ _ ?_ rfl (by show c.op ≠ 4; omega) hcs (fun e => absurd e h2) (fun e => rfl) (fun p hp => by cases hp) (fun e => by have : c.op = 3 := e; omega) rfl
      simp only [Blk.fg, Ctl.blk, Ctl.label, if_neg h2, fg_st h.ck]
  by_cases h3 : c.op = 3
  · rw [if_pos (by omega), if_neg h1, if_pos h3]
    have n5 : ¬ (c.op = 5 ∧ r = []) := by omega
    have hz : posOne c = 1 := by unfold posOne; rw [if_neg (by omega), if_neg (by omega)]
    unfold Ck.enter
    rw [if_neg (by omega), if_pos h3]
    obtain ⟨k1, k2⟩ := rel_pops h.ck [105]
    refine ⟨two_typed (pops_codes _ _) k2, fun _ => ⟨fun _ => ⟨?_, by rw [hp1, hz, hpos]; simp⟩, fun e => absurd e n5⟩⟩
    have hst : (s.pops [105]).1.st = (m.pops [105]).1.st := fg_st k1
    refine ⟨?_, by simp [h.len], fun k x y hx hy => ?_, fun k y hy => ?_, fun p => ?_⟩
    · have a2 := fg_opn h.ck
      simp only [Ck.fg, Mk.ck, List.map_cons]
      rw [hst, a2]
      simp only [Blk.fg, Ctl.blk, Ctl.label, if_neg (show ¬ (3 : Int) = 2 by decide)]
    all_goals have hO := (h.emit []).open (c := c) hc (by omega) ⟨resOf c.imm, resOf c.imm, (m.pops [105]).1.st.length, -1, false, none, []⟩ ⟨1, c.imm, (m.pops [105]).1.st.length, i, false⟩ (by simp [Blk.fg, Ctl.blk, Ctl.label]) rfl (by show (1 : Int) ≠ 4; decide) hcs (fun e => by cases e) (fun _ => rfl) (fun p hp => by cases hp) (fun e => by cases e) rfl
    · cases k with
      | zero =>
        simp at hx hy
        subst hx; subst hy
        have g := hO.blk 0 _ _ rfl rfl
        refine ⟨(fun e => by cases e), fun _ => rfl, fun h0 => ?_, fun p hp => ⟨rfl, by show (0 : Int) ≤ (i : Int); omega, ?_⟩, fun _ => rfl, fun p hp => by cases hp⟩
        · obtain ⟨e, e1, e2⟩ := g.ends h0
          exact ⟨e, e1, fun _ => e2 (by show (1 : Int) ≠ 4; decide)⟩
        · simp at hp
          subst hp
          exact ⟨⟨3, -1, 0, 0⟩, by simp, by rw [h.len]; simp⟩
      | succ k =>
        have hx' : s.opn[k]? = some x := by simpa using hx
        have hy' : m.cs[k]? = some y := by simpa using hy
        have g := hO.blk (k + 1) x y (by simpa using hx') (by simpa using hy')
        simp only [List.append_nil] at g
        exact g.app _ _
    · have hbb := hO.base k
      cases k with
      | zero =>
        simp at hy
        subst hy
        exact hbb ⟨1, c.imm, (m.pops [105]).1.st.length, i, false⟩ rfl
      | succ k => exact hbb y (by simpa using hy)
    · by_cases hp : p < s.code.length
      · rcases hO.eq p with g | ⟨k, x, y, g1, g2, g⟩
        · left
          simp only [List.append_nil] at g
          rw [List.getElem?_append_left hp, List.getElem?_append_left (by rw [← h.len]; exact hp)]
          exact g
        · right
          simp only [List.append_nil] at g
          cases k with
          | zero =>
            simp at g1 g2
            subst g1; subst g2
            rcases g with g | g | g
            · cases g
            · cases g
            · exact absurd g.1 (by show ¬ (1 : Int) = 4; decide)
          | succ k =>
            refine ⟨k + 1, x, y, by simpa using g1, by simpa using g2, g.app _ _⟩
      · by_cases hp2 : p = s.code.length
        · subst hp2
          exact .inr ⟨0, _, _, rfl, rfl, .inr (.inl rfl)⟩
        · left
          rw [List.getElem?_eq_none (by simp; omega), List.getElem?_eq_none (by simp [← h.len]; omega)]
  rw [if_neg (by omega), if_neg h1, if_neg h3]
  by_cases h4 : c.op = 4
  · rw [if_pos h4, if_pos h4, ht]
    have n5 : ¬ (c.op = 5 ∧ r = []) := by omega
    have hz : posOne c = 1 := by unfold posOne; rw [if_neg (by omega), if_neg (by omega)]
    obtain ⟨k1, k2⟩ := rel_closes h.ck (by rw [hb]; simp)
    obtain ⟨al, hal⟩ := hal h4
    have hop := s.closes_opn
    have hcc := s.closes_code2
    have hturn : s.turn = ({ s.closes.1 with code := patchAt (s.code ++ [⟨4, -1, 0, 0⟩]) al ((s.code.length : Int) + 1), opn := { b with wait := b.wait ++ [s.code.length], alt := none, dead := false } :: r }, s.closes.2) := by
      unfold Ck.turn
      rw [hop, hb]
      simp only [hal, hcc, Option.getD_some]
    rw [hturn]
    refine ⟨two_typed (closes_codes _) k2, fun _ => ⟨fun _ => ⟨?_, by rw [hp1, hz, hpos]; simp [patchAt_len]⟩, fun e => absurd e n5⟩⟩
    have hB : Rel src i s.closes.1 m.closes.1 := h.congr k1 hcc m.closes_code (by rw [hop]) (by rw [m.closes_cs])
    have := hB.turn hc h4 (by rw [hop]; exact hb) (by rw [m.closes_cs]; exact ht) hal (by rw [hp1, hz, hpos, hcc])
    rw [hcc, m.closes_code] at this
    exact this
  rw [if_neg h4, if_neg h4]
  by_cases h5 : c.op = 5
  · rw [if_pos h5, if_pos h5, ht]
    have hz : posOne c = 0 := by unfold posOne; rw [if_pos (by omega)]
    obtain ⟨k1, k2⟩ := rel_closes h.ck (by rw [hb]; simp)
    have hop := s.closes_opn
    have hcc := s.closes_code2
    have hleave : s.leave = ({ st := b.res.reverse ++ s.closes.1.st, opn := r, code := patchAll s.code s.code.length (b.wait ++ b.alt.toList) ++ (if r.isEmpty then [{ op := 5, imm := 0, keep := 0, cut := 0 }] else []) }, if b.alt.isSome && !b.res.isEmpty then 6 else s.closes.2) := by
      unfold Ck.leave
      rw [hop, hb, hcc]
    rw [hleave]
    have hB : Rel src i s.closes.1 m.closes.1 := h.congr k1 hcc m.closes_code (by rw [hop]) (by rw [m.closes_cs])
    have g0 := h.blk 0 b t (by rw [hb]; rfl) (by rw [ht]; rfl)
    have hres : b.res = resOf t.bt := congrArg Blk.res e1
    have hrq : r.isEmpty = q.isEmpty := by
      cases r <;> cases q <;> simp at hqr ⊢
    have hcond : (b.alt.isSome && !b.res.isEmpty) = true ↔ (t.op = 3 ∧ t.bt ≠ 0) := by
      have x1 : b.alt.isSome = true ↔ t.op = 3 := ⟨fun e => by
        obtain ⟨p, hp⟩ := Option.isSome_iff_exists.1 e
        exact (g0.alt p hp).1, g0.alt3⟩
      have x2 : b.res.isEmpty = false ↔ t.bt ≠ 0 := by
        rw [hres]; unfold resOf
        by_cases z : t.bt = 0 <;> simp [z]
      simp only [Bool.and_eq_true, Bool.not_eq_true', x1, x2]
    refine ⟨?_, fun _ => ⟨fun hn5 => ⟨?_, ?_⟩, fun hr => ?_⟩⟩
    · simp only
      by_cases hcd : t.op = 3 ∧ t.bt ≠ 0
      · rw [if_pos hcd, if_pos (hcond.2 hcd)]
      · rw [if_neg hcd, if_neg (fun e => hcd (hcond.1 e))]
        exact two_typed (closes_codes _) k2
    · have hr : r ≠ [] := fun e => hn5 ⟨h5, e⟩
      have hq : q ≠ [] := by intro e; rw [e] at hqr; exact hr (List.eq_nil_of_length_eq_zero (by simpa using hqr))
      have hre : r.isEmpty = false := by cases r <;> simp at hr ⊢
      have hqe : q.isEmpty = false := by rw [← hrq]; exact hre
      have g := hB.leave hc h5 (by rw [hop]; exact hb) (by rw [m.closes_cs]; exact ht) (by rw [hpos, hcc]) hq
      rw [hcc] at g
      simp only [hre, hqe]
      simp only [Bool.false_eq_true, if_false, List.append_nil]
      refine g.congr ?_ rfl (by rw [← m.closes_code]) rfl rfl
      have a1 := fg_st g.ck
      have a2 := fg_opn g.ck
      simp only [Ck.fg, Mk.ck] at a1 a2 ⊢
      rw [a1, a2, hres]
    · have hr : r ≠ [] := fun e => hn5 ⟨h5, e⟩
      have hre : r.isEmpty = false := by cases r <;> simp at hr ⊢
      rw [hp1, hz, hpos]
      simp [hre, patchAll_len]
    · have hre : r.isEmpty = true := by rw [hr.2]; rfl
      have hqe : q.isEmpty = true := by rw [← hrq]; exact hre
      have hq : q = [] := by cases q <;> simp at hqe ⊢
      have hi := hlast h5 hr.2
      have g := hB.closed hc h5 (by rw [hop]; exact hb) (by rw [m.closes_cs]; exact ht) (by rw [hpos, hcc]) (fun _ => hi)
      rw [hcc, m.closes_code] at g
      have himm : c.imm = 0 := by
        unfold well at hw
        rw [if_neg (by omega)] at hw
        split at hw
        · cases hw
        rw [if_neg (by omega), if_neg (by omega), if_neg (by omega), if_neg (by omega), if_neg (by omega)] at hw
        split at hw
        · cases hw
        · rename_i z
          omega
      simp only [hre, hqe, if_true, himm]
      congr 1
      apply List.ext_getElem?
      intro p
      rcases g p with g | ⟨k, x, y, g1, g2, _⟩
      · exact g
      · rw [hr.2] at g1; simp at g1
  rw [if_neg h5, if_neg h5]
  have n5 : ¬ (c.op = 5 ∧ r = []) := by omega
  have nadv : ∀ {s' : Ck} {m' : Mk}, Rel src i s' m' → Rel src (i + 1) s' m' := fun g => g.advance hc (by omega) h4 h5
  by_cases h6 : c.op = 6
  · rw [if_pos (.inl h6), if_pos h6]
    have hz : posOne c = 1 := by unfold posOne; rw [if_neg (by omega), if_neg (by omega)]
    unfold Ck.branch
    rw [hlen]
    by_cases hj : m.cs.length ≤ c.imm.toNat
    · rw [if_pos hj, if_pos hj]
      exact ⟨rfl, fun e => by cases e⟩
    · rw [if_neg hj, if_neg hj, if_pos h6]
      obtain ⟨g1, g2⟩ := h.jump c.op c.imm.toNat (by omega)
      have hjc := s.jump_clen c.op c.imm.toNat (by omega)
      rw [g2]
      have ho : ({ m.jump src c.imm.toNat with op := c.op } : Flat) = m.jump src c.imm.toNat := by rw [h6]; exact flat_op _ (m.jump_op _)
      rw [ho] at g1
      have hB := both_leaves g1.ck (m.label c.imm.toNat)
      have hr := rel_leaves g1.ck (m.label c.imm.toNat)
      refine ⟨two_typed (leaves_codes _ _) hr.2, fun _ => ⟨fun _ => ⟨nadv ?_, by rw [hp1, hz, hpos, Ck.leaves_code3, hjc]⟩, fun e => absurd e n5⟩⟩
      refine (g1.both hB).congr ?_ rfl ?_ rfl ?_
      · refine hB.ck.trans ?_
        unfold Mk.kill Mk.pops Mk.ck
        simp only [ht]
      · exact hB.mcode.symm
      · unfold Mk.kill Mk.pops
        simp only [ht]
  by_cases h7 : c.op = 7
  · rw [if_pos (.inr h7), if_neg h6, if_pos h7]
    have hz : posOne c = 1 := by unfold posOne; rw [if_neg (by omega), if_neg (by omega)]
    unfold Ck.branch
    rw [hlen]
    by_cases hj : m.cs.length ≤ c.imm.toNat
    · rw [if_pos hj, if_pos hj]
      exact ⟨rfl, fun e => by cases e⟩
    · rw [if_neg hj, if_neg hj, if_neg h6]
      obtain ⟨g1, g2⟩ := h.jump c.op c.imm.toNat (by omega)
      have hjc := s.jump_clen c.op c.imm.toNat (by omega)
      rw [g2]
      rw [h7] at g1 ⊢
      rw [h7] at hjc
      have hB := both_swap g1.ck (m.label c.imm.toNat ++ [105]) (m.label c.imm.toNat)
      have hr := rel_swap g1.ck (m.label c.imm.toNat ++ [105]) (m.label c.imm.toNat)
      refine ⟨two_typed (swap_codes _ _ _) hr.2, fun _ => ⟨fun _ => ⟨nadv (g1.both hB), by rw [hp1, hz, hpos, hB.code, hjc]⟩, fun e => absurd e.1 (by decide)⟩⟩
  rw [if_neg (by omega), if_neg h6, if_neg h7]
  by_cases h8 : c.op = 8
  · rw [if_pos h8, if_pos h8]
    have hz : posOne c = 1 + c.tab.length := by unfold posOne; rw [if_neg (by omega), if_pos h8]
    unfold Ck.table
    rw [hlen]
    by_cases hj : c.tab.any (fun t => decide (m.cs.length ≤ t.toNat)) = true
    · rw [if_pos hj, if_pos hj]
      exact ⟨rfl, fun e => by cases e⟩
    · rw [if_neg hj, if_neg hj]
      have hin : ∀ t ∈ c.tab, t.toNat < s.opn.length := by
        intro t ht
        rw [hlen]
        by_cases hh : t.toNat < m.cs.length
        · exact hh
        · exact absurd (List.any_eq_true.2 ⟨t, ht, by simp; omega⟩) hj
      have hdef : s.def_ c.tab = m.lastLab c.tab := by
        unfold Ck.def_ Mk.lastLab Mk.label
        cases hb' : s.opn[(c.tab.getLast?.getD 0).toNat]? with
        | none =>
          have : m.cs[(c.tab.getLast?.getD 0).toNat]? = none := by
            rw [List.getElem?_eq_none_iff] at hb' ⊢
            omega
          rw [this]
        | some x =>
          obtain ⟨y, hy⟩ := h.opt hb'
          rw [hy]
          exact (h.hd hb' hy).2.1
      rw [hdef]
      have g0 := h.emit [⟨8, (c.tab.length : Int) - 1, 0, 0⟩]
      obtain ⟨s', j1, j2, j3⟩ := Rel.jumps (m.lastLab c.tab) c.tab _ _ g0 hin true
      have hjs : ({ s with code := s.code ++ [{ op := 8, imm := (c.tab.length : Int) - 1, keep := 0, cut := 0 }] } : Ck).jumps (m.lastLab c.tab) c.tab = (s', m.tableOk c.tab (m.lastLab c.tab)) := by
        unfold Ck.jumps
        rw [j1]
        rfl
      rw [hjs]
      simp only
      have hB := both_leaves j2.ck (m.lastLab c.tab ++ [105])
      have hr := rel_leaves j2.ck (m.lastLab c.tab ++ [105])
      have hcode : (m.code ++ [⟨8, (c.tab.length : Int) - 1, 0, 0⟩]) ++ c.tab.map (fun t => m.jump src t.toNat) = m.code ++ ⟨8, (c.tab.length : Int) - 1, 0, 0⟩ :: c.tab.map (fun t => m.jump src t.toNat) := by simp
      refine ⟨?_, fun _ => ⟨fun _ => ⟨nadv ?_, by rw [hp1, hz, hpos, Ck.leaves_code3, j3]; simp; omega⟩, fun e => absurd e n5⟩⟩
      · cases m.tableOk c.tab (m.lastLab c.tab) with
        | true =>
          simp only [if_true, Bool.true_and]
          exact two_typed (leaves_codes _ _) hr.2
        | false => simp [typedM]
      · refine (j2.both hB).congr ?_ rfl ?_ rfl ?_
        · refine hB.ck.trans ?_
          unfold Mk.kill Mk.pops Mk.ck
          simp only [ht]
        · rw [hB.mcode, ← hcode]
          rfl
        · unfold Mk.kill Mk.pops
          simp only [ht]
  rw [if_neg h8, if_neg h8]
  have hz : posOne c = 1 := by unfold posOne; rw [if_neg (by omega), if_neg (by omega)]
  have hpl := plain_rel (E := E) h.ck hw (by omega) h4 h5 (by omega) h8
  cases hmp : m.plain E c with
  | none =>
    rw [hmp] at hpl
    simp only at hpl ⊢
    exact ⟨hpl, fun e => by rw [hpl] at e; cases e⟩
  | some p =>
    rw [hmp] at hpl
    simp only at hpl ⊢
    obtain ⟨hB, he⟩ := hpl
    refine ⟨he, fun _ => ⟨fun _ => ⟨nadv ?_, by rw [hp1, hz, hpos]; simp [hB.code]⟩, fun e => absurd e n5⟩⟩
    have g := (h.both hB).emit [⟨c.op, c.imm, 0, 0⟩]
    rw [hB.mcode] at g
    exact g
end
end Go.Proofs.Qxb6500575aGreatDoor
