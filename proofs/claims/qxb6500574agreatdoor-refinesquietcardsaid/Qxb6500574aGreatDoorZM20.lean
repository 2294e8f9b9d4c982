/-
  moon: AN EXPRESSION BEGINS. Plain; no memory, no walk.
-/
import Derived.Test.Qxb6500574aGreatDoorZM19
namespace Go.Proofs.Qxb6500574aGreatDoor
set_option linter.unusedVariables false
set_option linter.unusedSimpArgs false
theorem SeqE.all {R : Nat → Nat → Nat → Nat → Nat → Prop} {dec : Nat} : ∀ {l : List Nat} {lo hi a b w : Nat}, SeqE R dec l lo hi a b w → ∀ x ∈ l, ∃ lo a b w, R x lo a b w
  | [], _, _, _, _, _, _, x, hx => by cases hx
  | y :: l, lo, hi, a, b, w, ⟨b1, h1, h2⟩, x, hx => by
    rcases List.mem_cons.1 hx with rfl | hx
    · exact ⟨_, _, _, _, h1⟩
    · exact SeqE.all h2 x hx
theorem SeqS.all {R : Nat → Nat → Nat → Nat → Nat → Nat → Prop} : ∀ {l : List Nat} {lo hi a b al al' : Nat}, SeqS R l lo hi a b al al' → ∀ x ∈ l, ∃ lo a b al al', R x lo a b al al'
  | [], _, _, _, _, _, _, _, x, hx => by cases hx
  | y :: l, lo, hi, a, b, al, al', ⟨b1, a1, h1, h2⟩, x, hx => by
    rcases List.mem_cons.1 hx with rfl | hx
    · exact ⟨_, _, _, _, _, h1⟩
    · exact SeqS.all h2 x hx
/-- an expression's parts -/
structure ExO (N : List Nd) (n : Nat) : Prop where
  n0 : n ≠ 0
  k17 : (N.getD n nd0).k = 17 → (N.getD n nd0).s ≠ []
  k18 : (N.getD n nd0).k = 18 → ExSZ N (N.getD n nd0).a ∧ ExSZ N (N.getD n nd0).b
  k19 : (N.getD n nd0).k = 19 → ExSZ N (N.getD n nd0).a ∧ ∃ l, Chain N (N.getD n nd0).b l ∧ l.length ≤ 3 ∧ ∀ x ∈ l, ExSZ N x
  k20 : (N.getD n nd0).k = 20 → ∃ l l2, Chain N (N.getD n nd0).a l ∧ l.length ≤ 3 ∧ (∀ x ∈ l, (N.getD x nd0).s ≠ []) ∧ Chain N (N.getD n nd0).b l2 ∧ ∀ x ∈ l2, StS N x false
  k21 : (N.getD n nd0).k = 21 → ∃ l, Chain N (N.getD n nd0).a l ∧ ∀ x ∈ l, ExSZ N x
  k22 : (N.getD n nd0).k = 22 → opB (N.getD n nd0).n ∧ ExSZ N (N.getD n nd0).a ∧ ExSZ N (N.getD n nd0).b
  k23 : (N.getD n nd0).k = 23 → (1 ≤ (N.getD n nd0).n ∧ (N.getD n nd0).n ≤ 3) ∧ ExSZ N (N.getD n nd0).a
  k24 : (N.getD n nd0).k = 24 ∨ (N.getD n nd0).k = 25 → ExSZ N (N.getD n nd0).a ∧ ExSZ N (N.getD n nd0).b
theorem Names.all {N : List Nd} : ∀ {l : List Nat} {lo hi : Nat}, Names N l lo hi → ∀ x ∈ l, (N.getD x nd0).s ≠ []
  | [], _, _, _, x, hx => by cases hx
  | y :: l, lo, hi, h, x, hx => by
    obtain ⟨_, _, _, h1, _, h2⟩ := h
    rcases List.mem_cons.1 hx with rfl | hx
    · intro e; rw [e] at h1; simp at h1
    · exact Names.all h2 x hx
theorem nm_ne {s : Bs} (h : nmOk s) : s ≠ [] := fun e => by rw [e] at h; have := h.1; simp at this
theorem ExSZ.out {N : List Nd} {n : Nat} (h : ExSZ N n) : ExO N n := by
  obtain ⟨lo, a, b, w, kk, h⟩ := h
  cases kk with
  | zero => exact h.elim
  | succ kk =>
    obtain ⟨h1, h2, h3⟩ := h
    have up : ∀ {x lo a b w}, ShN N kk 1 x lo a b w 0 0 false → ExSZ N x := fun g => ⟨_, _, _, _, kk, g⟩
    have upS : ∀ {x lo a b al al'}, ShN N kk 0 x lo a b 120 al al' false → StS N x false := fun g => ⟨_, _, _, _, _, kk, g⟩
    rcases h3 with ⟨_, h3⟩ | ⟨z, _⟩
    · rcases h3 with ⟨e, _⟩ | ⟨e, _⟩ | ⟨e, _⟩ | ⟨e, _, _, _, g⟩ | ⟨e, _, _, b1, g1, g2⟩ | ⟨e, _, l, h1', b1, _, g1, g2, g3, g4⟩ | ⟨e, _, _, _, l, _, l2, _, _, _, g1, g2, g3, g4, g5⟩ | ⟨e, _, l, _, _, g1, g2⟩ | ⟨e, _, g1, _, b1, g2, g3⟩ | ⟨e, g1, _, g2⟩ | ⟨e, _, b1, g2, g3⟩
      · exact ⟨by omega, fun z => by omega, fun z => by omega, fun z => by omega, fun z => by omega, fun z => by omega, fun z => by omega, fun z => by omega, fun z => by omega⟩
      · exact ⟨by omega, fun z => by omega, fun z => by omega, fun z => by omega, fun z => by omega, fun z => by omega, fun z => by omega, fun z => by omega, fun z => by omega⟩
      · exact ⟨by omega, fun z => by omega, fun z => by omega, fun z => by omega, fun z => by omega, fun z => by omega, fun z => by omega, fun z => by omega, fun z => by omega⟩
      · exact ⟨by omega, fun z => nm_ne g, fun z => by omega, fun z => by omega, fun z => by omega, fun z => by omega, fun z => by omega, fun z => by omega, fun z => by omega⟩
      · exact ⟨by omega, fun z => by omega, fun z => ⟨up g1, up g2⟩, fun z => by omega, fun z => by omega, fun z => by omega, fun z => by omega, fun z => by omega, fun z => by omega⟩
      · exact ⟨by omega, fun z => by omega, fun z => by omega, fun z => ⟨up g1, l, g2, g3, fun x hx => by obtain ⟨_, _, _, _, q⟩ := g4.all x hx; exact up q⟩, fun z => by omega, fun z => by omega, fun z => by omega, fun z => by omega, fun z => by omega⟩
      · exact ⟨by omega, fun z => by omega, fun z => by omega, fun z => by omega, fun z => ⟨l, l2, g1, g2, g3.all, g4, fun x hx => by obtain ⟨_, _, _, _, _, q⟩ := g5.all x hx; exact upS q⟩, fun z => by omega, fun z => by omega, fun z => by omega, fun z => by omega⟩
      · exact ⟨by omega, fun z => by omega, fun z => by omega, fun z => by omega, fun z => by omega, fun z => ⟨l, g1, fun x hx => by obtain ⟨_, _, _, _, q⟩ := g2.all x hx; exact up q⟩, fun z => by omega, fun z => by omega, fun z => by omega⟩
      · exact ⟨by omega, fun z => by omega, fun z => by omega, fun z => by omega, fun z => by omega, fun z => by omega, fun z => ⟨g1, up g2, up g3⟩, fun z => by omega, fun z => by omega⟩
      · exact ⟨by omega, fun z => by omega, fun z => by omega, fun z => by omega, fun z => by omega, fun z => by omega, fun z => by omega, fun z => ⟨g1, up g2⟩, fun z => by omega⟩
      · exact ⟨by omega, fun z => by omega, fun z => by omega, fun z => by omega, fun z => by omega, fun z => by omega, fun z => by omega, fun z => by omega, fun z => ⟨up g2, up g3⟩⟩
    · cases z
theorem argsL_eq {N : List Nd} : ∀ {l : List Nat} {n k : Nat}, Chain N n l → l.length ≤ k → argsL N k n = l
  | [], n, k, h, _ => by
    have h : n = 0 := h
    subst h
    cases k <;> simp [argsL]
  | x :: l, n, k, h, hk => by
    obtain ⟨rfl, h2, h3⟩ := h
    cases k with
    | zero => simp at hk
    | succ k =>
      unfold argsL
      rw [if_neg h2, argsL_eq h3 (by simpa using hk)]
section
variable {N : List Nd} {root : Nat} {D : CmD} {S : Nat → Nat → Ty → Prop} {K : Cx} {m m1 : VMD} {fu s fu' s' : Nat} {M M' : MD} {P P' : List (Option Lc)} {i c : Nat} {t t' : ThD} {T T' : MTh} {f f' : FmD} {fs : List FmD} {F F' : FrIZ} {k : TkD} {tl : List TkD}
/-- a function is made of an expression -/
theorem Op.e20 (h : Op N root D S K m fu s M P i t T f fs F) (ht : T.tasks = k :: tl) (h3 : k.k ≠ 3) {x n : Nat} {e : Option Nat} (hc : AtC (D.fn (gO m f)).code f.pc [(28, x)]) (h0 : n ≠ 0) (hE : ExSZ N n) (hk : (N.getD n nd0).k = 20) (hx : (N.getD n nd0).n = x) (hF : FnR N D (Lay N D) (gO m f) F.L F.r (N.getD n nd0)) (he : Chn M.envs (F.lf ++ F.lc) e)
    (hM : M.step N root = if M.clos.length ≥ 24 then (M.st { T with tasks := tl }).finish 8 [45] else { M.st { T with tasks := tl, vals := T.vals ++ [⟨5, M.clos.length, []⟩] } with clos := M.clos ++ [(n, e)] })
    (cb : Cb ⟨N, D, gO m f, F.r, M.envs, F.lc, F.low.length⟩ tl false (f.pc + 1) (oO D m t f + 1) F.L F.lf)
    (it : Itm (t.stack.drop (f.base + (D.fn (gO m f)).nslots)) tl (oO D m t f + 1) (oO D m t f)) : PgZ N root D i M.stack s 1 m fu M := by
  have W := h.rel.w i
  have hcl := W.cl
  by_cases hg : m.clos.length ≥ 24
  · rw [if_pos (by omega)] at hM
    refine h.ptrap hc (by decide) (m1 := m) (e := 8) ?_ rfl hM
    unfold plainP
    simp (config := { decide := true }) only [if_true, if_false]
    unfold closure
    rw [if_pos hg]
    rfl
  · rw [if_neg (by omega)] at hM
    obtain ⟨m1, o, q1, ⟨q2, q3, q4⟩, h1⟩ := h.clo h.rt.at_.vi h.nsk (h.dsc hc) h0 hE hk hx hF he (by omega)
    have hp : plainP m i 28 x = (.inr (), push m1 i [⟨5, m.clos.length, []⟩]) := by
      unfold plainP
      rw [h.rt.at_.topF]
      simp (config := { decide := true }) only [if_true, if_false]
      rw [q1]
    rw [push_is h1.hi] at hp
    have hr := h.rd hc (by decide) hp (setTh_get h1.hi) rfl
    rw [setTh_setTh] at hr
    have hb : FrB (Zo N D m M P i t) f F (k :: tl) T.vals t.stack.length := by rw [← ht]; exact h.fo.toFrB
    obtain ⟨seg, e1, e2⟩ := hb.tail (ts := []) h3
    have hgO : gO m1 f = gO m f := by show (m1.clos.getD f.clo cl0).p = _; rw [q2]
    have R := (h1.ops (fu' := fu) (s' := s) (tabs := m1.tabs) (out := m1.out) (ts := tl) (seg := seg) (vs := [⟨5, m.clos.length, []⟩]) (pc := f.pc + 1) (k := 0) (Nat.zero_le _) e1 e2 (by rw [q2]; exact cb) (by rw [q2]; exact itm_new (vs := [_]) h.le (Nat.zero_le _) it)).rel
    refine PgZ.step W.done (PgZ.round hr (PgZ.rel (P := P) ?_ (by rw [hM]; exact h.cu) (by rw [hM]; rfl)))
    have eM : ({ ({ M with clos := M.clos ++ [(n, e)] } : MD).st { T with tasks := tl, vals := T.vals.take (T.vals.length - 0) ++ [⟨5, m.clos.length, []⟩] } with fuel := fu, first := s, tabs := m1.tabs, out := m1.out } : MD) = M.step N root := by
      rw [hM, q3, q4, ← W.fuel, ← W.first, ← W.tabs, ← W.out, hcl]
      simp [MD.st]
    rw [eM] at R
    have em : (m1.setTh i { t with opn := o, stack := t.stack ++ [⟨5, m.clos.length, []⟩], frames := fs.reverse ++ [{ f with pc := f.pc + 1 }] }) = { m1 with ths := m1.ths.set i { t with opn := o, stack := t.stack.take (t.stack.length - 0) ++ [⟨5, m.clos.length, []⟩], frames := fs.reverse ++ [{ f with pc := f.pc + 1 }] }, tabs := m1.tabs, out := m1.out } := by
      simp [VMD.setTh]
    show Rel N root D (m1.setTh i { t with opn := o, stack := t.stack ++ [⟨5, m.clos.length, []⟩], frames := fs.reverse ++ [{ f with pc := f.pc + 1 }] }) fu s _ P
    rw [em]
    exact R
end
end Go.Proofs.Qxb6500574aGreatDoor
