/-
  moon: STATEMENTS' PARTS; THE END OF A BLOCK. Plain; no memory, no walk.
-/
import Derived.Test.Qxb6500574aGreatDoorZM29
namespace Go.Proofs.Qxb6500574aGreatDoor
set_option linter.unusedVariables false
set_option linter.unusedSimpArgs false
/-- statements one behind the other -/
abbrev StCZ (N : List Nd) (n : Nat) (lp : Bool) : Prop := ∃ l, Chain N n l ∧ ∀ x ∈ l, StS N x lp
/-- a statement's parts -/
structure StO (N : List Nd) (n : Nat) (lp : Bool) : Prop where
  n0 : n ≠ 0
  k1 : (N.getD n nd0).k = 1 → (N.getD n nd0).s ≠ [] ∧ ((N.getD n nd0).a = 0 ∨ ExSZ N (N.getD n nd0).a)
  k2 : (N.getD n nd0).k = 2 → ((N.getD (N.getD n nd0).a nd0).s ≠ [] ∧ (N.getD (N.getD (N.getD n nd0).a nd0).next nd0).s ≠ []) ∧ (N.getD (N.getD n nd0).b nd0).k = 19 ∧ ExSZ N (N.getD n nd0).b
  k3 : (N.getD n nd0).k = 3 → (N.getD n nd0).s ≠ [] ∧ (N.getD (N.getD n nd0).a nd0).k = 20 ∧ ExSZ N (N.getD n nd0).a
  k4 : (N.getD n nd0).k = 4 → ((N.getD (N.getD n nd0).a nd0).k = 17 ∨ (N.getD (N.getD n nd0).a nd0).k = 18) ∧ ExSZ N (N.getD n nd0).a ∧ ExSZ N (N.getD n nd0).b
  k5 : (N.getD n nd0).k = 5 → (N.getD (N.getD n nd0).a nd0).k = 19 ∧ ExSZ N (N.getD n nd0).a
  k6 : (N.getD n nd0).k = 6 → ExSZ N (N.getD n nd0).a ∧ StCZ N (N.getD n nd0).b lp ∧ StCZ N (N.getD n nd0).c lp
  k7 : (N.getD n nd0).k = 7 → ExSZ N (N.getD n nd0).a ∧ StCZ N (N.getD n nd0).b true
  k8 : (N.getD n nd0).k = 8 → (N.getD n nd0).s ≠ [] ∧ (∃ l, Chain N (N.getD n nd0).a l ∧ (l.length = 2 ∨ l.length = 3) ∧ ∀ x ∈ l, ExSZ N x) ∧ StCZ N (N.getD n nd0).b true
  k9 : (N.getD n nd0).k = 9 → ((N.getD (N.getD n nd0).a nd0).s ≠ [] ∧ (N.getD (N.getD (N.getD n nd0).a nd0).next nd0).s ≠ []) ∧ ExSZ N (N.getD n nd0).b ∧ StCZ N (N.getD n nd0).c true
  k10 : (N.getD n nd0).k = 10 → ((N.getD n nd0).a = 0 ∨ ExSZ N (N.getD n nd0).a) ∧ ((N.getD n nd0).b = 0 ∨ ExSZ N (N.getD n nd0).b)
  k11 : (N.getD n nd0).k = 11 → lp = true
theorem StS.out {N : List Nd} {n : Nat} {lp : Bool} (h : StS N n lp) : StO N n lp := by
  obtain ⟨lo, a, b, al, al', kk, h⟩ := h
  cases kk with
  | zero => exact h.elim
  | succ kk =>
    obtain ⟨h1, h2, h3⟩ := h
    have up : ∀ {x lo a b w}, ShN N kk 1 x lo a b w 0 0 false → ExSZ N x := fun g => ⟨_, _, _, _, kk, g⟩
    have upS : ∀ {x lo a b al al' lp}, ShN N kk 0 x lo a b 120 al al' lp → StS N x lp := fun g => ⟨_, _, _, _, _, kk, g⟩
    have upC : ∀ {n l lo hi a b al al' lp}, Chain N n l → SeqS (fun x lo a b al al' => ShN N kk 0 x lo a b 120 al al' lp) l lo hi a b al al' → StCZ N n lp := fun c g => ⟨_, c, fun x hx => by obtain ⟨_, _, _, _, _, q⟩ := g.all x hx; exact upS q⟩
    have hn0 : n ≠ 0 := by omega
    rcases h3 with ⟨z, _⟩ | ⟨_, h3⟩
    · cases z
    · rcases h3 with ⟨e, g1, _, _, g4⟩ | ⟨e, _, _, g3, g4, g5, _, g7, g8⟩ | ⟨e, g1, _, _, _, g5, g6⟩ | ⟨e, _, _, g3, b1, g4, g5⟩ | ⟨e, _, _, g3, g4⟩ | ⟨e, _, b1, l, h1, b2, l2, h2, x1, x2, _, g3, g4, g5, g6, g7⟩ | ⟨e, _, b1, l, h1, x1, _, g3, g4, g5⟩ | ⟨e, _, _, g3, l0, h0, b0, l, h1, x1, _, g5, g6, g7, g8, g9⟩ | ⟨e, _, _, g3, g4, g5, b0, l, h1, x1, _, g7, g8, g9⟩ | ⟨e, _, g2⟩ | ⟨e, _, _, _, g⟩
      · refine ⟨hn0, fun _ => ⟨nm_ne g1, ?_⟩, fun z => by omega, fun z => by omega, fun z => by omega, fun z => by omega, fun z => by omega, fun z => by omega, fun z => by omega, fun z => by omega, fun z => by omega, fun z => by omega⟩
        rcases g4 with ⟨q, _⟩ | ⟨_, q⟩
        · exact .inl q
        · exact .inr (up q)
      · refine ⟨hn0, fun z => by omega, fun _ => ⟨?_, g7, up g8⟩, fun z => by omega, fun z => by omega, fun z => by omega, fun z => by omega, fun z => by omega, fun z => by omega, fun z => by omega, fun z => by omega, fun z => by omega⟩
        have q := g5.all
        rw [g3] at *
        exact ⟨q _ (by simp), by rw [g4]; exact q _ (by simp)⟩
      · exact ⟨hn0, fun z => by omega, fun z => by omega, fun _ => ⟨nm_ne g1, g5, up g6⟩, fun z => by omega, fun z => by omega, fun z => by omega, fun z => by omega, fun z => by omega, fun z => by omega, fun z => by omega, fun z => by omega⟩
      · exact ⟨hn0, fun z => by omega, fun z => by omega, fun z => by omega, fun _ => ⟨g3, up g4, up g5⟩, fun z => by omega, fun z => by omega, fun z => by omega, fun z => by omega, fun z => by omega, fun z => by omega, fun z => by omega⟩
      · exact ⟨hn0, fun z => by omega, fun z => by omega, fun z => by omega, fun z => by omega, fun _ => ⟨g3, up g4⟩, fun z => by omega, fun z => by omega, fun z => by omega, fun z => by omega, fun z => by omega, fun z => by omega⟩
      · exact ⟨hn0, fun z => by omega, fun z => by omega, fun z => by omega, fun z => by omega, fun z => by omega, fun _ => ⟨up g3, upC g4 g5, upC g6 g7⟩, fun z => by omega, fun z => by omega, fun z => by omega, fun z => by omega, fun z => by omega⟩
      · exact ⟨hn0, fun z => by omega, fun z => by omega, fun z => by omega, fun z => by omega, fun z => by omega, fun z => by omega, fun _ => ⟨up g3, upC g4 g5⟩, fun z => by omega, fun z => by omega, fun z => by omega, fun z => by omega⟩
      · exact ⟨hn0, fun z => by omega, fun z => by omega, fun z => by omega, fun z => by omega, fun z => by omega, fun z => by omega, fun z => by omega, fun _ => ⟨nm_ne g3, ⟨l0, g5, g6, fun x hx => by obtain ⟨_, _, _, _, q⟩ := g7.all x hx; exact up q⟩, upC g8 g9⟩, fun z => by omega, fun z => by omega, fun z => by omega⟩
      · refine ⟨hn0, fun z => by omega, fun z => by omega, fun z => by omega, fun z => by omega, fun z => by omega, fun z => by omega, fun z => by omega, fun z => by omega, fun _ => ⟨?_, up g7, upC g8 g9⟩, fun z => by omega, fun z => by omega⟩
        have q := g5.all
        exact ⟨by rw [g3]; exact q _ (by simp), by rw [g4]; exact q _ (by simp)⟩
      · refine ⟨hn0, fun z => by omega, fun z => by omega, fun z => by omega, fun z => by omega, fun z => by omega, fun z => by omega, fun z => by omega, fun z => by omega, fun z => by omega, fun _ => ?_, fun z => by omega⟩
        rcases g2 with ⟨q1, q2, _⟩ | ⟨q1, _, q2⟩ | ⟨_, b1, q1, q2⟩
        · exact ⟨.inl q1, .inl q2⟩
        · exact ⟨.inr (up q2), .inl q1⟩
        · exact ⟨.inr (up q1), .inr (up q2)⟩
      · exact ⟨hn0, fun z => by omega, fun z => by omega, fun z => by omega, fun z => by omega, fun z => by omega, fun z => by omega, fun z => by omega, fun z => by omega, fun z => by omega, fun z => by omega, fun _ => g⟩
/-- a block's code -/
theorem blk_at {X : FX} {n p : Nat} {sg : List In} {L : List Bs} {lp : Bool} {lb ex : Nat} (hy : Lay X.N X.D 3 ((X.f, L) :: X.r) n p sg L lb ex) (hs : StCZ X.N n lp) (ha : AtC X.cd p sg) (hl : lp = true → p + sg.length ≤ ex) : BlkAt X n p L L lp lb ex (p + sg.length) := by
  rcases hy.out with ⟨z, _⟩ | ⟨z, _⟩ | ⟨_, _, l, s1, L1, e, c, q, g⟩ | ⟨z, _⟩
  · cases z
  · cases z
  · obtain ⟨l', c', hs⟩ := hs
    have : l' = l := c'.uniq c
    subst this
    subst e
    exact ⟨l', s1, L1, c, hs, List.prefix_refl _, q, g, ha, rfl, hl⟩
  · cases z
section
variable {N : List Nd} {root : Nat} {D : CmD} {S : Nat → Nat → Ty → Prop} {K : Cx} {m m1 : VMD} {fu s fu' s' : Nat} {M M' : MD} {P P' : List (Option Lc)} {i c : Nat} {t t' : ThD} {T T' : MTh} {f f' : FmD} {fs : List FmD} {F F' : FrIZ} {k : TkD} {tl : List TkD} {stk : List Vl} {pc : Nat}
/-- closing, and the tasks behind -/
theorem Op.closeR (h : Op N root D S K m fu s M P i t T f fs F) (ho : oO D m t f = 0) {L0 : List Bs} (h0 : L0 <+: F.L) {kk : Nat} (hk1 : (closeFrom m i (f.base + L0.length)).ths[i]? = some { t with opn := t.opn.take kk }) {ts seg : List TkD} {pc : Nat} (e1 : ts = seg ++ ⟨3, if f.prot then 1 else 0, F.low.length, none⟩ :: F.rest) (e2 : ∀ t ∈ seg, t.k ≠ 3)
    (cb : Cb ⟨N, D, gO m f, F.r, M.envs, F.lc, F.low.length⟩ ts false pc 0 L0 (sfx F.lf F.L L0)) (it : Itm [] ts 0 0) :
    Op0 N root D (mS (closeFrom m i (f.base + L0.length)) i { t with opn := t.opn.take kk } f fs t.stack pc) fu s (M.st { T with tasks := ts, vals := F.low ++ hidV t.stack f.base L0 }) (P.map (cloL m i (f.base + L0.length))) i (tS { t with opn := t.opn.take kk } f fs t.stack pc) { T with tasks := ts, vals := F.low ++ hidV t.stack f.base L0 } { f with pc := pc } fs { F with L := L0, lf := sfx F.lf F.L L0, seg := seg } := by
  have hlen := h.st0 ho
  have hz : t.stack.length - (f.base + (D.fn (gO m f)).nslots) = 0 := by rw [hlen]; omega
  have hd0 : t.stack.drop (f.base + (D.fn (gO m f)).nslots) = [] := List.drop_of_length_le (Nat.le_of_eq hlen)
  have hLx : F.L.take L0.length = L0 := by
    obtain ⟨B, hB⟩ := h0
    rw [← hB]
    exact List.take_left
  have O1 := h.close (x := L0.length) (pc := pc) h0.length_le hk1 (ts := ts) (seg := seg) e1 e2 (by
    rw [hLx]
    show Cb _ _ _ _ (t.stack.length - (f.base + (D.fn (gO m f)).nslots)) _ _
    rw [hz]
    exact cb) (by
    show Itm (t.stack.drop (f.base + (D.fn (gO m f)).nslots)) _ (t.stack.length - (f.base + (D.fn (gO m f)).nslots)) (t.stack.length - (f.base + (D.fn (gO m f)).nslots))
    rw [hz, hd0]
    exact it)
  rw [hLx] at O1
  have hd1 : t.stack.drop (f.base + (D.fn (m.clos.getD f.clo cl0).p).nslots) = [] := hd0
  rw [hd1, List.append_nil] at O1
  exact O1
/-- the block's own names hide nothing -/
theorem Op.hidT (h : Op N root D S K m fu s M P i t T f fs F) (ho : oO D m t f = 0) {L0 : List Bs} (h00 : Sub0 L0 F.L) : T.vals = F.low ++ hidV t.stack f.base L0 := by
  have hlen := h.st0 ho
  obtain ⟨h0, hh⟩ := h00
  have hv := h.vv
  rw [List.drop_of_length_le (Nat.le_of_eq hlen), List.append_nil] at hv
  obtain ⟨B, hB⟩ := h0
  rw [← hB, hidV_app] at hv
  have : hidV t.stack (f.base + L0.length) B = [] := by
    refine List.eq_nil_of_length_eq_zero ?_
    have q := hidV_len t.stack (L0 ++ B) f.base
    rw [hidV_app, List.length_append, hidV_len, hB] at q
    omega
  rw [this, List.append_nil] at hv
  exact hv
end
end Go.Proofs.Qxb6500574aGreatDoor
