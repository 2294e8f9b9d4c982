/-
  moon: WHAT THE PARSER LAYS: lists of expressions, of statements, of names. Plain; no memory, no walk.
-/
import Derived.Test.Qxb6500574aGreatDoorWPar2
namespace Go.Proofs.Qxb6500574aGreatDoor
set_option linter.unusedVariables false
set_option linter.unusedSimpArgs false
/-- a list of expressions was laid between s0 and s -/
structure LiE (s0 s : PSt) (w : Nat) (l : List Nat) (first : Nat) : Prop where
  kp : Kpt s0 s
  al : s.alive = s0.alive
  sq : SeqE (fun x lo a b w => Sh s.nodes 1 x lo a b w 0 0 false) 0 l (s0.nodes.length - 1) (s.nodes.length - 1) s0.funcs s.funcs w
  ch : Chain s.nodes first l
theorem SeqE.snoc {R : Nat → Nat → Nat → Nat → Nat → Prop} : ∀ {l : List Nat} {lo hi a b c w v : Nat}, SeqE R 0 l lo hi a b w → R v hi b c w → SeqE R 0 (l ++ [v]) lo v a c w := by
  intro l
  induction l with
  | nil => intro lo hi a b c w v h g; obtain ⟨rfl, rfl⟩ := h; exact ⟨c, g, rfl, rfl⟩
  | cons x l ih => intro lo hi a b c w v h g; obtain ⟨b1, h1, h2⟩ := h; exact ⟨b1, h1, ih h2 g⟩
theorem SeqE.last {R : Nat → Nat → Nat → Nat → Nat → Prop} {dec : Nat} : ∀ {l : List Nat} {lo hi a b w : Nat}, SeqE R dec l lo hi a b w → l ≠ [] → hi = l.getLastD 0 := by
  intro l
  induction l with
  | nil => intro lo hi a b w _ e; exact (e rfl).elim
  | cons x l ih =>
    intro lo hi a b w h _
    obtain ⟨b1, h1, h2⟩ := h
    rw [List.getLastD_cons]
    by_cases e : l = []
    · subst e; exact h2.1
    · rw [lastD_any x 0 e]; exact ih h2 e
theorem Sh.ltE {N : List Nd} : ∀ (x lo a b w : Nat), Sh N 1 x lo a b w 0 0 false → lo < x := fun _ _ _ _ _ h => h.lt
theorem LiE.snoc {s0 s s1 : PSt} {w first v last : Nat} {l : List Nat} (hs0 : SOk s0) (h : LiE s0 s w l first) (hl : last = l.getLastD 0) (g : ExP s s1 w v) : LiE s0 (s1.link last v) w (l ++ [v]) (if last = 0 then v else first) := by
  have hin := SeqE.in_ Sh.ltE h.sq
  have hinc := SeqE.inc Sh.ltE h.sq
  have hk := h.kp.trans g.kp
  have hlen := link_len s1 last v
  obtain ⟨e1, e2, e3, e4⟩ := link_same s1 last v
  have n1 := hs0.n1
  have n2 := h.kp.le
  have n3 := g.kp.le
  have hv := g.ve
  have hvs := g.sh.lt
  have hlast : l ≠ [] → s0.nodes.length - 1 < last ∧ last ≤ s.nodes.length - 1 := fun e => by rw [hl]; exact hin.2 _ (lastD_mem 0 e)
  have hl0 : last = 0 ↔ l = [] := by
    constructor
    · intro e
      refine Decidable.byContradiction fun hne => ?_
      have := hlast hne
      omega
    · intro e; rw [hl, e]; rfl
  have hle : last ≤ s.nodes.length - 1 := by
    by_cases e : l = []
    · rw [hl0.2 e]; omega
    · exact (hlast e).2
  refine ⟨⟨by rw [hlen]; exact hk.le, fun x hx => ?_, by rw [e4]; exact hk.fu, by rw [e4]; exact hk.f12, by rw [e3]; exact hk.lp⟩, by rw [e2, g.al, h.al], ?_, ?_⟩
  · by_cases e : l = []
    · have e0 := hl0.2 e
      rw [e0]
      unfold PSt.link
      rw [if_pos rfl]
      exact hk.old x hx
    · rw [link_ne s1 (by have := hlast e; omega)]
      exact hk.old x hx
  · rw [hlen, e4, ← hv, Nat.add_sub_cancel]
    refine SeqE.snoc (hi := s.nodes.length - 1) (b := s.funcs) ?_ (g.sh.link (.inr hle))
    by_cases e : l = []
    · have hq := h.sq
      subst e
      exact hq
    · have hll : s.nodes.length - 1 = last := by rw [hl]; exact h.sq.last e
      refine SeqE.impIn (L := s0.nodes.length - 1) (H := s.nodes.length - 1) Sh.ltE (fun x lo a b w h1 h2 gx => ?_) (Nat.le_refl _) (Nat.le_refl _) h.sq
      exact (gx.kp g.kp (by omega)).link (.inl (by omega))
  · rw [show (if last = 0 then v else first) = if l = [] then v else first by simp only [hl0]]
    refine Chain.snoc (N := s.nodes) (lo := s0.nodes.length - 1) (by omega) ?_ h.ch hinc (fun x hx hne => ?_) (fun hne => ?_)
    · rw [link_ne s1 (by omega)]; exact g.nx
    · rw [link_ne s1 (by rw [hl]; exact hne)]
      exact g.kp.old x (by have := hin.2 x hx; omega)
    · rw [← hl, link_eq s1 (by have := hlast hne; omega) (by have := hlast hne; omega)]
/-- a list of statements -/
structure LiS (s0 s : PSt) (lp : Bool) (l : List Nat) (first : Nat) : Prop where
  kp : Kpt s0 s
  al : s.alive ≤ 12
  sq : SeqS (fun x lo a b al al' => Sh s.nodes 0 x lo a b 120 al al' lp) l (s0.nodes.length - 1) (s.nodes.length - 1) s0.funcs s.funcs s0.alive s.alive
  ch : Chain s.nodes first l
/-- a statement was laid between s and s' -/
structure StP (s s' : PSt) (v : Nat) : Prop where
  kp : Kpt s s'
  al : s'.alive ≤ 12
  ve : v + 1 = s'.nodes.length
  nx : (s'.nodes.getD v nd0).next = 0
  sh : Sh s'.nodes 0 v (s.nodes.length - 1) s.funcs s'.funcs 120 s.alive s'.alive (decide (0 < s.loops))
theorem SeqS.snoc {R : Nat → Nat → Nat → Nat → Nat → Nat → Prop} : ∀ {l : List Nat} {lo hi a b c al al' al2 v : Nat}, SeqS R l lo hi a b al al' → R v hi b c al' al2 → SeqS R (l ++ [v]) lo v a c al al2 := by
  intro l
  induction l with
  | nil => intro lo hi a b c al al' al2 v h g; obtain ⟨rfl, rfl, rfl⟩ := h; exact ⟨c, al2, g, rfl, rfl, rfl⟩
  | cons x l ih => intro lo hi a b c al al' al2 v h g; obtain ⟨b1, a1, h1, h2⟩ := h; exact ⟨b1, a1, h1, ih h2 g⟩
theorem SeqS.last {R : Nat → Nat → Nat → Nat → Nat → Nat → Prop} : ∀ {l : List Nat} {lo hi a b al al' : Nat}, SeqS R l lo hi a b al al' → l ≠ [] → hi = l.getLastD 0 := by
  intro l
  induction l with
  | nil => intro lo hi a b al al' _ e; exact (e rfl).elim
  | cons x l ih =>
    intro lo hi a b al al' h _
    obtain ⟨b1, a1, h1, h2⟩ := h
    rw [List.getLastD_cons]
    by_cases e : l = []
    · subst e; exact h2.1
    · rw [lastD_any x 0 e]; exact ih h2 e
theorem Sh.ltS {N : List Nd} {lp : Bool} : ∀ (x lo a b al al' : Nat), Sh N 0 x lo a b 120 al al' lp → lo < x := fun _ _ _ _ _ _ h => h.lt
theorem LiS.snoc {s0 s s1 : PSt} {first v last : Nat} {l : List Nat} {lp : Bool} (hs0 : SOk s0) (h : LiS s0 s lp l first) (hlp : lp = decide (0 < s.loops)) (hl : last = l.getLastD 0) (g : StP s s1 v) : LiS s0 (s1.link last v) lp (l ++ [v]) (if last = 0 then v else first) := by
  have hin := SeqS.in_ Sh.ltS h.sq
  have hinc := SeqS.inc Sh.ltS h.sq
  have hk := h.kp.trans g.kp
  have hlen := link_len s1 last v
  obtain ⟨e1, e2, e3, e4⟩ := link_same s1 last v
  have n1 := hs0.n1
  have n2 := h.kp.le
  have n3 := g.kp.le
  have hv := g.ve
  have hvs := g.sh.lt
  have hlast : l ≠ [] → s0.nodes.length - 1 < last ∧ last ≤ s.nodes.length - 1 := fun e => by rw [hl]; exact hin.2 _ (lastD_mem 0 e)
  have hl0 : last = 0 ↔ l = [] := by
    constructor
    · intro e
      refine Decidable.byContradiction fun hne => ?_
      have := hlast hne
      omega
    · intro e; rw [hl, e]; rfl
  have hle : last ≤ s.nodes.length - 1 := by
    by_cases e : l = []
    · rw [hl0.2 e]; omega
    · exact (hlast e).2
  refine ⟨⟨by rw [hlen]; exact hk.le, fun x hx => ?_, by rw [e4]; exact hk.fu, by rw [e4]; exact hk.f12, by rw [e3]; exact hk.lp⟩, by rw [e2]; exact g.al, ?_, ?_⟩
  · by_cases e : l = []
    · have e0 := hl0.2 e
      rw [e0]
      unfold PSt.link
      rw [if_pos rfl]
      exact hk.old x hx
    · rw [link_ne s1 (by have := hlast e; omega)]
      exact hk.old x hx
  · rw [hlen, e4, e2, ← hv, Nat.add_sub_cancel]
    have gs := g.sh
    rw [← hlp] at gs
    refine SeqS.snoc (hi := s.nodes.length - 1) (b := s.funcs) (al' := s.alive) ?_ (gs.link (.inr hle))
    by_cases e : l = []
    · have hq := h.sq
      subst e
      exact hq
    · have hll : s.nodes.length - 1 = last := by rw [hl]; exact h.sq.last e
      refine SeqS.impIn (L := s0.nodes.length - 1) (H := s.nodes.length - 1) Sh.ltS (fun x lo a b al al' h1 h2 gx => ?_) (Nat.le_refl _) (Nat.le_refl _) h.sq
      exact (gx.kp g.kp (by omega)).link (.inl (by omega))
  · rw [show (if last = 0 then v else first) = if l = [] then v else first by simp only [hl0]]
    refine Chain.snoc (N := s.nodes) (lo := s0.nodes.length - 1) (by omega) ?_ h.ch hinc (fun x hx hne => ?_) (fun hne => ?_)
    · rw [link_ne s1 (by omega)]; exact g.nx
    · rw [link_ne s1 (by rw [hl]; exact hne)]
      exact g.kp.old x (by have := hin.2 x hx; omega)
    · rw [← hl, link_eq s1 (by have := hlast hne; omega) (by have := hlast hne; omega)]
/-- a list of names -/
structure LiN (s0 s : PSt) (l : List Nat) (first : Nat) : Prop where
  kp : Kpt s0 s
  al : s.alive = s0.alive
  fu : s.funcs = s0.funcs
  nm : Names s.nodes l (s0.nodes.length - 1) (s.nodes.length - 1)
  ch : Chain s.nodes first l
theorem Names.snoc {N : List Nd} : ∀ {l : List Nat} {lo hi : Nat}, Names N l lo hi → hi + 1 < N.length → (N.getD (hi + 1) nd0).k = 17 → nmOk (N.getD (hi + 1) nd0).s → Names N (l ++ [hi + 1]) lo (hi + 1) := by
  intro l
  induction l with
  | nil => intro lo hi h h1 h2 h3; cases h; exact ⟨rfl, h1, h2, h3.1, h3.2, rfl⟩
  | cons x l ih => intro lo hi h h1 h2 h3; obtain ⟨g1, g2, g3, g4, g5, g6⟩ := h; exact ⟨g1, g2, g3, g4, g5, ih g6 h1 h2 h3⟩
theorem Names.nde {N N' : List Nd} (hl : N'.length = N.length) (h : ∀ x, NdE (N.getD x nd0) (N'.getD x nd0)) : ∀ {l : List Nat} {lo hi : Nat}, Names N l lo hi → Names N' l lo hi := by
  intro l
  induction l with
  | nil => intro lo hi g; exact g
  | cons x l ih => intro lo hi g; obtain ⟨g1, g2, g3, g4, g5, g6⟩ := g; exact ⟨g1, by rw [hl]; exact g2, by rw [(h x).k]; exact g3, by rw [(h x).s]; exact g4, by rw [(h x).s]; exact g5, ih g6⟩
theorem LiN.snoc {s0 s : PSt} {first last p : Nat} {nm : Bs} {l : List Nat} (hs0 : SOk s0) (h : LiN s0 s l first) (hl : last = l.getLastD 0) (hn : nmOk nm) : LiN s0 ((s.add ⟨17, 0, 0, 0, 0, 0, nm, p⟩).link last s.nodes.length) (l ++ [s.nodes.length]) (if last = 0 then s.nodes.length else first) := by
  have hin := h.nm.in_
  have hinc := h.nm.inc
  have hs : SOk s := ⟨Nat.le_trans hs0.n1 h.kp.le, h.kp.f12, by rw [h.al]; exact hs0.al⟩
  have hk := h.kp.trans (Kpt.add hs ⟨17, 0, 0, 0, 0, 0, nm, p⟩)
  have ha : (s.add ⟨17, 0, 0, 0, 0, 0, nm, p⟩).nodes.length = s.nodes.length + 1 := by simp [PSt.add]
  have hlen := link_len (s.add ⟨17, 0, 0, 0, 0, 0, nm, p⟩) last s.nodes.length
  obtain ⟨e1, e2, e3, e4⟩ := link_same (s.add ⟨17, 0, 0, 0, 0, 0, nm, p⟩) last s.nodes.length
  have n1 := hs0.n1
  have n2 := h.kp.le
  have hg : (s.add ⟨17, 0, 0, 0, 0, 0, nm, p⟩).nodes.getD s.nodes.length nd0 = ⟨17, 0, 0, 0, 0, 0, nm, p⟩ := by simp only [PSt.add]; exact getD_last _ _
  have hlast : l ≠ [] → s0.nodes.length - 1 < last ∧ last ≤ s.nodes.length - 1 := fun e => by rw [hl]; exact hin.2 _ (lastD_mem 0 e)
  have hl0 : last = 0 ↔ l = [] := by
    constructor
    · intro e
      refine Decidable.byContradiction fun hne => ?_
      have := hlast hne
      omega
    · intro e; rw [hl, e]; rfl
  refine ⟨⟨by rw [hlen]; exact hk.le, fun x hx => ?_, by rw [e4]; exact hk.fu, by rw [e4]; exact hk.f12, by rw [e3]; exact hk.lp⟩, by rw [e2]; exact h.al, by rw [e4]; exact h.fu, ?_, ?_⟩
  · by_cases e : l = []
    · have e0 := hl0.2 e
      rw [e0]
      unfold PSt.link
      rw [if_pos rfl]
      exact hk.old x hx
    · rw [link_ne _ (by have := hlast e; omega)]
      exact hk.old x hx
  · rw [hlen, ha, Nat.add_sub_cancel]
    refine Names.nde hlen (fun x => link_nde _ _ _ x) ?_
    have hb : Names (s.add ⟨17, 0, 0, 0, 0, 0, nm, p⟩).nodes l (s0.nodes.length - 1) (s.nodes.length - 1) := h.nm.mono fun x hx => ⟨(Kpt.add hs _).old x (by have := hin.2 x hx; have := hs.n1; omega), by have := hin.2 x hx; omega⟩
    have := hs.n1
    have hsn := hb.snoc (by rw [ha]; omega) (by rw [show s.nodes.length - 1 + 1 = s.nodes.length by omega, hg]) (by rw [show s.nodes.length - 1 + 1 = s.nodes.length by omega, hg]; exact hn)
    rw [show s.nodes.length - 1 + 1 = s.nodes.length by omega] at hsn
    exact hsn
  · rw [show (if last = 0 then s.nodes.length else first) = if l = [] then s.nodes.length else first by simp only [hl0]]
    refine Chain.snoc (N := s.nodes) (lo := s0.nodes.length - 1) (by omega) ?_ h.ch hinc (fun x hx hne => ?_) (fun hne => ?_)
    · by_cases e : l = []
      · rw [hl0.2 e]; unfold PSt.link; rw [if_pos rfl, hg]
      · rw [link_ne _ (by have := hlast e; omega), hg]
    · rw [link_ne _ (by rw [hl]; exact hne)]
      exact (Kpt.add hs _).old x (by have := hin.2 x hx; omega)
    · rw [← hl, link_eq _ (by have := hlast hne; omega) (by have := hlast hne; omega)]
end Go.Proofs.Qxb6500574aGreatDoor
