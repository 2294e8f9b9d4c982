/-
  moon: FOR STATEMENTS BEGIN; BREAK. Plain; no memory, no walk.
-/
import Derived.Test.Qxb6500574aGreatDoorZM33
namespace Go.Proofs.Qxb6500574aGreatDoor
set_option linter.unusedVariables false
set_option linter.unusedSimpArgs false
theorem AtC.one {code : List In} {p : Nat} {x : In} {r : List In} (h : AtC code p (x :: r)) : AtC code p [x] := by
  have h : AtC code p ([x] ++ r) := h
  exact (h.split (.inr trivial)).1
/-- an expression's code behind a pending hidden store -/
theorem Cb_2h {X : FX} {ts : List TkD} {n x pc : Nat} {L : List Bs} {lf : List Nat} {e : Option Nat} {sg : List In} (he : X.env lf e) (ha : AtC X.cd pc [(6, L.length)]) (hl : L.length < X.ns) (hN : NoI ts) (hx : ExAt X (L ++ [[]]) n x (pc + 1) sg) (cb : Cb X ts false (pc + 1 + sg.length) 1 (L ++ [[]]) lf) : Cb X (⟨2, n, x, e⟩ :: ts) false pc 1 L lf := by
  unfold Cb
  simp (config := { decide := true }) only [if_true, if_false]
  exact ⟨he, .inr ⟨sg, trivial, hN, ha, hl, hx, cb⟩⟩
section
variable {N : List Nd} {root : Nat} {D : CmD} {S : Nat → Nat → Ty → Prop} {K : Cx} {m m1 : VMD} {fu s fu' s' : Nat} {M M' : MD} {P P' : List (Option Lc)} {i c : Nat} {t t' : ThD} {T T' : MTh} {f f' : FmD} {fs : List FmD} {F F' : FrIZ} {k : TkD} {tl : List TkD} {stk : List Vl} {pc : Nat} {sa : List In} {L1 : List Bs} {lp : Bool} {lb ex : Nat}
/-- for in -/
theorem Op.s9 (h : Op N root D S K m fu s M P i t T f fs F) (ht : T.tasks = k :: tl) (hk : k.k = 1) (ho : oO D m t f = 0) (he : Chn M.envs (F.lf ++ F.lc) k.e) (it : Itm [] tl 0 0) (hs : StM (Op.X N D m M f F) tl k.n f.pc F.L F.lf sa L1 lp lb ex) (hd : (N.getD k.n nd0).k = 9) : PgZ N root D i M.stack s 1 m fu M := by
  have O := hs.hS.out
  have hM := h.stS ht hk O.n0
  unfold MD.stmt at hM
  simp (config := { decide := true }) only [hd, if_true, if_false] at hM
  rw [st_todo h.cl, st_todo h.cl, st_th h.cl] at hM
  simp only at hM
  have h3 : k.k ≠ 3 := by omega
  obtain ⟨⟨O1, O1'⟩, O2, O3⟩ := O.k9 hd
  obtain ⟨e, hn, s1, s2, t0, x0, et, exx, e2, hy, hy2⟩ := Lay0.v9 hs.hy hd
  subst e
  have cbN := Cb_blk he hs.rest
  have itN : Itm [] (⟨1, (N.getD k.n nd0).next, 0, k.e⟩ :: tl) 0 0 := Itm_blk it
  have hvl : T.vals.length = F.low.length + hidc F.L := by have := h.vlen; omega
  rw [hvl] at hM
  have ha : AtC (D.fn (gO m f)).code f.pc sa := hs.ha
  have hlen : f.pc + sa.length = x0 + 1 := by
    rw [e2]
    simp only [List.length_append, List.length_cons, List.length_nil]
    omega
  have cbN := Cb_at cbN hlen
  rw [e2, List.append_assoc, List.append_assoc] at ha
  obtain ⟨a1, a2⟩ := ha.split (.inr trivial)
  have hat : AtC (D.fn (gO m f)).code (t0 - 3) ([(6, F.L.length), (2, 0), (6, F.L.length + 1), (32, F.L.length), (22, x0)] ++ s2 ++ [(29, F.L.length + 2), (21, t0), (29, F.L.length)]) := by
    rw [show t0 - 3 = f.pc + s1.length by omega, List.append_assoc]
    exact a2
  obtain ⟨_, b2⟩ := a2.split (.inr trivial)
  obtain ⟨b1, b2⟩ := b2.split (.inr trivial)
  have b1 : AtC (D.fn (gO m f)).code (t0 + 2) s2 := by
    refine Eq.mp (congrArg (fun z => AtC (D.fn (gO m f)).code z s2) ?_) b1
    show f.pc + s1.length + 5 = t0 + 2
    omega
  have hx29 : AtC (D.fn (gO m f)).code x0 [(29, F.L.length)] := by
    have := b2.head.2.head.2
    refine Eq.mp (congrArg (fun z => AtC (D.fn (gO m f)).code z [(29, F.L.length)]) ?_) this
    show f.pc + s1.length + 5 + s2.length + 1 + 1 = x0
    omega
  have fo : InS (Op.X N D m M f F) F.L k.n t0 x0 s2 := ⟨hd, ⟨O1, O1'⟩, hn, by omega, hat, by omega, by
    have := blk_at (X := Op.X N D m M f F) (lp := true) hy2 O3 b1 (fun z => by omega)
    exact this⟩
  have cb4 : Cb (Op.X N D m M f F) (⟨4, 0, F.low.length + hidc F.L, none⟩ :: ⟨1, (N.getD k.n nd0).next, 0, k.e⟩ :: tl) false x0 0 F.L F.lf := by
    unfold Cb
    simp (config := { decide := true }) only [if_true, if_false]
    exact ⟨trivial, trivial, .inr ⟨hx29, cbN⟩⟩
  refine h.unf ht h3 (a := (N.getD k.n nd0).b) (x := 0) (e := k.e) (new := [⟨18, k.n, 0, k.e⟩, ⟨4, 0, F.low.length + hidc F.L, none⟩, ⟨1, (N.getD k.n nd0).next, 0, k.e⟩]) (by simp) hM (Cb_2 he a1 (.inr O2) hy ?_) (Itm_else (by decide) (Itm_else (by decide) itN))
  rw [ho]
  show Cb _ (_ :: _ :: _ :: tl) _ _ _ _ _
  unfold Cb
  simp (config := { decide := true }) only [if_true, if_false]
  exact ⟨trivial, t0, x0, s2, he, fo, by omega, rfl, cb4⟩
/-- for = -/
theorem Op.s8 (h : Op N root D S K m fu s M P i t T f fs F) (ht : T.tasks = k :: tl) (hk : k.k = 1) (ho : oO D m t f = 0) (he : Chn M.envs (F.lf ++ F.lc) k.e) (it : Itm [] tl 0 0) (hs : StM (Op.X N D m M f F) tl k.n f.pc F.L F.lf sa L1 lp lb ex) (hd : (N.getD k.n nd0).k = 8) : PgZ N root D i M.stack s 1 m fu M := by
  have O := hs.hS.out
  have hM := h.stS ht hk O.n0
  unfold MD.stmt at hM
  simp (config := { decide := true }) only [hd, if_true, if_false] at hM
  rw [st_todo h.cl, st_todo h.cl, st_th h.cl] at hM
  simp only at hM
  have h3 : k.k ≠ 3 := by omega
  obtain ⟨O1, ⟨l0, O2, O2l, O2e⟩, O3⟩ := O.k8 hd
  obtain ⟨e, hn, s1, s2, s3, s4, t0, x0, et, exx, e2, hy, hy2, hy3, hy4⟩ := Lay0.v8 hs.hy hd
  subst e
  have cbN := Cb_blk he hs.rest
  have itN : Itm [] (⟨1, (N.getD k.n nd0).next, 0, k.e⟩ :: tl) 0 0 := Itm_blk it
  have hvl : T.vals.length = F.low.length + hidc F.L := by have := h.vlen; omega
  rw [hvl] at hM
  have ha : AtC (D.fn (gO m f)).code f.pc sa := hs.ha
  have hlen : f.pc + sa.length = x0 + 1 := by
    rw [e2]
    simp only [List.length_append, List.length_cons, List.length_nil]
    omega
  have cbN := Cb_at cbN hlen
  have hn : F.L.length + 4 ≤ (D.fn (gO m f)).nslots := hn
  -- the expressions
  obtain ⟨E1, E2, E3⟩ : ExSZ N (N.getD k.n nd0).a ∧ ExSZ N (N.getD (N.getD k.n nd0).a nd0).next ∧ ((N.getD (N.getD (N.getD k.n nd0).a nd0).next nd0).next ≠ 0 → ExSZ N (N.getD (N.getD (N.getD k.n nd0).a nd0).next nd0).next) := by
    cases l0 with
    | nil => simp at O2l
    | cons y1 l0 =>
      cases l0 with
      | nil => simp at O2l
      | cons y2 l0 =>
        obtain ⟨c1, _, c2, _, c3⟩ := O2
        refine ⟨by rw [c1]; exact O2e y1 (by simp), by rw [c1, c2]; exact O2e y2 (by simp), fun z => ?_⟩
        rw [c1, c2] at z ⊢
        cases l0 with
        | nil => exact absurd c3 z
        | cons y3 l0 =>
          rw [c3.1]
          exact O2e y3 (by simp)
  rw [e2] at ha
  simp only [List.append_assoc, List.cons_append, List.nil_append] at ha
  obtain ⟨a1, a2⟩ := ha.split (.inr trivial)
  have b1 := a2.one
  obtain ⟨a2, a3⟩ := a2.head.2.split (.inr trivial)
  have b2 := a3.one
  obtain ⟨a3, a4⟩ := a3.head.2.split (.inr trivial)
  have hat : AtC (D.fn (gO m f)).code (t0 - 2) ([(6, F.L.length + 2), (30, F.L.length), (31, F.L.length), (22, x0), (5, F.L.length), (6, F.L.length + 3)] ++ s4 ++ [(29, F.L.length + 3), (5, F.L.length), (5, F.L.length + 2), (15, 1), (6, F.L.length), (21, t0), (29, F.L.length)]) := by
    rw [show t0 - 2 = f.pc + s1.length + 1 + s2.length + 1 + s3.length by omega, List.append_assoc]
    exact a4
  obtain ⟨c1, c2⟩ := a4.head.2.head.2.head.2.head.2.head.2.head.2.split (.inr trivial)
  have c1 : AtC (D.fn (gO m f)).code (t0 + 4) s4 := by
    refine Eq.mp (congrArg (fun z => AtC (D.fn (gO m f)).code z s4) ?_) c1
    omega
  have hx29 : AtC (D.fn (gO m f)).code x0 [(29, F.L.length)] := by
    have := c2.head.2.head.2.head.2.head.2.head.2.head.2
    refine Eq.mp (congrArg (fun z => AtC (D.fn (gO m f)).code z [(29, F.L.length)]) ?_) this
    omega
  have fo : FoS (Op.X N D m M f F) F.L k.n t0 x0 s4 := ⟨hd, O1, hn, by omega, hat, by omega, by
    have := blk_at (X := Op.X N D m M f F) (lp := true) hy4 O3 c1 (fun z => by omega)
    exact this⟩
  have cb4 : Cb (Op.X N D m M f F) (⟨4, 0, F.low.length + hidc F.L, none⟩ :: ⟨1, (N.getD k.n nd0).next, 0, k.e⟩ :: tl) false x0 0 F.L F.lf := by
    unfold Cb
    simp (config := { decide := true }) only [if_true, if_false]
    exact ⟨trivial, trivial, .inr ⟨hx29, cbN⟩⟩
  have cb15 : Cb (Op.X N D m M f F) (⟨15, k.n, 0, k.e⟩ :: ⟨4, 0, F.low.length + hidc F.L, none⟩ :: ⟨1, (N.getD k.n nd0).next, 0, k.e⟩ :: tl) false (f.pc + s1.length + 1 + s2.length + 1 + s3.length) 1 ((F.L ++ [[]]) ++ [[]]) F.lf := by
    unfold Cb
    simp (config := { decide := true }) only [if_true, if_false]
    exact ⟨F.L, t0, x0, s4, he, fo, rfl, cb4, .inl ⟨trivial, by simp, by omega⟩⟩
  have it15 : NoI (⟨15, k.n, 0, k.e⟩ :: ⟨4, 0, F.low.length + hidc F.L, none⟩ :: ⟨1, (N.getD k.n nd0).next, 0, k.e⟩ :: tl) := fun ops h w => Itm_else (by decide) (Itm_else (by decide) itN)
  have q1 : f.pc + (s1.length + 1) = f.pc + s1.length + 1 := by omega
  have q2 : f.pc + (s1.length + 1 + s2.length + 1) = f.pc + s1.length + 1 + s2.length + 1 := by omega
  rw [q1] at hy2
  have key : ∀ (n3 x3 : Nat), ExAt (Op.X N D m M f F) ((F.L ++ [[]]) ++ [[]]) n3 x3 (f.pc + s1.length + 1 + s2.length + 1) s3 → M.step N root = M.st { T with tasks := ⟨2, (N.getD k.n nd0).a, 0, k.e⟩ :: (([⟨2, (N.getD (N.getD k.n nd0).a nd0).next, 0, k.e⟩, ⟨2, n3, x3, k.e⟩, ⟨15, k.n, 0, k.e⟩, ⟨4, 0, F.low.length + hidc F.L, none⟩, ⟨1, (N.getD k.n nd0).next, 0, k.e⟩] : List TkD) ++ tl) } → PgZ N root D i M.stack s 1 m fu M := fun n3 x3 hx hM => by
    refine h.unf ht h3 (a := (N.getD k.n nd0).a) (x := 0) (e := k.e) (new := [⟨2, (N.getD (N.getD k.n nd0).a nd0).next, 0, k.e⟩, ⟨2, n3, x3, k.e⟩, ⟨15, k.n, 0, k.e⟩, ⟨4, 0, F.low.length + hidc F.L, none⟩, ⟨1, (N.getD k.n nd0).next, 0, k.e⟩]) (by simp) hM (Cb_2 he a1 (.inr E1) hy ?_) (Itm_2 (Itm_2 (it15 _ _ _)))
    rw [ho]
    refine Cb_2h he b1 (show F.L.length < (D.fn (gO m f)).nslots by omega) (fun ops h w => Itm_2 (it15 _ _ _)) ⟨a2, .inl ⟨rfl, .inr E2, hy2⟩⟩ ?_
    refine Cb_2h he (by rw [List.length_append]; exact b2) (show (F.L ++ [[]]).length < (D.fn (gO m f)).nslots by rw [List.length_append]; simp; omega) it15 hx cb15
  by_cases hz : (N.getD (N.getD (N.getD k.n nd0).a nd0).next nd0).next ≠ 0
  · rw [if_pos hz] at hM
    rcases hy3 with ⟨_, hy3⟩ | ⟨z, _⟩
    · refine key _ 0 ⟨a3, .inl ⟨rfl, .inr (E3 hz), ?_⟩⟩ hM
      have hy3 : Lay N D 1 ((gO m f, F.L ++ [[], []]) :: F.r) (N.getD (N.getD (N.getD k.n nd0).a nd0).next nd0).next (f.pc + (s1.length + 1 + s2.length + 1)) s3 [] 0 0 := hy3
      rw [q2, show F.L ++ [[], []] = (F.L ++ [[]]) ++ [[]] by simp] at hy3
      exact hy3
    · exact absurd z hz
  · rw [if_neg hz] at hM
    rcases hy3 with ⟨z, _⟩ | ⟨_, x, z1, z2⟩
    · exact absurd z hz
    · exact key 0 1 ⟨a3, .inr ⟨rfl, rfl, x, z1, z2⟩⟩ hM
/-- break -/
theorem Op.s11 (h : Op N root D S K m fu s M P i t T f fs F) (ht : T.tasks = k :: tl) (hk : k.k = 1) (ho : oO D m t f = 0) (he : Chn M.envs (F.lf ++ F.lc) k.e) (it : Itm [] tl 0 0) (hs : StM (Op.X N D m M f F) tl k.n f.pc F.L F.lf sa L1 lp lb ex) (hd : (N.getD k.n nd0).k = 11) : PgZ N root D i M.stack s 1 m fu M := by
  have O := hs.hS.out
  have hM := h.stS ht hk O.n0
  unfold MD.stmt at hM
  simp (config := { decide := true }) only [hd, if_true, if_false] at hM
  rw [st_todo h.cl, st_th h.cl] at hM
  simp only at hM
  have h3 : k.k ≠ 3 := by omega
  have hlp := O.k11 hd
  obtain ⟨pre, k4, r, b1, b2, b3, b4, b5, b6, b7⟩ := (hs.brk hlp).brkT
  have hb : brkT ([⟨1, (N.getD k.n nd0).next, 0, k.e⟩] ++ tl) = some (k4.x, r) := by
    show brkT (⟨1, (N.getD k.n nd0).next, 0, k.e⟩ :: tl) = _
    unfold brkT
    rw [if_neg (by show ¬ (1 : Nat) = 4; decide)]
    exact b4
  rw [hb] at hM
  dsimp only at hM
  rw [st_up h.cl] at hM
  have hM : M.step N root = M.st { T with tasks := r, vals := T.vals.take k4.x } := hM
  obtain ⟨e, hy⟩ := Lay0.v11 hs.hy hd
  have hex := hs.hex hlp
  have ha := hs.ha
  obtain ⟨seg, e1, e2⟩ := h.seg ht h3
  -- the tasks from the loop's foot on
  obtain ⟨seg2, e3, e4⟩ : ∃ seg2, k4 :: r = seg2 ++ ⟨3, if f.prot then 1 else 0, F.low.length, none⟩ :: F.rest ∧ ∀ t ∈ seg2, t.k ≠ 3 := by
    have key : ∀ (pre seg : List TkD), pre ++ k4 :: r = seg ++ ⟨3, if f.prot then 1 else 0, F.low.length, none⟩ :: F.rest → (∀ t ∈ pre, t.k ≠ 3) → (∀ t ∈ seg, t.k ≠ 3) → ∃ seg2, k4 :: r = seg2 ++ ⟨3, if f.prot then 1 else 0, F.low.length, none⟩ :: F.rest ∧ ∀ t ∈ seg2, t.k ≠ 3 := by
      intro pre
      induction pre with
      | nil => intro seg q _ q3; exact ⟨seg, q, q3⟩
      | cons a pre ih =>
        intro seg q q2 q3
        cases seg with
        | nil =>
          exfalso
          have z : a = ⟨3, if f.prot then 1 else 0, F.low.length, none⟩ := by
            simp only [List.cons_append, List.nil_append, List.cons.injEq] at q
            exact q.1
          exact q2 a (by simp) (by rw [z])
        | cons b seg =>
          simp only [List.cons_append, List.cons.injEq] at q
          exact ih seg q.2 (fun t ht => q2 t (by simp [ht])) (fun t ht => q3 t (by simp [ht]))
    exact key pre seg (by rw [← b1, e1]) b3 e2
  have it4 : Itm [] (k4 :: r) 0 0 := by
    rw [b1] at it
    obtain ⟨h', w', w0, q⟩ := Itm.skip b3 it
    have z : Itm [] r 0 0 := by
      unfold Itm at q
      simp (config := { decide := true }) only [b2, if_true, if_false] at q
      exact q
    unfold Itm
    simp (config := { decide := true }) only [b2, if_true, if_false]
    exact z
  have hvT : ∀ {L0 : List Bs}, L0 <+: F.L → T.vals.take (F.low.length + hidc L0) = F.low ++ hidV t.stack f.base L0 := fun {L0} q => by
    have hlen := h.st0 ho
    have hv := h.vv
    rw [List.drop_of_length_le (Nat.le_of_eq hlen), List.append_nil] at hv
    obtain ⟨B, hB⟩ := q
    rw [hv, ← hB, hidV_app, ← List.append_assoc]
    exact List.take_left' (by rw [List.length_append, hidV_len])
  have b6 : k4.x = F.low.length + hidc (F.L.take lb) := b6
  have cb4 : ∀ {L0 : List Bs} {lf0 : List Nat}, L0 = F.L.take lb → lf0 = sfx F.lf F.L L0 → Cb (Op.X N D m M f F) (k4 :: r) false ex 0 L0 lf0 := fun {L0 lf0} q1 q2 => by
    unfold Cb
    simp (config := { decide := true }) only [b2, if_true, if_false]
    rw [q2, q1]
    exact ⟨trivial, b6, b7⟩
  refine PgZ.step (h.rel.w i).done ?_
  rw [hM]
  rcases hy with ⟨hlt, e2'⟩ | ⟨hlt, e2'⟩
  · subst e2'
    have hex : f.pc + 2 ≤ ex := hex
    have ha : AtC (D.fn (gO m f)).code f.pc [(29, lb), (21, ex)] := ha
    have hl : (F.L.take lb).length = lb := by rw [List.length_take]; omega
    rw [show (29, lb) = (29, (F.L.take lb).length) by rw [hl]] at ha
    obtain ⟨kk, hk1, r1, L1, hg⟩ := h.g29 ha
    obtain ⟨r2, L2⟩ := L1.g21 (by rw [hg]; exact ha.head.2) (by omega) fu
    have O := h.closeR ho (List.take_prefix _ _) hk1 (pc := ex) e3 e4 (cb4 rfl rfl) it4
    obtain ⟨K', rt', rm'⟩ := L2.rt
    have Op3 : Op N root D S K' _ fu s _ _ i _ _ _ fs _ := ⟨O, rt', rm'⟩
    rw [b6, hvT (List.take_prefix _ _)]
    refine PgZ.round r1 (PgZ.weak (PgZ.round r2 ?_))
    have R := Op3.k4T rfl b2
    rw [st_st] at R
    rcases R with ⟨seg, R⟩ | R
    · exact PgZ.rel R.rel h.cu rfl
    · exact PgZ.weak R
  · subst e2'
    have hex : f.pc + 1 ≤ ex := hex
    have ha : AtC (D.fn (gO m f)).code f.pc [(21, ex)] := ha
    have hlb : F.L.take lb = F.L := List.take_of_length_le (by have hlt : ¬ lb < F.L.length := hlt; omega)
    obtain ⟨r1, L1⟩ := h.ln.g21 ha (by omega) fu
    rw [h.mS_self] at r1
    have hsf : sfx F.lf F.L F.L = F.lf := by show F.lf.drop _ = _; rw [Nat.sub_self, List.drop_zero]
    have hlen := h.st0 ho
    have O := h.jmp (pc := ex) e3 e4 (by rw [ho]; exact cb4 hlb.symm hsf.symm) (by rw [ho]; exact it4.any)
    obtain ⟨K', rt', rm'⟩ := L1.rt
    have Op3 : Op N root D S K' _ fu s _ _ i _ _ _ fs _ := ⟨O, rt', rm'⟩
    refine PgZ.round r1 ?_
    have R := Op3.k4T rfl b2
    rw [st_st] at R
    have hv : T.vals.take k4.x = T.vals := by
      refine List.take_of_length_le ?_
      have := h.vlen
      rw [b6, hlb]
      omega
    rw [hv]
    rcases R with ⟨seg, R⟩ | R
    · exact PgZ.rel R.rel h.cu rfl
    · exact PgZ.weak R
end
end Go.Proofs.Qxb6500574aGreatDoor
