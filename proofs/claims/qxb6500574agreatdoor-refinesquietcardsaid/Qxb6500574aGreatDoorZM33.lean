/-
  moon: STATEMENTS BEGIN, continued. Plain; no memory, no walk.
-/
import Derived.Test.Qxb6500574aGreatDoorZM32
namespace Go.Proofs.Qxb6500574aGreatDoor
set_option linter.unusedVariables false
set_option linter.unusedSimpArgs false
section
variable {N : List Nd} {root : Nat} {D : CmD} {S : Nat → Nat → Ty → Prop} {K : Cx} {m m1 : VMD} {fu s fu' s' : Nat} {M M' : MD} {P P' : List (Option Lc)} {i c : Nat} {t t' : ThD} {T T' : MTh} {f f' : FmD} {fs : List FmD} {F F' : FrIZ} {k : TkD} {tl : List TkD} {stk : List Vl} {pc : Nat} {sa : List In} {L1 : List Bs} {lp : Bool} {lb ex : Nat}
theorem Cb_at {X : FX} {ts : List TkD} {p q h : Nat} {L : List Bs} {lf : List Nat} (g : Cb X ts false p h L lf) (e : p = q) : Cb X ts false q h L lf := e ▸ g
/-- assignment -/
theorem Op.s4 (h : Op N root D S K m fu s M P i t T f fs F) (ht : T.tasks = k :: tl) (hk : k.k = 1) (ho : oO D m t f = 0) (he : Chn M.envs (F.lf ++ F.lc) k.e) (it : Itm [] tl 0 0) (hs : StM (Op.X N D m M f F) tl k.n f.pc F.L F.lf sa L1 lp lb ex) (hd : (N.getD k.n nd0).k = 4) : PgZ N root D i M.stack s 1 m fu M := by
  have O := hs.hS.out
  have hM := h.stS ht hk O.n0
  unfold MD.stmt at hM
  simp (config := { decide := true }) only [hd, if_true, if_false] at hM
  rw [st_todo h.cl, st_todo h.cl, st_todo h.cl] at hM
  have h3 : k.k ≠ 3 := by omega
  obtain ⟨O1, O2, O3⟩ := O.k4 hd
  obtain ⟨e, hy⟩ := Lay0.v4 hs.hy hd
  subst e
  have cbN := Cb_blk he hs.rest
  have itN : Itm [] (⟨1, (N.getD k.n nd0).next, 0, k.e⟩ :: tl) 0 0 := Itm_blk it
  have ha := hs.ha
  rcases hy with ⟨h17, s1, ins, e2, hy, hv⟩ | ⟨h17, s1, s2, s3, e2, hy1, hy2, hy3⟩
  · subst e2
    have h17 : (N.getD (N.getD k.n nd0).a nd0).k = 17 := h17
    rw [if_pos h17] at hM
    obtain ⟨a1, a2⟩ := ha.split (.inr trivial)
    refine h.unf ht h3 (a := (N.getD k.n nd0).b) (x := 0) (e := k.e) (new := [⟨9, (N.getD k.n nd0).a, 0, k.e⟩, ⟨1, (N.getD k.n nd0).next, 0, k.e⟩]) (by simp) hM (Cb_2 he a1 (.inr O3) hy ?_) (Itm_else (by decide) itN)
    rw [ho]
    show Cb _ (_ :: _ :: tl) _ _ _ _ _
    unfold Cb
    simp (config := { decide := true }) only [if_true, if_false]
    exact ⟨trivial, he, O2.out.k17 h17, ins, a2, hv, Cb_at cbN (by rw [List.length_append]; rfl)⟩
  · subst e2
    have h17 : ¬ (N.getD (N.getD k.n nd0).a nd0).k = 17 := h17
    rw [if_neg h17] at hM
    have h18 := O1.resolve_left h17
    obtain ⟨E1, E2⟩ := O2.out.k18 h18
    rw [List.append_assoc, List.append_assoc] at ha
    obtain ⟨a1, a2⟩ := ha.split (.inr trivial)
    obtain ⟨a2, a3⟩ := a2.split (.inr trivial)
    obtain ⟨a3, a4⟩ := a3.split (.inr trivial)
    refine h.unf ht h3 (a := (N.getD (N.getD k.n nd0).a nd0).a) (x := 0) (e := k.e) (new := [⟨2, (N.getD (N.getD k.n nd0).a nd0).b, 0, k.e⟩, ⟨2, (N.getD k.n nd0).b, 0, k.e⟩, ⟨10, 0, 0, k.e⟩, ⟨1, (N.getD k.n nd0).next, 0, k.e⟩]) (by simp) hM (Cb_2 he a1 (.inr E1) hy1 (Cb_2 he a2 (.inr E2) hy2 (Cb_2 he a3 (.inr O3) hy3 ?_))) (Itm_2 (Itm_2 (Itm_else (by decide) itN)))
    rw [ho]
    show Cb _ (_ :: _ :: tl) _ _ _ _ _
    unfold Cb
    simp (config := { decide := true }) only [if_true, if_false]
    exact ⟨trivial, a4, Cb_at cbN (by simp only [List.length_append, List.length_singleton]; omega)⟩
/-- a call alone -/
theorem Op.s5 (h : Op N root D S K m fu s M P i t T f fs F) (ht : T.tasks = k :: tl) (hk : k.k = 1) (ho : oO D m t f = 0) (he : Chn M.envs (F.lf ++ F.lc) k.e) (it : Itm [] tl 0 0) (hs : StM (Op.X N D m M f F) tl k.n f.pc F.L F.lf sa L1 lp lb ex) (hd : (N.getD k.n nd0).k = 5) : PgZ N root D i M.stack s 1 m fu M := by
  have O := hs.hS.out
  have hM := h.stS ht hk O.n0
  unfold MD.stmt at hM
  simp (config := { decide := true }) only [hd, if_true, if_false] at hM
  rw [st_todo h.cl, st_todo h.cl] at hM
  have h3 : k.k ≠ 3 := by omega
  obtain ⟨O1, O2⟩ := O.k5 hd
  obtain ⟨e, s1, e2, kk, hy⟩ := Lay0.v5 hs.hy hd
  subst e e2
  have cbN := Cb_blk he hs.rest
  have itN : Itm [] (⟨1, (N.getD k.n nd0).next, 0, k.e⟩ :: tl) 0 0 := Itm_blk it
  have ha : AtC (D.fn (gO m f)).code f.pc ((s1 ++ [(25, 0)]) ++ [(25, 0)]) := by
    have := hs.ha
    rw [List.append_assoc]
    exact this
  obtain ⟨a1, a2⟩ := ha.split (.inr trivial)
  have hy1 : Lay N D 1 ((gO m f, F.L) :: F.r) (N.getD k.n nd0).a f.pc (s1 ++ [(25, 0)]) [] 0 0 := by
    refine ⟨kk + 1, ?_⟩
    show LayB N D (LayN N D kk) 1 (gO m f) F.L F.r (N.getD k.n nd0).a f.pc (s1 ++ [(25, 0)]) [] 0 0
    exact .inl ⟨rfl, .inr (.inr (.inr (.inr (.inr (.inr (.inr (.inl ⟨O1, s1, rfl, hy⟩)))))))⟩
  refine h.unf ht h3 (a := (N.getD k.n nd0).a) (x := 0) (e := k.e) (new := [⟨5, 0, 0, none⟩, ⟨1, (N.getD k.n nd0).next, 0, k.e⟩]) (by simp) hM (Cb_2 he a1 (.inr O2) hy1 ?_) ?_
  · rw [ho]
    show Cb _ (_ :: _ :: tl) _ _ _ _ _
    unfold Cb
    simp (config := { decide := true }) only [if_true, if_false]
    exact ⟨trivial, a2, Cb_at cbN (by simp only [List.length_append, List.length_singleton, List.length_cons, List.length_nil]; omega)⟩
  · rw [ho]
    show Itm _ (_ :: _ :: tl) _ _
    unfold Itm
    simp (config := { decide := true }) only [if_true, if_false]
    exact Itm_blk it.any
/-- if -/
theorem Op.s6 (h : Op N root D S K m fu s M P i t T f fs F) (ht : T.tasks = k :: tl) (hk : k.k = 1) (ho : oO D m t f = 0) (he : Chn M.envs (F.lf ++ F.lc) k.e) (it : Itm [] tl 0 0) (hs : StM (Op.X N D m M f F) tl k.n f.pc F.L F.lf sa L1 lp lb ex) (hd : (N.getD k.n nd0).k = 6) : PgZ N root D i M.stack s 1 m fu M := by
  have O := hs.hS.out
  have hM := h.stS ht hk O.n0
  unfold MD.stmt at hM
  simp (config := { decide := true }) only [hd, if_true, if_false] at hM
  rw [st_todo h.cl, st_todo h.cl] at hM
  have h3 : k.k ≠ 3 := by omega
  obtain ⟨O1, O2, O3⟩ := O.k6 hd
  obtain ⟨e, s1, s2, s3, e2, hy, hy2, hy3⟩ := Lay0.v6 hs.hy hd
  have hex := hs.hex
  subst e e2
  have cbN := Cb_blk he hs.rest
  have itN : Itm [] (⟨1, (N.getD k.n nd0).next, 0, k.e⟩ :: tl) 0 0 := Itm_blk it
  have ha := hs.ha
  rw [List.append_assoc] at ha
  obtain ⟨a1, a2⟩ := ha.split (.inr trivial)
  have a2 : AtC (D.fn (gO m f)).code (f.pc + s1.length) ((22, f.pc + (s1.length + 1 + s2.length + 1)) :: (s2 ++ (21, f.pc + (s1.length + 1 + s2.length + 1 + s3.length)) :: s3)) := a2
  have q1 : f.pc + (s1.length + 1) = f.pc + s1.length + 1 := by omega
  have q2 : f.pc + (s1.length + 1 + s2.length + 1) = f.pc + s1.length + (1 + s2.length + 1) := by omega
  have q3 : f.pc + (s1.length + 1 + s2.length + 1 + s3.length) = f.pc + s1.length + (1 + s2.length + 1 + s3.length) := by omega
  rw [q1] at hy2
  rw [q2] at hy3 a2
  rw [q3] at a2
  have b1 := (a2.head.2.split (.inr trivial)).1
  have b2 : AtC (D.fn (gO m f)).code (f.pc + s1.length + (1 + s2.length + 1)) s3 := by
    have := (a2.head.2.split (.inr trivial)).2.head.2
    rw [show f.pc + s1.length + 1 + s2.length + 1 = f.pc + s1.length + (1 + s2.length + 1) by omega] at this
    exact this
  have hlen : f.pc + (s1 ++ (22, f.pc + (s1.length + 1 + s2.length + 1)) :: s2 ++ (21, f.pc + (s1.length + 1 + s2.length + 1 + s3.length)) :: s3).length = f.pc + s1.length + (1 + s2.length + 1 + s3.length) := by
    simp only [List.length_append, List.length_cons]
    omega
  have hex : lp = true → f.pc + s1.length + (1 + s2.length + 1 + s3.length) ≤ ex := fun z => by
    have := hex z
    omega
  have cbN := Cb_at cbN hlen
  refine h.unf ht h3 (a := (N.getD k.n nd0).a) (x := 0) (e := k.e) (new := [⟨11, k.n, 0, k.e⟩, ⟨1, (N.getD k.n nd0).next, 0, k.e⟩]) (by simp) hM (Cb_2 he a1 (.inr O1) hy ?_) (Itm_else (by decide) itN)
  rw [ho]
  show Cb _ (_ :: _ :: tl) _ _ _ _ _
  unfold Cb
  simp (config := { decide := true }) only [if_true, if_false]
  refine ⟨trivial, he, s2, s3, lp, lb, ex, a2, ?_, ?_, fun z => ?_, cbN⟩
  · exact blk_at (X := Op.X N D m M f F) hy2 O2 b1 (fun z => by have := hex z; omega)
  · have := blk_at (X := Op.X N D m M f F) hy3 O3 b2 (fun z => by have := hex z; omega)
    rw [show f.pc + s1.length + (1 + s2.length + 1) + s3.length = f.pc + s1.length + (1 + s2.length + 1 + s3.length) by omega] at this
    exact this
  · unfold Cb
    simp (config := { decide := true }) only [if_true, if_false]
    exact hs.brk z
/-- return -/
theorem Op.s10 (h : Op N root D S K m fu s M P i t T f fs F) (ht : T.tasks = k :: tl) (hk : k.k = 1) (ho : oO D m t f = 0) (he : Chn M.envs (F.lf ++ F.lc) k.e) (it : Itm [] tl 0 0) (hs : StM (Op.X N D m M f F) tl k.n f.pc F.L F.lf sa L1 lp lb ex) (hd : (N.getD k.n nd0).k = 10) : PgZ N root D i M.stack s 1 m fu M := by
  have O := hs.hS.out
  have hM := h.stS ht hk O.n0
  unfold MD.stmt at hM
  simp (config := { decide := true }) only [hd, if_true, if_false] at hM
  rw [st_todo h.cl, st_todo h.cl] at hM
  have h3 : k.k ≠ 3 := by omega
  obtain ⟨O1, O2⟩ := O.k10 hd
  obtain ⟨e, s1, s2, e2, hy, hy2⟩ := Lay0.v10 hs.hy hd
  subst e e2
  have itN : Itm [] (⟨1, (N.getD k.n nd0).next, 0, k.e⟩ :: tl) 0 0 := Itm_blk it
  have ha := hs.ha
  rw [List.append_assoc] at ha
  obtain ⟨a1, a2⟩ := ha.split (.inr trivial)
  obtain ⟨a2, a3⟩ := a2.split (.inr trivial)
  refine h.unf ht h3 (a := (N.getD k.n nd0).a) (x := 0) (e := k.e) (new := [⟨2, (N.getD k.n nd0).b, 0, k.e⟩, ⟨21, 0, 0, none⟩, ⟨1, (N.getD k.n nd0).next, 0, k.e⟩]) (by simp) hM (Cb_2 he a1 O1 hy (Cb_2 he a2 O2 hy2 ?_)) (Itm_2 (Itm_else (by decide) itN))
  rw [ho]
  show Cb _ (_ :: _ :: tl) _ _ _ _ _
  unfold Cb
  simp (config := { decide := true }) only [if_true, if_false]
  exact ⟨trivial, a3⟩
/-- while -/
theorem Op.s7 (h : Op N root D S K m fu s M P i t T f fs F) (ht : T.tasks = k :: tl) (hk : k.k = 1) (ho : oO D m t f = 0) (he : Chn M.envs (F.lf ++ F.lc) k.e) (it : Itm [] tl 0 0) (hs : StM (Op.X N D m M f F) tl k.n f.pc F.L F.lf sa L1 lp lb ex) (hd : (N.getD k.n nd0).k = 7) : PgZ N root D i M.stack s 1 m fu M := by
  have O := hs.hS.out
  have hM := h.stS ht hk O.n0
  unfold MD.stmt at hM
  simp (config := { decide := true }) only [hd, if_true, if_false] at hM
  rw [st_todo h.cl, st_todo h.cl, st_th h.cl] at hM
  simp only at hM
  have h3 : k.k ≠ 3 := by omega
  obtain ⟨O1, O2⟩ := O.k7 hd
  obtain ⟨e, s1, s2, e2, hy, hy2⟩ := Lay0.v7 hs.hy hd
  subst e e2
  have cbN := Cb_blk he hs.rest
  have itN : Itm [] (⟨1, (N.getD k.n nd0).next, 0, k.e⟩ :: tl) 0 0 := Itm_blk it
  have ha := hs.ha
  have hvl : T.vals.length = F.low.length + hidc F.L := by have := h.vlen; omega
  rw [hvl] at hM
  have hb := ha
  rw [List.append_assoc] at hb
  have hb := (hb.split (.inr trivial)).2
  have hb : AtC (D.fn (gO m f)).code (f.pc + s1.length) ((22, f.pc + (s1.length + 1 + s2.length + 1)) :: (s2 ++ [(21, f.pc)])) := hb
  have hb := (hb.head.2.split (.inr trivial)).1
  have ws : WhS (Op.X N D m M f F) F.L k.n f.pc s1 s2 := ⟨hd, ha, O1, hy, by
    have := blk_at (X := Op.X N D m M f F) (lp := true) hy2 O2 (by rw [show f.pc + (s1.length + 1) = f.pc + s1.length + 1 by omega]; exact hb) (fun z => by omega)
    exact this⟩
  have hlen : f.pc + (s1 ++ (22, f.pc + (s1.length + 1 + s2.length + 1)) :: s2 ++ [(21, f.pc)]).length = f.pc + (s1.length + 1 + s2.length + 1) := by
    simp only [List.length_append, List.length_cons, List.length_singleton, List.length_nil]
    omega
  have cbN := Cb_at cbN hlen
  have cb4 : Cb (Op.X N D m M f F) (⟨4, 0, F.low.length + hidc F.L, none⟩ :: ⟨1, (N.getD k.n nd0).next, 0, k.e⟩ :: tl) false (f.pc + (s1.length + 1 + s2.length + 1)) 0 F.L F.lf := by
    unfold Cb
    simp (config := { decide := true }) only [if_true, if_false]
    exact ⟨trivial, trivial, .inl cbN⟩
  obtain ⟨seg, O⟩ := h.exp ht h3 (new := [⟨12, k.n, 0, k.e⟩, ⟨4, 0, F.low.length + hidc F.L, none⟩, ⟨1, (N.getD k.n nd0).next, 0, k.e⟩]) (by simp) (by
    rw [ho]
    show Cb _ (_ :: _ :: _ :: tl) _ _ _ _ _
    unfold Cb
    simp (config := { decide := true }) only [if_true, if_false]
    exact ⟨trivial, he, s1, s2, ws, rfl, cb4⟩) (Itm_else (by decide) (Itm_else (by decide) itN))
  refine PgZ.step (h.rel.w i).done ?_
  rw [hM]
  exact O.k12 rfl rfl
end
end Go.Proofs.Qxb6500574aGreatDoor
