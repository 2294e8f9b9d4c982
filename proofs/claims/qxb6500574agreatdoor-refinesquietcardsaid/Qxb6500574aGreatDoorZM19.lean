/-
  moon: A NEW CLOSURE. Plain; no memory, no walk.
-/
import Derived.Test.Qxb6500574aGreatDoorZM18
namespace Go.Proofs.Qxb6500574aGreatDoor
set_option linter.unusedVariables false
set_option linter.unusedSimpArgs false
section
variable {N : List Nd} {root : Nat} {D : CmD} {S : Nat → Nat → Ty → Prop} {K : Cx} {m m1 : VMD} {fu s fu' s' : Nat} {M M' : MD} {P P' : List (Option Lc)} {i c : Nat} {t t' : ThD} {T T' : MTh} {f f' : FmD} {fs : List FmD} {F F' : FrIZ} {k : TkD} {tl : List TkD}
/-- the descriptors of the function x -/
structure Dsc (D : CmD) (m : VMD) (x : Nat) : Prop where
  lt : x < m.protos.length
  ds : (m.descs.drop (m.protos.getD x pr0).up).take (m.protos.getD x pr0).nup = (D.fn x).ups
theorem Op.dsc (h : Op N root D S K m fu s M P i t T f fs F) {x : Nat} {r : List In} (hc : AtC (D.fn (gO m f)).code f.pc ((28, x) :: r)) : Dsc D m x := by
  obtain ⟨a, r⟩ := h.rt.run
  have hcd := h.at_ hc
  have ok := r.G.ok
  have hcd' : (fxOf m (m.clos.getD f.clo cl0).p).code.getD f.pc (0, 0) = (28, x) := by rw [List.getD_eq_getElem?_getD, hcd]; rfl
  rw [hcd'] at ok
  unfold opOk at ok
  simp (config := { decide := true }) only [if_true, if_false] at ok
  obtain ⟨_, ⟨ds, o1, _⟩, _⟩ := ok
  have hl : x < m.protos.length := by
    have o1 : (m.protos[x]?).map (fun r => (m.descs.drop r.up).take r.nup) = some ds := o1
    cases hp : m.protos[x]? with
    | none => rw [hp] at o1; cases o1
    | some q => exact (List.getElem?_eq_some_iff.1 hp).1
  refine ⟨hl, ?_⟩
  have e := congrArg (fun X => Fx.ch X x) h.code
  have e : (m.protos[x]?).map (fun r => (m.descs.drop r.up).take r.nup) = if x < D.np then some (D.fn x).ups else none := e
  rw [if_pos (by rw [← (h.rel.w i).tx.np]; exact hl), List.getElem?_eq_getElem hl] at e
  have e : (m.descs.drop (m.protos[x]).up).take (m.protos[x]).nup = (D.fn x).ups := by simpa using e
  rw [List.getD_eq_getElem?_getD, List.getElem?_eq_getElem hl]
  exact e
theorem Op.nsk (h : Op N root D S K m fu s M P i t T f fs F) : (D.fn (gO m f)).nslots = K.ns f.clo := h.nsK
/-- A CLOSURE IS MADE -/
theorem Op0.clo (h : Op0 N root D m fu s M P i t T f fs F) (V : VI K m) (hns : (D.fn (gO m f)).nslots = K.ns f.clo) {x n : Nat} {e : Option Nat} (hd : Dsc D m x) (h0 : n ≠ 0) (hE : ExSZ N n) (hk : (N.getD n nd0).k = 20) (hx : (N.getD n nd0).n = x) (hF : FnR N D (Lay N D) (gO m f) F.L F.r (N.getD n nd0)) (he : Chn M.envs (F.lf ++ F.lc) e) (hlt : m.clos.length < 24) :
    ∃ m1 o, closure m i f.base f.clo x = (.inr m.clos.length, m1) ∧ (m1.clos.getD f.clo cl0 = m.clos.getD f.clo cl0 ∧ m1.tabs = m.tabs ∧ m1.out = m.out) ∧ Op0 N root D m1 fu s { M with clos := M.clos ++ [(n, e)] } P i { t with opn := o } T f fs F := by
  have W := h.rel.w i
  have fo := h.fo
  obtain ⟨lF, sF, F1, F2, F3, F4, F5, F6, F7, F8, F9, F10, F11, F12⟩ := hF
  rw [hx] at F8
  obtain ⟨_, F8⟩ := F8
  have ds := hd.ds
  have hmem : f ∈ t.frames := by rw [h.fr]; simp
  have hcl := fo.ci.lt
  have hL : F.L.length ≤ (D.fn (gO m f)).nslots := fo.ns
  have ux0 : (m.clos.getD f.clo cl0).up + (D.fn (gO m f)).ups.length ≤ m.upix.length := fo.ci.cr.ux
  obtain ⟨cs, k1, k2, k3, k4⟩ := closL_ok (P := P) (clo := f.clo) (i := i) (f := f) (D.fn x).ups m t V h.hi hmem (fun d hd h1 => by
    rcases F8 d hd with ⟨_, s, _, z⟩ | ⟨z, _⟩
    · have z : F.L[d.2]? = some s := z
      have := (List.getElem?_eq_some_iff.1 z).1
      omega
    · omega) (fun d hd h1 => by
    rcases F8 d hd with ⟨z, _⟩ | ⟨_, z⟩
    · exact absurd z h1
    · have z : d.2 < (D.fn (gO m f)).ups.length := z
      omega)
  generalize hmc : closL i f.base f.clo (D.fn x).ups m = mc at k1 k3 k4
  obtain ⟨g1, g2, g3, g4, g5, g6, g7, g8, g9⟩ := k3
  obtain ⟨q1, q2, q3, q4, q5, q6, q7⟩ := g9
  have hcl2 : mc.ths.length = m.ths.length := g7
  have hmi : ∃ o, mc.ths[i]? = some { t with opn := o } := by
    have hl : i < mc.ths.length := by rw [hcl2]; exact h.il
    refine ⟨mc.ths[i].opn, ?_⟩
    have e1 : mc.th i = mc.ths[i] := th_get (List.getElem?_eq_getElem hl)
    have e2 : m.th i = t := th_get h.hi
    rw [List.getElem?_eq_getElem hl]
    congr 1
    have a1 := g3 i; have a2 := g4 i; have a3 := g5 i; have a4 := g6 i
    rw [e1, e2] at a1 a2 a3 a4
    show mc.ths[i] = ThD.mk t.st t.fn t.stack t.frames mc.ths[i].opn
    rw [← a1, ← a2, ← a3, ← a4]
  obtain ⟨o, hmi⟩ := hmi
  have hcur : closure m i f.base f.clo x = (.inr m.clos.length, { mc with clos := mc.clos ++ [⟨x, m.upix.length, (m.protos.getD x pr0).nup⟩] }) := by
    unfold closure
    rw [if_neg (by omega)]
    dsimp only
    rw [ds, hmc]
  refine ⟨_, o, hcur, ⟨by show (mc.clos ++ _).getD f.clo cl0 = _; rw [q1, List.getD_eq_getElem?_getD, List.getElem?_append_left hcl, ← List.getD_eq_getElem?_getD], q6, q7⟩, ?_⟩
  have G : GrC m mc := ⟨g1, g2, g3, g4, g5, g6, g7, g8, q1, q2, q3, q4, q5, q6, q7⟩
  have vr : VrR { mc with clos := mc.clos ++ [⟨x, m.upix.length, (m.protos.getD x pr0).nup⟩] } M.envs P := (W.vr.grow G).keep (fun a y hy => ⟨(W.vr.grow G).st a y hy, rfl⟩) rfl
  have cm : ClM m { mc with clos := mc.clos ++ [⟨x, m.upix.length, (m.protos.getD x pr0).nup⟩] } P P := by
    refine ⟨by show m.clos.length ≤ (mc.clos ++ _).length; rw [q1]; simp, fun c hc => ?_, g8.length_le, fun z hz => pre_getD g8 hz, fun c a hc ha => (ha.grow G hc).keep rfl, g1⟩
    show (mc.clos ++ _).getD c cl0 = _
    rw [q1, List.getD_eq_getElem?_getD, List.getElem?_append_left hc, ← List.getD_eq_getElem?_getD]
  have tx : TxtT m { mc with clos := mc.clos ++ [⟨x, m.upix.length, (m.protos.getD x pr0).nup⟩] } := ⟨q2, q3, q4, q5, fun c hc => cm.cg c hc, cm.cl⟩
  have hnew : (mc.clos ++ [(⟨x, m.upix.length, (m.protos.getD x pr0).nup⟩ : ClD)]).getD m.clos.length cl0 = ⟨x, m.upix.length, (m.protos.getD x pr0).nup⟩ := by
    rw [q1, List.getD_eq_getElem?_getD, List.getElem?_append_right (Nat.le_refl _)]
    simp
  have ll : F.lf.length = (nmL F.L).length := by
    have := congrArg List.length fo.fe.nm
    simpa [nmN] using this
  have CI : ClI N D { mc with clos := mc.clos ++ [⟨x, m.upix.length, (m.protos.getD x pr0).nup⟩] } M.envs (M.clos ++ [(n, e)]) P m.clos.length n ((gO m f, F.L) :: F.r) (F.lf ++ F.lc) := by
    refine ⟨by show _ < (mc.clos ++ _).length; rw [q1]; simp, ⟨e, by rw [List.getElem?_append_right (by rw [W.cl]; exact Nat.le_refl _), W.cl]; simp, he⟩, ?_, ?_⟩
    · show ClRZ D _ M.envs P m.clos.length ((mc.clos ++ _).getD m.clos.length cl0).p _ _
      rw [hnew]
      refine ⟨?_, ?_, fun y hy => ?_⟩
      · rw [nmN_app, fo.fe.nm, fo.ci.cr.nm]
        simp [nmR]
      · show ((mc.clos ++ _).getD m.clos.length cl0).up + _ ≤ mc.upix.length
        rw [hnew, k1, List.length_append, k2]
        exact Nat.le_refl _
      · have hy : y < (D.fn x).ups.length := hy
        show ∃ n', upNode D ((gO m f, F.L) :: F.r) x (F.lf ++ F.lc) y = some n' ∧ CeN _ P (mc.upix.getD (((mc.clos ++ _).getD m.clos.length cl0).up + y) 0) n' ∧ mc.upix.getD (((mc.clos ++ _).getD m.clos.length cl0).up + y) 0 < mc.cells.length
        rw [hnew, k1]
        have hcs : (m.upix ++ cs).getD (m.upix.length + y) 0 = cs.getD y 0 := by
          rw [List.getD_eq_getElem?_getD, List.getElem?_append_right (by omega), List.getD_eq_getElem?_getD]
          congr 2
          omega
        rw [hcs]
        have hy' := List.getElem?_eq_getElem hy
        have hmemd : (D.fn x).ups[y] ∈ (D.fn x).ups := List.getElem_mem hy
        rcases F8 _ hmemd with ⟨d1, s, d2, d3⟩ | ⟨d1, d2⟩
        · obtain ⟨a, a1, a2⟩ := fo.fe.at_ _ s d3 d2
          refine ⟨a, ?_, ?_⟩
          · unfold upNode
            rw [hy']
            dsimp only
            rw [if_pos d1, List.getElem?_append_left (List.getElem?_eq_some_iff.1 a1).1]
            exact a1
          · exact k4 y _ hy' a (.inl ⟨d1, a2⟩)
        · obtain ⟨a, a1, a2, a3⟩ := fo.ci.cr.up _ d2
          refine ⟨a, ?_, ?_⟩
          · unfold upNode
            rw [hy']
            dsimp only
            rw [if_neg (by rw [d1]; decide), ← ll, List.drop_left]
            exact a1
          · exact k4 y _ hy' a (.inr ⟨by rw [d1]; decide, by have d2 : (D.fn x).ups[y].2 < (D.fn (gO m f)).ups.length := d2; omega, a2, a3⟩)
    · show _ ∨ (_ ∧ _ ∧ _ ∧ _ = ((mc.clos ++ _).getD m.clos.length cl0).p ∧ _)
      rw [hnew]
      exact .inr ⟨h0, hE, hk, hx, _, _, _, rfl, lF, sF, F1, F2, F3, F4, F5, F6, F7, by rw [hx]; exact ⟨by assumption, F8⟩, F9, F10, F11, F12⟩
  have MV : MvW N D m { mc with clos := mc.clos ++ [⟨x, m.upix.length, (m.protos.getD x pr0).nup⟩] } M { M with clos := M.clos ++ [(n, e)] } P P i := by
    refine ⟨by show M.out = mc.out; rw [q7]; exact W.out, by show M.tabs = mc.tabs; rw [q6]; exact W.tabs, W.done, rfl, rfl, tx, ⟨T, (set_self h.hT).symm⟩, hcl2, fun j u hj hu => ?_, cm, EGr.refl _, List.prefix_append _ _, by show (M.clos ++ _).length = (mc.clos ++ _).length; rw [q1, List.length_append, List.length_append, W.cl]; rfl, fun c c1 c2 => ?_, vr, W.ac, fun _ _ _ _ => Iff.rfl⟩
    · have hu : mc.ths[j]? = some u := hu
      have hl : j < m.ths.length := by rw [← hcl2]; exact (List.getElem?_eq_some_iff.1 hu).1
      have e1 := th_get hu
      have e2 := th_get (List.getElem?_eq_getElem hl)
      refine ⟨_, List.getElem?_eq_getElem hl, ?_, ?_, ?_, ?_, fun q _ => ?_⟩
      · rw [← e1, ← e2]; exact g5 j
      · rw [← e1, ← e2]; exact g6 j
      · rw [← e1, ← e2]; exact g4 j
      · rw [← e1, ← e2, g3 j]
      · rw [← e1, ← e2, g3 j]
    · have c2 : c < (mc.clos ++ [_]).length := c2
      rw [q1] at c2
      have : c = m.clos.length := by simp at c2; omega
      subst this
      exact ⟨_, _, _, CI⟩
  refine h.put (T' := T) (t' := { t with opn := o }) (f' := f) (F' := F) MV W.fuel W.first (set_self h.hT).symm hmi h.st4 rfl h.fr ⟨rfl, rfl⟩ h.tst rfl rfl rfl rfl ?_ ?_
  · have hgO : ({ mc with clos := mc.clos ++ [⟨x, m.upix.length, (m.protos.getD x pr0).nup⟩] } : VMD).clos.getD f.clo cl0 = m.clos.getD f.clo cl0 := cm.cg _ hcl
    exact fo.keep ⟨rfl, rfl, rfl, cm, EGr.refl _, List.prefix_append _ _, Nat.le_refl _, Nat.le_refl _, fun _ _ _ => rfl, fun _ _ _ => Iff.rfl⟩
  · have hret := fo.ret
    have hle : f.base + (D.fn (gO m f)).nslots ≤ t.stack.length := fo.le
    exact ⟨rfl, rfl, rfl, cm, EGr.refl _, List.prefix_append _ _, by show f.ret ≤ t.stack.length; omega, by show f.ret ≤ t.stack.length; omega, fun _ _ _ => rfl, fun _ _ _ => Iff.rfl⟩
end
end Go.Proofs.Qxb6500574aGreatDoor
