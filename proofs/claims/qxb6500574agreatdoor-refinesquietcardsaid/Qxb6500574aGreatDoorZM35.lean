/-
  moon: LOCAL FUNCTION. Plain; no memory, no walk.
-/
import Derived.Test.Qxb6500574aGreatDoorZM34
namespace Go.Proofs.Qxb6500574aGreatDoor
set_option linter.unusedVariables false
set_option linter.unusedSimpArgs false
theorem setLast {α : Type} (l : List α) (a b : α) : (l ++ [a]).set l.length b = l ++ [b] := by
  rw [List.set_append_right _ _ (Nat.le_refl _), Nat.sub_self]
  rfl
theorem getLastD {α : Type} (l : List α) (a d : α) : (l ++ [a]).getD l.length d = a := by
  rw [List.getD_eq_getElem?_getD, List.getElem?_append_right (Nat.le_refl _)]
  simp
theorem Lay1.v20 {N : List Nd} {D : CmD} {f : Nat} {L : List Bs} {r : En} {n p : Nat} {s : List In} {L' : List Bs} {lb ex : Nat} (h : Lay N D 1 ((f, L) :: r) n p s L' lb ex) (hd : (N.getD n nd0).k = 20) : s = [(28, (N.getD n nd0).n)] ∧ FnR N D (Lay N D) f L r (N.getD n nd0) := by
  rcases h.out with ⟨_, h⟩ | ⟨z, _⟩ | ⟨z, _⟩ | ⟨z, _⟩
  · rcases h with g | g | g | g | g | g | g | g | g | g | g | g | g
    all_goals first
      | exact g.2
      | (exfalso; have z := g.1; simp only [hd] at z; omega)
  · cases z
  · cases z
  · cases z
section
variable {N : List Nd} {root : Nat} {D : CmD} {S : Nat → Nat → Ty → Prop} {K : Cx} {m m1 : VMD} {fu s fu' s' : Nat} {M M' : MD} {P P' : List (Option Lc)} {i c : Nat} {t t' : ThD} {T T' : MTh} {f f' : FmD} {fs : List FmD} {F F' : FrIZ} {k : TkD} {tl : List TkD} {stk : List Vl} {pc : Nat} {sa : List In} {L1 : List Bs} {lp : Bool} {lb ex : Nat}
theorem Op.plt (h : Op N root D S K m fu s M P i t T f fs F) : gO m f < m.protos.length := by
  obtain ⟨q, p, k1, k2, k3, k4, k5, _⟩ := h.rt.at_.vi.proto h.rt.at_.clo
  have e1 : m.clos.getD f.clo cl0 = q := by simp [k1]
  show (m.clos.getD f.clo cl0).p < _
  rw [e1]
  exact (List.getElem?_eq_some_iff.1 k2).1
theorem Op.tS_self (h : Op N root D S K m fu s M P i t T f fs F) : tS t f fs t.stack f.pc = t := by
  have hf : fs.reverse ++ [{ f with pc := f.pc }] = t.frames := h.fr.symm
  show ({ t with stack := t.stack, frames := fs.reverse ++ [{ f with pc := f.pc }] } : ThD) = t
  rw [hf]
theorem Op.s3 (h : Op N root D S K m fu s M P i t T f fs F) (ht : T.tasks = k :: tl) (hk : k.k = 1) (ho : oO D m t f = 0) (he : Chn M.envs (F.lf ++ F.lc) k.e) (it : Itm [] tl 0 0) (hs : StM (Op.X N D m M f F) tl k.n f.pc F.L F.lf sa L1 lp lb ex) (hd : (N.getD k.n nd0).k = 3) : PgZ N root D i M.stack s 1 m fu M := by
  have O := hs.hS.out
  have hM := h.stS ht hk O.n0
  unfold MD.stmt at hM
  simp (config := { decide := true }) only [hd, if_true, if_false] at hM
  rw [st_todo h.cl] at hM
  have h3 : k.k ≠ 3 := by omega
  have W := h.rel.w i
  obtain ⟨O1, O2, O3⟩ := O.k3 hd
  obtain ⟨e, hl, s1, e2, hy⟩ := Lay0.v3 hs.hy hd
  have rest := hs.rest
  have ha := hs.ha
  subst e e2
  -- the function's code
  obtain ⟨e3, hF⟩ : s1 = [(28, (N.getD (N.getD k.n nd0).a nd0).n)] ∧ FnR N D (Lay N D) (gO m f) (F.L ++ [(N.getD k.n nd0).s]) F.r (N.getD (N.getD k.n nd0).a nd0) := by
    have hy : Lay N D 1 ((gO m f, F.L ++ [(N.getD k.n nd0).s]) :: F.r) (N.getD k.n nd0).a f.pc s1 [] 0 0 := hy
    exact Lay1.v20 hy O2
  subst e3
  have ha : AtC (D.fn (gO m f)).code f.pc [(28, (N.getD (N.getD k.n nd0).a nd0).n), (6, F.L.length)] := ha
  have hc := ha.one
  have hl : F.L.length < (D.fn (gO m f)).nslots := by
    have hl : (F.L ++ [(N.getD k.n nd0).s]).length ≤ (D.fn (gO m f)).nslots := hl
    simp at hl
    omega
  have rest : BlkC (Op.X N D m M f F) tl (N.getD k.n nd0).next (f.pc + 2) F.L F.lf (F.L ++ [(N.getD k.n nd0).s]) := rest
  have hcl := W.cl
  -- the interpreter
  have hM : M.step N root = { M.st { T with tasks := ⟨2, (N.getD k.n nd0).a, 0, some M.envs.length⟩ :: ⟨8, k.n, 0, some M.envs.length⟩ :: tl } with envs := M.envs ++ [⟨(N.getD k.n nd0).s, nilV, k.e⟩] } := hM
  have hT1 : (M.step N root).ths[(M.step N root).cur]? = some { T with tasks := ⟨2, (N.getD k.n nd0).a, 0, some M.envs.length⟩ :: ⟨8, k.n, 0, some M.envs.length⟩ :: tl } := by
    rw [hM]
    show (M.ths.set M.cur _)[M.cur]? = _
    rw [List.getElem?_set_self h.cl]
  have hd1 : (M.step N root).done = none := by rw [hM]; exact W.done
  have hM2 := step_is (N := N) (root := root) hT1 rfl
  unfold stK at hM2
  simp (config := { decide := true }) only [if_true, if_false] at hM2
  unfold MD.eval at hM2
  simp (config := { decide := true }) only [O3.out.n0, O2, if_true, if_false] at hM2
  have hc1 : ((M.step N root).st { T with tasks := ⟨8, k.n, 0, some M.envs.length⟩ :: tl }).clos = M.clos := by rw [hM]; rfl
  rw [hc1] at hM2
  refine PgZ.step W.done (PgZ.step hd1 ?_)
  by_cases hg : m.clos.length ≥ 24
  · rw [if_pos (by omega)] at hM2
    rw [hM2]
    refine PgZ.trap (e := 8) (fu' := fu) (m1 := m) ?_ ?_
    · rw [h.rt.rdp (h.at_ hc) (by decide)]
      have hp : plainP m i 28 (N.getD (N.getD k.n nd0).a nd0).n = (.inl (.inr 8), m) := by
        unfold plainP
        simp (config := { decide := true }) only [if_true, if_false]
        unfold closure
        rw [if_pos hg]
        rfl
      rw [hp]
      rfl
    · rw [hM]
      show some (AnD.mk 8 M.fuel M.first M.out [45]) = _
      rw [W.fuel, W.first, W.out]
  · rw [if_neg (by omega)] at hM2
    have hM2 : (M.step N root).step N root = { M.st { T with tasks := ⟨8, k.n, 0, some M.envs.length⟩ :: tl, vals := T.vals ++ [⟨5, m.clos.length, []⟩] } with envs := M.envs ++ [⟨(N.getD k.n nd0).s, nilV, k.e⟩], clos := M.clos ++ [((N.getD k.n nd0).a, some M.envs.length)] } := by
      rw [hM2, hM, hcl]
      have := st_push (M := { M with envs := M.envs ++ [⟨(N.getD k.n nd0).s, nilV, k.e⟩] }) (T := { T with tasks := ⟨8, k.n, 0, some M.envs.length⟩ :: tl }) h.cl [⟨5, m.clos.length, []⟩]
      have e1 : (({ M.st { T with tasks := ⟨2, (N.getD k.n nd0).a, 0, some M.envs.length⟩ :: ⟨8, k.n, 0, some M.envs.length⟩ :: tl } with envs := M.envs ++ [⟨(N.getD k.n nd0).s, nilV, k.e⟩] } : MD).st { T with tasks := ⟨8, k.n, 0, some M.envs.length⟩ :: tl }) = ({ M with envs := M.envs ++ [⟨(N.getD k.n nd0).s, nilV, k.e⟩] } : MD).st { T with tasks := ⟨8, k.n, 0, some M.envs.length⟩ :: tl } := by
        simp [MD.st]
      rw [e1, this]
      rfl
    generalize hMM2 : (M.step N root).step N root = MM2 at hM2 ⊢
    have hT2 : MM2.ths[MM2.cur]? = some { T with tasks := ⟨8, k.n, 0, some M.envs.length⟩ :: tl, vals := T.vals ++ [⟨5, m.clos.length, []⟩] } := by
      rw [hM2]
      show (M.ths.set M.cur _)[M.cur]? = _
      rw [List.getElem?_set_self h.cl]
    have hd2 : MM2.done = none := by rw [hM2]; exact W.done
    have hM3 := step_is (N := N) (root := root) hT2 rfl
    unfold stK at hM3
    simp (config := { decide := true }) only [if_true, if_false] at hM3
    have hcl2 : MM2.cur < MM2.ths.length := (List.getElem?_eq_some_iff.1 hT2).1
    rw [st_top hcl2, st_pops hcl2, st_todo hcl2] at hM3
    simp only [Option.getD_some] at hM3
    have hv3 : (T.vals ++ [(⟨5, m.clos.length, []⟩ : Vl)]).getD ((T.vals ++ [(⟨5, m.clos.length, []⟩ : Vl)]).length - 1 - 0) nilV = ⟨5, m.clos.length, []⟩ := by
      rw [List.getD_eq_getElem?_getD, List.getElem?_append_right (by simp)]
      simp
    rw [hv3, take_sub (A := T.vals) (B := [(⟨5, m.clos.length, []⟩ : Vl)]) (n := 1) rfl] at hM3
    have hM3 : MM2.step N root = { M.st { T with tasks := ⟨1, (N.getD k.n nd0).next, 0, some M.envs.length⟩ :: tl } with envs := M.envs ++ [⟨(N.getD k.n nd0).s, ⟨5, m.clos.length, []⟩, k.e⟩], clos := M.clos ++ [((N.getD k.n nd0).a, some M.envs.length)] } := by
      rw [hM3, hM2]
      simp only [MD.st, List.set_set, List.cons_append, List.nil_append]
      rw [getLastD, setLast]
    refine PgZ.step hd2 ?_
    rw [hM3]
    -- the variable is there, with whatever lies in its slot
    obtain ⟨seg, e1, e2⟩ := h.seg ht h3
    have hlen := h.st0 ho
    have dc := (h.toOp0.dc (stk := t.stack) (pc := f.pc) h.le (fun q _ => rfl)).new O1 (e := k.e) he.head h.fo.ret (by omega) (by rw [mS_th h.il]) (v := t.stack.getD (f.base + F.L.length) nilV) (by rw [mS_th h.il])
    have he' := chn_new he (N.getD k.n nd0).s (t.stack.getD (f.base + F.L.length) nilV)
    have cbB : Cb ⟨N, D, gO m f, F.r, M.envs ++ [⟨(N.getD k.n nd0).s, t.stack.getD (f.base + F.L.length) nilV, k.e⟩], F.lc, F.low.length⟩ (⟨1, (N.getD k.n nd0).next, 0, some M.envs.length⟩ :: tl) false (f.pc + 2) 0 (F.L ++ [(N.getD k.n nd0).s]) (M.envs.length :: F.lf) := by
      refine Cb_blk he' (BlkC.more rest (EGr.app _ _) ⟨List.prefix_append _ _, by rw [hidc_app, hidc_one O1]; rfl⟩ ?_)
      rw [nmL_app, nmL_one O1]
      simp
    have hd0 : t.stack.drop (f.base + (D.fn (gO m f)).nslots) = [] := List.drop_of_length_le (Nat.le_of_eq hlen)
    have Q1 := h.dcl (fu' := fu) dc (fun q hq => rfl) h.le (by simp; omega) (ts := ⟨2, (N.getD k.n nd0).a, 0, some M.envs.length⟩ :: ⟨9, k.n, 0, some M.envs.length⟩ :: ⟨1, (N.getD k.n nd0).next, 0, some M.envs.length⟩ :: tl) (seg := ⟨2, (N.getD k.n nd0).a, 0, some M.envs.length⟩ :: ⟨9, k.n, 0, some M.envs.length⟩ :: ⟨1, (N.getD k.n nd0).next, 0, some M.envs.length⟩ :: seg) (by rw [e1]; rfl) (fun x hx => by
      simp only [List.mem_cons] at hx
      rcases hx with rfl | rfl | rfl | hx
      · show (2 : Nat) ≠ 3; decide
      · show (9 : Nat) ≠ 3; decide
      · show (1 : Nat) ≠ 3; decide
      · exact e2 x hx) (by
      show Cb _ _ _ _ (oO D m t f) _ _
      rw [ho]
      refine Cb_2 he' hc (.inr O3) hy ?_
      unfold Cb
      simp (config := { decide := true }) only [if_true, if_false]
      exact ⟨trivial, he', O1, (6, F.L.length), ha.head.2, .inl ⟨F.L.length, by rw [slotL_app, if_pos rfl], rfl⟩, cbB⟩) (by
      show Itm _ _ (oO D m t f) (oO D m t f)
      rw [ho]
      exact Itm_2 (Itm_else (by decide) (Itm_blk it))) (vs := T.vals) (by
      rw [hidV_app, hidV_one O1, List.append_nil]
      exact h.vv)
    rw [h.mS_self, h.tS_self] at Q1
    -- the closure
    have hgO : gO m { f with pc := f.pc } = gO m f := rfl
    obtain ⟨m1, o, q1, ⟨q2, q3, q4⟩, Q2⟩ := Q1.clo (K := K) h.rt.at_.vi h.nsk (x := (N.getD (N.getD k.n nd0).a nd0).n) (n := (N.getD k.n nd0).a) (e := some M.envs.length) (h.dsc hc) O3.out.n0 O3 O2 rfl hF he' (by omega)
    have q1 : closure m i f.base f.clo (N.getD (N.getD k.n nd0).a nd0).n = (.inr m.clos.length, m1) := q1
    have q2 : m1.clos.getD f.clo cl0 = m.clos.getD f.clo cl0 := q2
    have hg1 : gO m1 f = gO m f := by show (m1.clos.getD f.clo cl0).p = _; rw [q2]
    have hp : plainP m i 28 (N.getD (N.getD k.n nd0).a nd0).n = (.inr (), push m1 i [⟨5, m.clos.length, []⟩]) := by
      unfold plainP
      rw [h.rt.at_.topF]
      simp (config := { decide := true }) only [if_true, if_false]
      rw [q1]
    rw [push_is Q2.hi] at hp
    have hr := h.rd hc (by decide) hp (setTh_get Q2.hi) rfl
    rw [setTh_setTh] at hr
    have hr : roundP fu m i = .inl (fu, mS m1 i { t with opn := o } f fs (t.stack ++ [⟨5, m.clos.length, []⟩]) (f.pc + 1)) := hr
    have tx1 := (Q2.rel.w i).tx
    have Ln2 : LnZ D S m1 i { t with opn := o } f fs (t.stack ++ [⟨5, m.clos.length, []⟩]) (f.pc + 1) := by
      refine ⟨Q2.il, Gd1.round ⟨K, t, f, h.rt, h.rm⟩ hr, ?_⟩
      rw [hg1]
      exact (tx1.fx _ (by rw [tx1.np, ← W.tx.np]; exact h.plt)).1
    obtain ⟨r2, _⟩ := Ln2.g6 (x := F.L.length) (r := []) (by rw [hg1]; exact ha.head.2) fu
    -- the end
    have Q3 := Q2.ops (fu' := fu) (s' := s) (tabs := m1.tabs) (out := m1.out) (ts := ⟨1, (N.getD k.n nd0).next, 0, some M.envs.length⟩ :: tl) (seg := ⟨1, (N.getD k.n nd0).next, 0, some M.envs.length⟩ :: seg) (vs := []) (pc := f.pc + 2) (k := 0) (Nat.zero_le _) (by rw [e1]; rfl) (fun x hx => by
      rcases List.mem_cons.1 hx with rfl | hx
      · show (1 : Nat) ≠ 3; decide
      · exact e2 x hx) (by
      show Cb ⟨N, D, gO m1 f, F.r, _, F.lc, F.low.length⟩ _ _ _ (t.stack.length - (f.base + (D.fn (gO m1 f)).nslots) - 0 + 0) _ _
      rw [hg1]
      show Cb _ _ _ _ (oO D m t f) _ _
      rw [ho]
      exact cbB) (by
      show Itm _ _ (t.stack.length - (f.base + (D.fn (gO m1 f)).nslots) - 0 + 0) (t.stack.length - (f.base + (D.fn (gO m1 f)).nslots) - 0 + 0)
      rw [hg1]
      show Itm _ _ (oO D m t f) (oO D m t f)
      rw [ho]
      exact Itm_blk it.any)
    have hP : (P ++ [some (Sum.inl (i, f.base + F.L.length))])[M.envs.length]? = some (some (.inl (i, f.base + F.L.length))) := by
      rw [List.getElem?_append_right (by rw [W.vr.len]; exact Nat.le_refl _), W.vr.len]
      simp
    have R := Q3.rel.assign hP ⟨5, m.clos.length, []⟩
    refine PgZ.round hr (PgZ.weak (PgZ.round r2 (PgZ.rel (P := P ++ [some (Sum.inl (i, f.base + F.L.length))]) ?_ h.cu rfl)))
    have em : wrL { m1 with ths := m1.ths.set i { t with opn := o, stack := t.stack.take (t.stack.length - 0) ++ [], frames := fs.reverse ++ [{ f with pc := f.pc + 2 }] }, tabs := m1.tabs, out := m1.out } (.inl (i, f.base + F.L.length)) ⟨5, m.clos.length, []⟩ = mS m1 i { t with opn := o } f fs (t.stack.set (f.base + F.L.length) ⟨5, m.clos.length, []⟩) (f.pc + 1 + 1) := by
      unfold wrL
      dsimp only
      rw [show ({ m1 with ths := m1.ths.set i { t with opn := o, stack := t.stack.take (t.stack.length - 0) ++ [], frames := fs.reverse ++ [{ f with pc := f.pc + 2 }] }, tabs := m1.tabs, out := m1.out } : VMD).th i = { t with opn := o, stack := t.stack.take (t.stack.length - 0) ++ [], frames := fs.reverse ++ [{ f with pc := f.pc + 2 }] } from th_get (List.getElem?_set_self Q2.il)]
      simp [VMD.setTh, mS, tS]
    have R : Rel N root D (wrL { m1 with ths := m1.ths.set i { t with opn := o, stack := t.stack.take (t.stack.length - 0) ++ [], frames := fs.reverse ++ [{ f with pc := f.pc + 2 }] }, tabs := m1.tabs, out := m1.out } (.inl (i, f.base + F.L.length)) ⟨5, m.clos.length, []⟩) fu s _ (P ++ [some (Sum.inl (i, f.base + F.L.length))]) := R
    rw [em] at R
    refine Eq.mp (congrArg (fun Q => Rel N root D (mS m1 i { t with opn := o } f fs (t.stack.set (f.base + F.L.length) ⟨5, m.clos.length, []⟩) (f.pc + 1 + 1)) fu s Q (P ++ [some (Sum.inl (i, f.base + F.L.length))])) ?_) R
    show MD.mk _ _ ((M.envs ++ [_]).set M.envs.length { (M.envs ++ [_]).getD M.envs.length en0 with v := _ }) _ _ _ _ _ _ _ = MD.mk _ _ _ _ _ _ _ _ _ _
    rw [getLastD, setLast, q3, q4, ← W.fuel, ← W.first, ← W.tabs, ← W.out]
    simp [MD.st]
end
end Go.Proofs.Qxb6500574aGreatDoor
