/-
  moon: SLOTS ARE FILLED, VARIABLES ARE DECLARED. Plain; no memory, no walk.
-/
import Derived.Test.Qxb6500574aGreatDoorZM22
namespace Go.Proofs.Qxb6500574aGreatDoor
set_option linter.unusedVariables false
set_option linter.unusedSimpArgs false
/-- the variables of the frame at base, among those of the machine; E0, P0: those from before -/
structure Dc (m : VMD) (i base ret hi : Nat) (E0 : List EnD) (P0 : List (Option Lc)) (E : List EnD) (P : List (Option Lc)) (L : List Bs) (lf : List Nat) : Prop where
  vr : VrR m E P
  ac : AcE E
  eg : EGr E0 E
  pp : P0 <+: P
  hn : ∀ (n j q : Nat), P[n]? = some (some (.inl (j, q))) → P0[n]? = some (some (.inl (j, q))) ∨ (j = i ∧ base ≤ q)
  fe : FrE E P i base L lf
  ll : ∀ n ∈ lf, n < E.length
  pn : ∀ (n q : Nat), P[n]? = some (some (.inl (i, q))) → ret ≤ q → q < hi → ∃ j s, L[j]? = some s ∧ s ≠ [] ∧ q = base + j
theorem nmL_one {s : Bs} (h : s ≠ []) : nmL [s] = [s] := by
  have : s.isEmpty = false := by simpa using h
  simp [nmL, this]
theorem nmL_nil : nmL [[]] = [] := by simp [nmL]
section
variable {N : List Nd} {root : Nat} {D : CmD} {S : Nat → Nat → Ty → Prop} {K : Cx} {m m1 : VMD} {fu s fu' s' : Nat} {M M' : MD} {P P' : List (Option Lc)} {i c : Nat} {t t' : ThD} {T T' : MTh} {f f' : FmD} {fs : List FmD} {F F' : FrIZ} {k : TkD} {tl : List TkD} {stk : List Vl} {pc : Nat}
/-- a variable is declared at the first free slot -/
theorem Dc.new {base ret hi : Nat} {E0 E : List EnD} {P0 P : List (Option Lc)} {L : List Bs} {lf : List Nat} (h : Dc m i base ret hi E0 P0 E P L lf) {sn : Bs} (hs : sn ≠ []) {e : Option Nat} (he : ∀ j, e = some j → j < E.length) (hr : ret ≤ base) (h1 : base + L.length < hi) (h2 : hi = (m.th i).stack.length) {v : Vl} (hv : v = (m.th i).stack.getD (base + L.length) nilV) :
    Dc m i base ret hi E0 P0 (E ++ [⟨sn, v, e⟩]) (P ++ [some (.inl (i, base + L.length))]) (L ++ [sn]) (E.length :: lf) := by
  have key : ∀ (n j q : Nat), (P ++ [some (Sum.inl (i, base + L.length))])[n]? = some (some (.inl (j, q))) → P[n]? = some (some (.inl (j, q))) ∨ (j = i ∧ q = base + L.length) := fun n j q hq => by
    by_cases hl : n < P.length
    · rw [List.getElem?_append_left hl] at hq
      exact .inl hq
    · rw [List.getElem?_append_right (by omega)] at hq
      have h0 : n - P.length = 0 := by
        have := (List.getElem?_eq_some_iff.1 hq).1
        simp at this
        omega
      rw [h0] at hq
      simp at hq
      exact .inr ⟨hq.1.symm, hq.2.symm⟩
  refine ⟨h.vr.new (fun j hj => ?_) hv (fun x hx => ?_) (fun c hc => by cases hc), h.ac.new he, h.eg.trans (EGr.app _ _), h.pp.trans (List.prefix_append _ _), fun n j q hq => ?_, ⟨?_, fun j s' hj hs' => ?_⟩, fun n hn => ?_, fun n q hq q1 q2 => ?_⟩
  · obtain ⟨j', s', j1, j2, j3⟩ := h.pn j _ hj (by omega) h1
    have := (List.getElem?_eq_some_iff.1 j1).1
    omega
  · cases hx
    rw [← h2]
    exact h1
  · rcases key n j q hq with z | ⟨z1, z2⟩
    · exact h.hn n j q z
    · exact .inr ⟨z1, by omega⟩
  · show (((E ++ [(⟨sn, v, e⟩ : EnD)]).getD E.length en0).nm :: nmN (E ++ [(⟨sn, v, e⟩ : EnD)]) lf) = _
    rw [nmL_app, nmL_one hs, (EGr.app E [⟨sn, v, e⟩]).nms h.ll, h.fe.nm, List.getD_eq_getElem?_getD, List.getElem?_append_right (Nat.le_refl _)]
    simp
  · by_cases hl : j < L.length
    · rw [List.getElem?_append_left hl] at hj
      obtain ⟨n, n1, n2⟩ := h.fe.at_ j s' hj hs'
      refine ⟨n, ?_, ?_⟩
      · rw [slotN_app L [sn] hl, nmL_one hs]
        rw [show ([sn] : List Bs).length + slotN L j = slotN L j + 1 by simp; omega, List.getElem?_cons_succ]
        exact n1
      · rw [List.getElem?_append_left (List.getElem?_eq_some_iff.1 n2).1]
        exact n2
    · have hj0 : j = L.length := by
        have := (List.getElem?_eq_some_iff.1 hj).1
        simp at this
        omega
      subst hj0
      refine ⟨E.length, ?_, ?_⟩
      · have : slotN (L ++ [sn]) L.length = 0 := by
          unfold slotN
          rw [List.drop_of_length_le (by simp)]
          rfl
        rw [this]
        rfl
      · rw [List.getElem?_append_right (by rw [h.vr.len]; exact Nat.le_refl _), h.vr.len]
        simp
  · rw [List.length_append]
    rcases List.mem_cons.1 hn with rfl | hn
    · simp
    · have := h.ll n hn
      omega
  · rcases key n i q hq with z | ⟨_, z2⟩
    · obtain ⟨j, s', j1, j2, j3⟩ := h.pn n q z q1 q2
      exact ⟨j, s', by rw [List.getElem?_append_left (List.getElem?_eq_some_iff.1 j1).1]; exact j1, j2, j3⟩
    · exact ⟨L.length, sn, by simp, hs, z2⟩
/-- a hidden slot more -/
theorem Dc.hid {base ret hi : Nat} {E0 E : List EnD} {P0 P : List (Option Lc)} {L : List Bs} {lf : List Nat} (h : Dc m i base ret hi E0 P0 E P L lf) : Dc m i base ret hi E0 P0 E P (L ++ [[]]) lf := by
  refine ⟨h.vr, h.ac, h.eg, h.pp, h.hn, ⟨by rw [nmL_app, nmL_nil]; exact h.fe.nm, fun j s' hj hs' => ?_⟩, h.ll, fun n q hq q1 q2 => ?_⟩
  · have hl : j < L.length := by
      refine Nat.lt_of_not_le fun z => hs' ?_
      rw [List.getElem?_append_right z] at hj
      have := (List.getElem?_eq_some_iff.1 hj).1
      have h0 : j - L.length = 0 := by simp at this; omega
      rw [h0] at hj
      simpa using hj.symm
    rw [List.getElem?_append_left hl] at hj
    obtain ⟨n, n1, n2⟩ := h.fe.at_ j s' hj hs'
    exact ⟨n, by rw [slotN_app L [[]] hl, nmL_nil]; simpa using n1, n2⟩
  · obtain ⟨j, s', j1, j2, j3⟩ := h.pn n q hq q1 q2
    exact ⟨j, s', by rw [List.getElem?_append_left (List.getElem?_eq_some_iff.1 j1).1]; exact j1, j2, j3⟩
/-- a hidden slot less -/
theorem Dc.unhid {base ret hi : Nat} {E0 E : List EnD} {P0 P : List (Option Lc)} {L : List Bs} {lf : List Nat} (h : Dc m i base ret hi E0 P0 E P (L ++ [[]]) lf) : Dc m i base ret hi E0 P0 E P L lf := by
  refine ⟨h.vr, h.ac, h.eg, h.pp, h.hn, ⟨by have := h.fe.nm; rw [nmL_app, nmL_nil] at this; exact this, fun j s' hj hs' => ?_⟩, h.ll, fun n q hq q1 q2 => ?_⟩
  · have hl := (List.getElem?_eq_some_iff.1 hj).1
    obtain ⟨n, n1, n2⟩ := h.fe.at_ j s' (by rw [List.getElem?_append_left hl]; exact hj) hs'
    rw [slotN_app L [[]] hl, nmL_nil] at n1
    exact ⟨n, by simpa using n1, n2⟩
  · obtain ⟨j, s', j1, j2, j3⟩ := h.pn n q hq q1 q2
    refine ⟨j, s', ?_, j2, j3⟩
    by_cases hl : j < L.length
    · rw [List.getElem?_append_left hl] at j1
      exact j1
    · exfalso
      rw [List.getElem?_append_right (by omega)] at j1
      have := (List.getElem?_eq_some_iff.1 j1).1
      have h0 : j - L.length = 0 := by simp at this; omega
      rw [h0] at j1
      exact j2 (by simpa using j1.symm)
/-- where variables of the thread at hand lie -/
theorem Op0.place (h : Op0 N root D m fu s M P i t T f fs F) {n q : Nat} (hq : P[n]? = some (some (.inl (i, q)))) : q < f.base ∨ ∃ j s, F.L[j]? = some s ∧ s ≠ [] ∧ q = f.base + j := by
  by_cases hr : f.ret ≤ q
  · refine .inr (h.fo.pn n q hq hr ?_)
    have := (h.rel.w i).vr.st n (i, q) hq
    rw [th_get h.hi] at this
    exact this
  · have := h.fo.ret
    exact .inl (by omega)
/-- the frame's variables on another stack -/
theorem Op0.dc (h : Op0 N root D m fu s M P i t T f fs F) (hl : f.base + (D.fn (gO m f)).nslots ≤ stk.length) (hs : ∀ q, (q < f.base ∨ ∃ j s, F.L[j]? = some s ∧ s ≠ [] ∧ q = f.base + j) → stk.getD q nilV = t.stack.getD q nilV) : Dc (mS m i t f fs stk pc) i f.base f.ret stk.length M.envs P M.envs P F.L F.lf := by
  have W := h.rel.w i
  have fo := h.fo
  have hns : F.L.length ≤ (D.fn (gO m f)).nslots := fo.ns
  refine ⟨W.vr.keep (fun n x hx => ?_) rfl, W.ac, EGr.refl _, List.prefix_refl _, fun n j q hq => .inl hq, fo.fe, fo.ll, fun n q hq q1 q2 => ?_⟩
  · rw [show (mS m i t f fs stk pc).th x.1 = if x.1 = i then tS t f fs stk pc else m.th x.1 from th_set h.hi]
    by_cases e : x.1 = i
    · rw [if_pos e, e, th_get h.hi]
      have hx' : P[n]? = some (some (.inl (i, x.2))) := by rw [← e]; exact hx
      have hp := h.place hx'
      refine ⟨?_, hs _ hp⟩
      rcases hp with z | ⟨j, s', j1, _, j3⟩
      · show x.2 < stk.length
        omega
      · have := (List.getElem?_eq_some_iff.1 j1).1
        show x.2 < stk.length
        omega
    · rw [if_neg e]
      exact ⟨W.vr.st n x hx, rfl⟩
  · rcases h.place hq with z | z
    · have := fo.ret
      exact (fo.pn n q hq q1 (by
        have := W.vr.st n (i, q) hq
        rw [th_get h.hi] at this
        exact this))
    · exact z
/-- SHUT AGAIN, with the variables as they are now -/
theorem Op0.dcl (h : Op0 N root D m fu s M P i t T f fs F) {E' : List EnD} {L' : List Bs} {lf' : List Nat} (dc : Dc (mS m i t f fs stk pc) i f.base f.ret stk.length M.envs P E' P' L' lf') (hb : ∀ q, q < f.base → stk.getD q nilV = t.stack.getD q nilV) (hl : f.base + (D.fn (gO m f)).nslots ≤ stk.length) (hL : L'.length ≤ (D.fn (gO m f)).nslots)
    {ts seg : List TkD} (te : ts = seg ++ ⟨3, if f.prot then 1 else 0, F.low.length, none⟩ :: F.rest) (sg : ∀ t ∈ seg, t.k ≠ 3)
    (cb : Cb ⟨N, D, gO m f, F.r, E', F.lc, F.low.length⟩ ts false pc (stk.length - (f.base + (D.fn (gO m f)).nslots)) L' lf')
    (it : Itm (stk.drop (f.base + (D.fn (gO m f)).nslots)) ts (stk.length - (f.base + (D.fn (gO m f)).nslots)) (stk.length - (f.base + (D.fn (gO m f)).nslots))) {vs : List Vl} (hvs : vs = F.low ++ hidV stk f.base L' ++ stk.drop (f.base + (D.fn (gO m f)).nslots)) :
    Op0 N root D (mS m i t f fs stk pc) fu' s { M.st { T with tasks := ts, vals := vs } with fuel := fu', envs := E' } P' i (tS t f fs stk pc) { T with tasks := ts, vals := vs } { f with pc := pc } fs { F with L := L', lf := lf', seg := seg } := by
  have W := h.rel.w i
  have il := h.il
  have fo := h.fo
  have hret := fo.ret
  have hle : f.base + (D.fn (gO m f)).nslots ≤ t.stack.length := fo.le
  obtain ⟨Q, hQ⟩ := dc.pp
  have cm : ClM m (mS m i t f fs stk pc) P P' := ⟨Nat.le_refl _, fun _ _ => rfl, Nat.le_refl _, fun _ _ => rfl, fun c n _ hc => by rw [← hQ]; exact (hc.more Q).keep rfl, Nat.le_refl _⟩
  have up : ∀ (n : Nat) (q : Option Lc), P[n]? = some q → P'[n]? = some q := fun n q hq => by
    rw [← hQ, List.getElem?_append_left (List.getElem?_eq_some_iff.1 hq).1]
    exact hq
  have MV : MvW N D m (mS m i t f fs stk pc) M { M.st { T with tasks := ts, vals := vs } with fuel := fu', envs := E' } P P' i := by
    refine ⟨W.out, W.tabs, W.done, rfl, rfl, ⟨rfl, rfl, rfl, rfl, fun _ _ => rfl, Nat.le_refl _⟩, ⟨{ T with tasks := ts, vals := vs }, by simp only [MD.st, h.cu]⟩, by simp, fun j u hj hu => ?_, cm, dc.eg, List.prefix_refl _, W.cl, fun c h1 h2 => absurd h2 (by simp only; omega), dc.vr, dc.ac, fun j q n hj => ⟨fun z => ?_, fun z => up _ _ z⟩⟩
    · have hu : (m.ths.set i (tS t f fs stk pc))[j]? = some u := hu
      rw [List.getElem?_set_ne (fun e => hj e.symm)] at hu
      exact ⟨u, hu, rfl, rfl, rfl, rfl, fun _ _ => rfl⟩
    · rcases dc.hn n j q z with z | z
      · exact z
      · exact absurd z.1 hj
  refine h.put (T' := { T with tasks := ts, vals := vs }) (t' := tS t f fs stk pc) (f' := { f with pc := pc }) (F' := { F with L := L', lf := lf', seg := seg }) MV rfl W.first (by simp only [MD.st, h.cu]) (List.getElem?_set_self il) h.st4 rfl rfl ⟨rfl, rfl⟩ h.tst rfl rfl rfl rfl ?_ ⟨rfl, rfl, rfl, cm, dc.eg, List.prefix_refl _, by show f.ret ≤ t.stack.length; omega, by show f.ret ≤ stk.length; omega, fun q hq _ => hb q (by omega), fun q hq n => ⟨fun z => ?_, fun z => up _ _ z⟩⟩
  · refine ⟨⟨fo.ci.keep cm dc.eg (List.prefix_refl _), te, sg, hret, hl, ?_, fun n q h1 h2 h3 => ?_⟩, ?_, ?_, hL, dc.fe, dc.ll, ?_, dc.pn⟩
    · show F.low <+: vs
      rw [hvs, List.append_assoc]
      exact List.prefix_append _ _
    · obtain ⟨j, s', j1, j2, j3⟩ := dc.pn n q h1 h2 h3
      show f.base ≤ q
      omega
    · exact cb
    · show Itm ((stk.take stk.length).drop (f.base + (D.fn (gO m f)).nslots)) ts (stk.length - (f.base + (D.fn (gO m f)).nslots) + 0) (stk.length - (f.base + (D.fn (gO m f)).nslots))
      rw [List.take_length]
      exact it
    · show vs = F.low ++ hidV stk f.base L' ++ (stk.take stk.length).drop (f.base + (D.fn (gO m f)).nslots)
      rw [List.take_length]
      exact hvs
  · rcases dc.hn n i q z with z | z
    · exact z
    · have := z.2
      omega
end
end Go.Proofs.Qxb6500574aGreatDoor
