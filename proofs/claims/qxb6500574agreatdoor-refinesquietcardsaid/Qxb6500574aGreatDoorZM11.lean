/-
  moon: CLOSING; frames that go; errors that fly. Plain; no memory, no walk.
-/
import Derived.Test.Qxb6500574aGreatDoorZM10
namespace Go.Proofs.Qxb6500574aGreatDoor
set_option linter.unusedVariables false
set_option linter.unusedSimpArgs false
theorem closeN_rest (i a : Nat) : ∀ (n : Nat) (m : VMD), (closeN n m i a).upix = m.upix ∧ (closeN n m i a).clos = m.clos ∧ (closeN n m i a).tabs = m.tabs ∧ (closeN n m i a).out = m.out := by
  intro n
  induction n with
  | zero => intro m; exact ⟨rfl, rfl, rfl, rfl⟩
  | succ n ih =>
    intro m
    unfold closeN
    dsimp only
    split
    · exact ⟨rfl, rfl, rfl, rfl⟩
    · exact ih _
theorem closeFrom_rest (m : VMD) (i a : Nat) : (closeFrom m i a).upix = m.upix ∧ (closeFrom m i a).clos = m.clos ∧ (closeFrom m i a).tabs = m.tabs ∧ (closeFrom m i a).out = m.out := closeN_rest i a _ m
section
variable {N : List Nd} {root : Nat} {D : CmD} {S : Nat → Nat → Ty → Prop} {K : Cx} {m m' : VMD} {fu s fu' s' : Nat} {M M' : MD} {P P' : List (Option Lc)} {i : Nat} {t t' : ThD} {T T' : MTh} {f f' : FmD} {fs : List FmD} {F F' : FrIZ}
/-- thread i closes from a and moves -/
theorem mv_close (R : RelW N root D m fu s M P i) (hc : M.cur = i) (V : VI K m) (hi : m.ths[i]? = some t) (a : Nat) {t2 : ThD} {T2 : MTh} (hs : ∀ n q : Nat, P[n]? = some (some (.inl (i, q))) → q < a → q < t2.stack.length ∧ t2.stack.getD q nilV = t.stack.getD q nilV) :
    MvW N D m ((closeFrom m i a).setTh i t2) M (M.st T2) P (P.map (cloL m i a)) i := by
  have C := closeFrom_inv V hi a
  have Q := R.vr.close V hi a
  obtain ⟨r1, r2, r3, r4⟩ := closeFrom_rest m i a
  obtain ⟨k, hk⟩ := C.th
  have il := (List.getElem?_eq_some_iff.1 hi).1
  have ml : (closeFrom m i a).ths.length = m.ths.length := by
    refine Nat.le_antisymm ?_ ?_
    · refine Nat.le_of_not_lt fun hl => ?_
      have h1 := C.ot m.ths.length (by omega)
      rw [List.getElem?_eq_getElem hl] at h1
      simp at h1
    · refine Nat.le_of_not_lt fun hl => ?_
      by_cases e : (closeFrom m i a).ths.length = i
      · have := (List.getElem?_eq_some_iff.1 hk).1
        omega
      · have h1 := C.ot (closeFrom m i a).ths.length e
        rw [List.getElem?_eq_getElem hl] at h1
        simp at h1
  have ce : ∀ c n, c < m.cells.length → CeN m P c n → CeN ((closeFrom m i a).setTh i t2) (P.map (cloL m i a)) c n := fun c n h1 h2 => (Q.ce c n h1 h2).keep rfl
  have cm : ClM m ((closeFrom m i a).setTh i t2) P (P.map (cloL m i a)) :=
    ⟨by show m.clos.length ≤ (closeFrom m i a).clos.length; rw [r2]; exact Nat.le_refl _, fun c hc => by show (closeFrom m i a).clos.getD c cl0 = _; rw [r2], by show m.upix.length ≤ (closeFrom m i a).upix.length; rw [r1]; exact Nat.le_refl _, fun c hc => by show (closeFrom m i a).upix.getD c 0 = _; rw [r1], ce, by show m.cells.length ≤ (closeFrom m i a).cells.length; rw [C.ln]; exact Nat.le_refl _⟩
  refine ⟨by show M.out = (closeFrom m i a).out; rw [r4]; exact R.out, by show M.tabs = (closeFrom m i a).tabs; rw [r3]; exact R.tabs, R.done, rfl, rfl, (close_tx m i a).trans (TxtT.setTh _ _ _), ⟨T2, by simp only [MD.st, hc]⟩, by simp only [VMD.setTh, List.length_set]; exact ml, fun j u hj hu => ?_, cm, EGr.refl _, List.prefix_refl _, by show M.clos.length = (closeFrom m i a).clos.length; rw [r2]; exact R.cl, fun c h1 h2 => ?_, ?_, R.ac, fun j q n hj => ⟨fun h => (Q.new n (j, q) h).1, fun h => Q.old n _ h (fun x hx => by cases hx; exact fun z => hj z.1)⟩⟩
  · have hu : ((closeFrom m i a).ths.set i t2)[j]? = some u := hu
    rw [List.getElem?_set_ne (fun e => hj e.symm), C.ot j hj] at hu
    exact ⟨u, hu, rfl, rfl, rfl, rfl, fun _ _ => rfl⟩
  · have h2 : c < (closeFrom m i a).clos.length := h2
    rw [r2] at h2
    omega
  · refine Q.vr.keep (fun n x hx => ?_) rfl
    rw [show ((closeFrom m i a).setTh i t2).th x.1 = if x.1 = i then t2 else (closeFrom m i a).th x.1 from th_set hk]
    obtain ⟨h1, h2⟩ := Q.new n x hx
    by_cases e : x.1 = i
    · rw [if_pos e, e, th_get hk]
      have hx' : P[n]? = some (some (.inl (i, x.2))) := by rw [← e]; exact h1
      exact hs n x.2 hx' (by omega)
    · rw [if_neg e]
      exact ⟨Q.vr.st n x hx, rfl⟩
theorem slotN_app (L R : List Bs) {j : Nat} (hj : j < L.length) : slotN (L ++ R) j = (nmL R).length + slotN L j := by
  unfold slotN
  rw [List.drop_append_of_le_length (by omega), List.filter_append, List.length_append]
  simp [nmL]
  omega
/-- A FRAME WITH FEWER LOCALS (or as many), moved on -/
theorem FrOZ.sub {Z Z' : Zx} {ts ts' : List TkD} {vs : List Vl} {hi hi' aw aw' : Nat} (h : FrOZ Z f F ts vs hi aw) (n1 : Z'.N = Z.N) (n2 : Z'.D = Z.D) (n3 : Z'.i = Z.i) (cm : ClM Z.m Z'.m Z.P Z'.P) (eg : EGr Z.E Z'.E) (mc : Z.MC <+: Z'.MC)
    {L0 : List Bs} (hL : L0 <+: F.L) {seg : List TkD} (te : ts' = seg ++ ⟨3, if f.prot then 1 else 0, F.low.length, none⟩ :: F.rest) (sg : ∀ t ∈ seg, t.k ≠ 3) (hl : f.base + Z.ns f ≤ hi')
    (pn : ∀ (n q : Nat), Z'.P[n]? = some (some (.inl (Z.i, q))) → f.ret ≤ q → q < hi' → ∃ j s, L0[j]? = some s ∧ s ≠ [] ∧ q = f.base + j)
    (po : ∀ (j : Nat) (s : Bs), L0[j]? = some s → s ≠ [] → ∀ n : Nat, Z.P[n]? = some (some (.inl (Z.i, f.base + j))) → Z'.P[n]? = some (some (.inl (Z.i, f.base + j)))) {pc : Nat}
    (cb : Cb (Z'.X f F) ts' false pc (hi' - (f.base + Z.ns f) + aw') L0 (sfx F.lf F.L L0))
    (it : Itm ((Z'.stk.take hi').drop (f.base + Z.ns f)) ts' (hi' - (f.base + Z.ns f) + aw') (hi' - (f.base + Z.ns f))) :
    FrOZ Z' { f with pc := pc } { F with L := L0, lf := sfx F.lf F.L L0, seg := seg } ts' (F.low ++ hidV Z'.stk f.base L0 ++ (Z'.stk.take hi').drop (f.base + Z.ns f)) hi' aw' := by
  have hg : Z'.g f = Z.g f := by show (Z'.m.clos.getD f.clo cl0).p = _; rw [cm.cg _ h.ci.lt]
  have hn : Z'.ns f = Z.ns f := by show (Z'.D.fn (Z'.g f)).nslots = _; rw [hg, n2]
  have hns : Z'.ns { f with pc := pc } = Z.ns f := hn
  obtain ⟨R, hR⟩ := hL
  have hd : (nmL F.L).length - (nmL L0).length = (nmL R).length := by rw [← hR, nmL_app]; simp
  have hsub : sfx F.lf F.L L0 = F.lf.drop (nmL R).length := by show F.lf.drop _ = _; rw [hd]
  refine ⟨⟨by rw [n1, n2]; exact h.ci.keep cm eg mc, te, sg, h.ret, by rw [hns]; exact hl, by rw [List.append_assoc]; exact List.prefix_append _ _, fun n q h1 h2 h3 => ?_⟩, ?_, by rw [hns]; exact it, ?_, ⟨?_, fun j s hj hs => ?_⟩, fun n hn => ?_, by rw [hns], fun n q h1 h2 h3 => ?_⟩
  · rw [n3] at h1
    obtain ⟨j, s, _, _, e⟩ := pn n q h1 h2 h3
    show f.base ≤ q
    omega
  · show Cb (Z'.X f F) ts' false pc (hi' - (f.base + Z'.ns f) + aw') L0 _
    rw [hn]
    exact cb
  · show L0.length ≤ Z'.ns f
    rw [hn]
    have := h.ns
    rw [← hR, List.length_append] at this
    omega
  · show nmN Z'.E (sfx F.lf F.L L0) = nmL L0
    rw [eg.nms (fun x hx => h.ll x (List.mem_of_mem_drop hx))]
    have := h.fe.nm
    rw [← hR, nmL_app] at this
    have h2 := congrArg (List.drop (nmL R).length) this
    rw [List.drop_left] at h2
    show nmN Z.E (F.lf.drop _) = _
    rw [hd]
    simpa [nmN, List.map_drop] using h2
  · have hj' : L0[j]? = some s := hj
    have hjl := (List.getElem?_eq_some_iff.1 hj').1
    obtain ⟨n, k1, k2⟩ := h.fe.at_ j s (by rw [← hR, List.getElem?_append_left hjl]; exact hj') hs
    refine ⟨n, ?_, by rw [n3]; exact po j s hj' hs n k2⟩
    show (sfx F.lf F.L L0)[slotN L0 j]? = some n
    rw [hsub, List.getElem?_drop, ← slotN_app L0 R hjl, hR]
    exact k1
  · exact Nat.lt_of_lt_of_le (h.ll n (List.mem_of_mem_drop hn)) eg.le
  · rw [n3] at h1
    exact pn n q h1 h2 h3
/-- the locals are closed down to the first x -/
theorem Op.close (h : Op N root D S K m fu s M P i t T f fs F) {x k : Nat} (hx : x ≤ F.L.length) (hk : (closeFrom m i (f.base + x)).ths[i]? = some { t with opn := t.opn.take k }) {ts seg : List TkD} {pc : Nat}
    (te : ts = seg ++ ⟨3, if f.prot then 1 else 0, F.low.length, none⟩ :: F.rest) (sg : ∀ t ∈ seg, t.k ≠ 3)
    (cb : Cb ⟨N, D, (m.clos.getD f.clo cl0).p, F.r, M.envs, F.lc, F.low.length⟩ ts false pc (t.stack.length - (f.base + (D.fn (m.clos.getD f.clo cl0).p).nslots)) (F.L.take x) (sfx F.lf F.L (F.L.take x)))
    (it : Itm (t.stack.drop (f.base + (D.fn (m.clos.getD f.clo cl0).p).nslots)) ts (t.stack.length - (f.base + (D.fn (m.clos.getD f.clo cl0).p).nslots)) (t.stack.length - (f.base + (D.fn (m.clos.getD f.clo cl0).p).nslots))) :
    Op0 N root D ((closeFrom m i (f.base + x)).setTh i { t with opn := t.opn.take k, frames := fs.reverse ++ [{ f with pc := pc }] }) fu s (M.st { T with tasks := ts, vals := F.low ++ hidV t.stack f.base (F.L.take x) ++ t.stack.drop (f.base + (D.fn (m.clos.getD f.clo cl0).p).nslots) }) (P.map (cloL m i (f.base + x))) i { t with opn := t.opn.take k, frames := fs.reverse ++ [{ f with pc := pc }] } { T with tasks := ts, vals := F.low ++ hidV t.stack f.base (F.L.take x) ++ t.stack.drop (f.base + (D.fn (m.clos.getD f.clo cl0).p).nslots) } { f with pc := pc } fs { F with L := F.L.take x, lf := sfx F.lf F.L (F.L.take x), seg := seg } := by
  have fo := h.fo
  have hret := fo.ret
  have hle : f.base + (D.fn (m.clos.getD f.clo cl0).p).nslots ≤ t.stack.length := fo.le
  have W := h.rel.w i
  have Q := W.vr.close h.rt.at_.vi h.hi (f.base + x)
  have hst : ∀ n q : Nat, P[n]? = some (some (.inl (i, q))) → q < t.stack.length := fun n q hq => by
    have := W.vr.st n (i, q) hq
    rw [th_get h.hi] at this
    exact this
  have V := mv_close W h.cu h.rt.at_.vi h.hi (f.base + x) (t2 := { t with opn := t.opn.take k, frames := fs.reverse ++ [{ f with pc := pc }] }) (T2 := { T with tasks := ts, vals := F.low ++ hidV t.stack f.base (F.L.take x) ++ t.stack.drop (f.base + (D.fn (m.clos.getD f.clo cl0).p).nslots) }) (fun n q hq _ => ⟨hst n q hq, rfl⟩)
  refine (h.put V (W.fuel) (W.first) (T' := { T with tasks := ts, vals := F.low ++ hidV t.stack f.base (F.L.take x) ++ t.stack.drop (f.base + (D.fn (m.clos.getD f.clo cl0).p).nslots) }) (t' := { t with opn := t.opn.take k, frames := fs.reverse ++ [{ f with pc := pc }] }) (f' := { f with pc := pc }) (F' := { F with L := F.L.take x, lf := sfx F.lf F.L (F.L.take x), seg := seg }) (by simp only [MD.st, h.cu]) (setTh_get hk) h.rt.at_.st rfl rfl ⟨rfl, rfl⟩ h.tst rfl rfl rfl rfl ?_ ⟨rfl, rfl, rfl, V.cm, EGr.refl _, List.prefix_refl _, by show f.ret ≤ t.stack.length; omega, by show f.ret ≤ t.stack.length; omega, fun _ _ _ => rfl, fun q hq n => ⟨fun g => (Q.new n (i, q) g).1, fun g => Q.old n _ g (fun y hy => by cases hy; intro z; have := z.2; simp only at this; omega)⟩⟩)
  have e : t.stack.drop (f.base + (D.fn (m.clos.getD f.clo cl0).p).nslots) = (t.stack.take t.stack.length).drop (f.base + (D.fn (m.clos.getD f.clo cl0).p).nslots) := by rw [List.take_length]
  rw [e]
  refine fo.sub (Z' := Zo N D ((closeFrom m i (f.base + x)).setTh i { t with opn := t.opn.take k, frames := fs.reverse ++ [{ f with pc := pc }] }) (M.st { T with tasks := ts, vals := F.low ++ hidV t.stack f.base (F.L.take x) ++ (t.stack.take t.stack.length).drop (f.base + (D.fn (m.clos.getD f.clo cl0).p).nslots) }) (P.map (cloL m i (f.base + x))) i { t with opn := t.opn.take k, frames := fs.reverse ++ [{ f with pc := pc }] }) rfl rfl rfl V.cm (EGr.refl _) (List.prefix_refl _) (List.take_prefix _ _) te sg fo.le (fun n q h1 h2 h3 => ?_) (fun j s hj hs n hp => ?_) ?_ (by rw [e] at it; exact it)
  · obtain ⟨g1, g2⟩ := Q.new n (i, q) h1
    obtain ⟨j, s, j1, j2, j3⟩ := fo.pn n q g1 h2 (hst n q g1)
    refine ⟨j, s, ?_, j2, j3⟩
    have : ¬ (f.base + x ≤ q) := fun z => g2 ⟨rfl, z⟩
    rw [List.getElem?_take_of_lt (by omega)]
    exact j1
  · refine Q.old n _ hp (fun y hy => ?_)
    cases hy
    intro z
    have z2 := z.2
    simp only at z2
    have := (List.getElem?_eq_some_iff.1 hj).1
    rw [List.length_take] at this
    omega
  · have hg : ((closeFrom m i (f.base + x)).setTh i { t with opn := t.opn.take k, frames := fs.reverse ++ [{ f with pc := pc }] }).clos.getD f.clo cl0 = m.clos.getD f.clo cl0 := V.cm.cg _ fo.ci.lt
    show Cb ⟨N, D, (((closeFrom m i (f.base + x)).setTh i { t with opn := t.opn.take k, frames := fs.reverse ++ [{ f with pc := pc }] }).clos.getD f.clo cl0).p, F.r, M.envs, F.lc, F.low.length⟩ ts false pc _ _ _
    rw [hg]
    exact cb
/-- FRAMES GO: g is the lowest of them; the one below gets two results -/
theorem RelW.drop (R : RelW N root D m fu s M P i) (hc : M.cur = i) (V : VI K m) (hi : m.ths[i]? = some t) (hT : M.ths[i]? = some T) (s1 : t.st = 4) (s2 : T.st = 4) (s3 : T.fn = t.fn) {g : FmD} {gs : List FmD} {G : FrIZ} {ts : List TkD} {vs : List Vl} {hi' : Nat}
    (fb : FrB (Zo N D m M P i t) g G ts vs hi') (hl : hi' ≤ t.stack.length) (lo : FrsR (Zo N D m M P i t) gs G.rest G.low g.ret 2) (ne : gs ≠ []) {k : Nat} (hk : (closeFrom m i g.base).ths[i]? = some { t with opn := t.opn.take k }) (a b : Vl) :
    Rel N root D ((closeFrom m i g.base).setTh i { t with opn := t.opn.take k, stack := t.stack.take g.ret ++ [a, b], frames := gs.reverse }) fu s (M.st { T with tasks := G.rest, vals := G.low ++ [a, b], depth := gs.length }) (P.map (cloL m i g.base)) := by
  have hret := fb.ret
  have hle := fb.le
  have Q := R.vr.close V hi g.base
  have hb : ∀ n q : Nat, P[n]? = some (some (.inl (i, q))) → q < g.base → q < g.ret := fun n q hq hqb => by
    refine Nat.lt_of_not_le fun hr => ?_
    have := fb.pl n q hq hr (by omega)
    omega
  have gd : ∀ q, q < g.ret → (t.stack.take g.ret ++ [a, b]).getD q nilV = t.stack.getD q nilV := fun q hq => by rw [gd_app (by simp; omega), gd_take hq]
  have MV := mv_close R hc V hi g.base (t2 := { t with opn := t.opn.take k, stack := t.stack.take g.ret ++ [a, b], frames := gs.reverse }) (T2 := { T with tasks := G.rest, vals := G.low ++ [a, b], depth := gs.length }) (fun n q hq hqb => by
    have := hb n q hq hqb
    refine ⟨?_, gd q this⟩
    simp only [List.length_append, List.length_take]
    omega)
  have hlen : (t.stack.take g.ret).length = g.ret := by rw [List.length_take]; omega
  have KP : KpR (Zo N D m M P i t) (Zo N D ((closeFrom m i g.base).setTh i { t with opn := t.opn.take k, stack := t.stack.take g.ret ++ [a, b], frames := gs.reverse }) (M.st { T with tasks := G.rest, vals := G.low ++ [a, b], depth := gs.length }) (P.map (cloL m i g.base)) i { t with opn := t.opn.take k, stack := t.stack.take g.ret ++ [a, b], frames := gs.reverse }) g.ret :=
    ⟨rfl, rfl, rfl, MV.cm, EGr.refl _, List.prefix_refl _, by show g.ret ≤ t.stack.length; omega, by show g.ret ≤ (t.stack.take g.ret ++ [a, b]).length; rw [List.length_append, hlen]; omega, fun q hq _ => gd q hq, fun q hq n => ⟨fun z => (Q.new n (i, q) z).1, fun z => Q.old n _ z (fun y hy => by cases hy; intro z; have := z.2; simp only at this; omega)⟩⟩
  refine (R.move hc MV R.fuel R.first).rel (setTh_get hk) (T := { T with tasks := G.rest, vals := G.low ++ [a, b], depth := gs.length }) (by show (M.ths.set M.cur _)[i]? = _; rw [hc, List.getElem?_set_self (List.getElem?_eq_some_iff.1 hT).1]) ⟨by show T.st = t.st; rw [s1, s2], s3, by show gs.length = gs.reverse.length; simp, ?_⟩
  cases gs with
  | nil => exact absurd rfl ne
  | cons g2 gs =>
    obtain ⟨G2, f2, l2, b2⟩ := lo
    show FrsR _ (g2 :: gs).reverse.reverse G.rest (G.low ++ [a, b]) (t.stack.take g.ret ++ [a, b]).length (if t.st = 4 then 0 else 2)
    rw [List.reverse_reverse, if_pos s1, List.length_append, hlen]
    have f3 := (f2.keep KP).more (A := t.stack.take g.ret) (a := a) (b := b) rfl hlen (fun n q hq => by
      obtain ⟨z1, z2⟩ := Q.new n (i, q) hq
      exact hb n q z1 (Nat.lt_of_not_le fun z => z2 ⟨rfl, z⟩))
    exact ⟨G2, f3, l2.keep (KP.mono (by have := f2.ret; have := f2.le; omega)), b2⟩
end
end Go.Proofs.Qxb6500574aGreatDoor
