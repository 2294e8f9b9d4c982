/-
  moon: the invariant through what turns one thread, the tables, the closures. Plain; no memory, no walk.
-/
import Derived.Test.Qxb6500574aGreatDoorVInv2
import Derived.Test.Qxb6500574aGreatDoorVLawN
namespace Go.Proofs.Qxb6500574aGreatDoor
set_option linter.unusedVariables false
set_option linter.unusedSimpArgs false

/-- the upvalues are no more than the closures can hold -/
structure TileC (cs : List ClD) (n : Nat) : Prop where
  each : ∀ (j : Nat) (q : ClD), cs[j]? = some q → q.up = ((cs.take j).map ClD.nup).sum
  all : n = (cs.map ClD.nup).sum
def UpL (m : VMD) : Prop := m.upix.length ≤ 255 * m.clos.length ∧ TileC m.clos m.upix.length
/-- what the other threads see of a step of thread i -/
structure Rest (m m' : VMD) (i : Nat) : Prop where
  le : m.ths.length ≤ m'.ths.length
  old : ∀ j u, j ≠ i → m.ths[j]? = some u → ∃ u', m'.ths[j]? = some u' ∧ u'.st = u.st ∧ u'.frames = u.frames ∧ u'.stack.length = u.stack.length
  new : ∀ j u, m.ths.length ≤ j → m'.ths[j]? = some u → u.st = 1
theorem Rest.refl (m : VMD) (i : Nat) : Rest m m i := ⟨Nat.le_refl _, fun j u _ h => ⟨u, h, rfl, rfl, rfl⟩, fun j u h1 h2 => by have := (List.getElem?_eq_some_iff.1 h2).1; omega⟩
theorem Rest.trans {m m1 m2 : VMD} {i : Nat} (h : Rest m m1 i) (hi : i < m.ths.length) (g : Rest m1 m2 i) : Rest m m2 i := by
  refine ⟨Nat.le_trans h.le g.le, fun j u hj hu => ?_, fun j u hj hu => ?_⟩
  · obtain ⟨u1, a1, a2, a3, a4⟩ := h.old j u hj hu
    obtain ⟨u2, b1, b2, b3, b4⟩ := g.old j u1 hj a1
    exact ⟨u2, b1, b2.trans a2, b3.trans a3, b4.trans a4⟩
  · by_cases hl : m1.ths.length ≤ j
    · exact g.new j u hl hu
    · obtain ⟨u1, hu1⟩ : ∃ u1, m1.ths[j]? = some u1 := ⟨_, List.getElem?_eq_getElem (by omega)⟩
      have h1 := h.new j u1 hj hu1
      obtain ⟨u2, b1, b2, _⟩ := g.old j u1 (by omega) hu1
      rw [hu] at b1
      cases b1
      rw [b2, h1]
/-- only thread i has turned -/
theorem Rest.ot {m m' : VMD} {i : Nat} (hl : m'.ths.length = m.ths.length) (h : ∀ j, j ≠ i → m'.ths[j]? = m.ths[j]?) : Rest m m' i :=
  ⟨by omega, fun j u hj hu => ⟨u, by rw [h j hj]; exact hu, rfl, rfl, rfl⟩, fun j u h1 h2 => by have := (List.getElem?_eq_some_iff.1 h2).1; omega⟩
theorem Rest.setTh (m : VMD) (i : Nat) (t : ThD) : Rest m (m.setTh i t) i :=
  Rest.ot (by simp [VMD.setTh]) fun j hj => by simp only [VMD.setTh]; rw [List.getElem?_set_ne (fun e => hj e.symm)]
theorem setTh_setTh (m : VMD) (i : Nat) (a b : ThD) : (m.setTh i a).setTh i b = m.setTh i b := by simp [VMD.setTh]
/-- what stands behind a part of an instruction of thread i -/
structure Cur (K K' : Cx) (m m' : VMD) (i : Nat) (t t1 : ThD) : Prop where
  le : K.le K'
  vi : VI K' m'
  up : UpL m'
  re : Rest m m' i
  hi : m'.ths[i]? = some t1
  fr : t1.frames = t.frames
  st : t1.st = t.st
  fn : t1.fn = t.fn
section
variable {K K' K2 : Cx} {m m' : VMD} {i : Nat} {t t1 : ThD}
theorem Cur.refl (h : VI K m) (u : UpL m) (hi : m.ths[i]? = some t) : Cur K K m m i t t := ⟨Cx.le.refl _, h, u, Rest.refl _ _, hi, rfl, rfl, rfl⟩
theorem Cur.ok (h : Cur K K' m m' i t t1) : ThOk K' m'.cells i t1 := h.vi.th i t1 h.hi
/-- the stack is put for another -/
theorem Cur.stk (h : Cur K K' m m' i t t1) (hi : i < m.ths.length) (xs : List Vl) (hv : ∀ v ∈ xs, VOk K' v) (hf : ∀ f, t.frames[t.frames.length - 1]? = some f → f.base + K'.ns f.clo ≤ xs.length) (hne : t.frames ≠ []) : Cur K K' m (m'.setTh i { t1 with stack := xs }) i t { t1 with stack := xs } :=
  ⟨h.le, h.vi.setTh h.hi (h.ok.stack xs hv (by rw [h.fr]; exact hf) (by rw [h.fr]; exact hne)) (fun c hc => hc), h.up, h.re.trans hi (Rest.setTh _ _ _), setTh_get h.hi, h.fr, h.st, h.fn⟩
/-- what an instruction that is done at once comes to: g: by how much the stack has grown -/
def PlOk (K : Cx) (m : VMD) (i : Nat) (t : ThD) (g : Int) (r : RR Unit) : Prop :=
  ∃ K' t1, Cur K K' m r.2 i t t1 ∧ (∀ v, r.1 = .inl (.inl v) → VOk K' v) ∧ (r.1 = .inr () → (t1.stack.length : Int) = t.stack.length + g)
theorem PlOk.ok {g : Int} (h : Cur K K' m m' i t t1) (hg : (t1.stack.length : Int) = t.stack.length + g) : PlOk K m i t g (.inr (), m') := ⟨K', t1, h, (fun v e => by cases e), fun _ => hg⟩
theorem PlOk.thr {g : Int} {s : Bs} (h : Cur K K' m m' i t t1) (hs : s.length ≤ 40) : PlOk K m i t g (thrR s m') := ⟨K', t1, h, (fun v e => by cases e; exact VOk.str K' hs), (fun e => by cases e)⟩
theorem PlOk.trap {g : Int} {e : Nat} (h : Cur K K' m m' i t t1) : PlOk K m i t g (trapR e m') := ⟨K', t1, h, (fun v e => by cases e), (fun e => by cases e)⟩
theorem getD_ok {xs : List Vl} (h : ∀ v ∈ xs, VOk K v) (n : Nat) : VOk K (xs.getD n nilV) := by
  rw [List.getD_eq_getElem?_getD]
  cases e : xs[n]? with
  | none => exact VOk.nil K
  | some v => exact h v (List.mem_of_getElem? e)
theorem topV_ok (h : VI K m) (hi : m.ths[i]? = some t) (n : Nat) : VOk K (topV m i n) := by
  unfold topV
  rw [th_get hi]
  exact getD_ok (h.th i t hi).sv _
theorem const_ok (h : VI K m) (n : Nat) : VOk K (m.consts.getD n nilV) := getD_ok (fun v hv => (h.txt.ks v hv).2 K) n
theorem push_is (hi : m.ths[i]? = some t) (vs : List Vl) : push m i vs = m.setTh i { t with stack := t.stack ++ vs } := by unfold push; rw [th_get hi]
theorem pops_is (hi : m.ths[i]? = some t) (n : Nat) : pops m i n = m.setTh i { t with stack := t.stack.take (t.stack.length - n) } := by unfold pops cut; rw [th_get hi]
theorem push_pops (hi : m.ths[i]? = some t) (n : Nat) (vs : List Vl) : push (pops m i n) i vs = m.setTh i { t with stack := t.stack.take (t.stack.length - n) ++ vs } := by
  rw [pops_is hi, push_is (setTh_get hi), setTh_setTh]
theorem take_ok {xs : List Vl} (h : ∀ v ∈ xs, VOk K v) (n : Nat) : ∀ v ∈ xs.take n, VOk K v := fun v hv => h v (List.mem_of_mem_take hv)
theorem snoc_ok {xs : List Vl} (h : ∀ v ∈ xs, VOk K v) {y : Vl} (hy : VOk K y) : ∀ v ∈ xs ++ [y], VOk K v := by
  intro v hv
  rcases List.mem_append.1 hv with hv | hv
  · exact h v hv
  · simp at hv; rw [hv]; exact hy
theorem set_ok {xs : List Vl} (h : ∀ v ∈ xs, VOk K v) {y : Vl} (n : Nat) (hy : VOk K y) : ∀ v ∈ xs.set n y, VOk K v := by
  intro v hv
  rcases List.mem_or_eq_of_mem_set hv with hv | hv
  · exact h v hv
  · rw [hv]; exact hy
/-- a push behind k pops -/
theorem Cur.pp (h : Cur K K' m m' i t t1) (hi : i < m.ths.length) {k : Nat} {f : FmD} (hf : t.frames[t.frames.length - 1]? = some f) (hk : f.base + K'.ns f.clo + k ≤ t1.stack.length) {v : Vl} (hv : VOk K' v) :
    Cur K K' m (push (pops m' i k) i [v]) i t { t1 with stack := t1.stack.take (t1.stack.length - k) ++ [v] } := by
  rw [push_pops h.hi]
  exact h.stk hi _ (snoc_ok (take_ok h.ok.sv _) hv) (fun g hg => by rw [hf] at hg; cases hg; simp; omega) (fun e => by rw [e] at hf; simp at hf)
theorem Cur.po (h : Cur K K' m m' i t t1) (hi : i < m.ths.length) {k : Nat} {f : FmD} (hf : t.frames[t.frames.length - 1]? = some f) (hk : f.base + K'.ns f.clo + k ≤ t1.stack.length) :
    Cur K K' m (pops m' i k) i t { t1 with stack := t1.stack.take (t1.stack.length - k) } := by
  rw [pops_is h.hi]
  exact h.stk hi _ (take_ok h.ok.sv _) (fun g hg => by rw [hf] at hg; cases hg; simp; omega) (fun e => by rw [e] at hf; simp at hf)
theorem Cur.pu (h : Cur K K' m m' i t t1) (hi : i < m.ths.length) {f : FmD} (hf : t.frames[t.frames.length - 1]? = some f) {v : Vl} (hv : VOk K' v) :
    Cur K K' m (push m' i [v]) i t { t1 with stack := t1.stack ++ [v] } := by
  rw [push_is h.hi]
  refine h.stk hi _ (snoc_ok h.ok.sv hv) (fun g hg => ?_) (fun e => by rw [e] at hf; simp at hf)
  have := h.ok.fr.top g (by rw [h.fr]; exact hg)
  simp
  omega

/-! ### upvalues -/
theorem UpAt_of (h : VI K m) {clo x : Nat} (hc : clo < K.nc) (hx : x < (m.clos.getD clo cl0).nup) : ∃ q c ce, m.clos[clo]? = some q ∧ m.upix[q.up + x]? = some c ∧ m.cells[c]? = some ce ∧ ((ce.th = -1 ∧ VOk K ce.v) ∨ ∃ y u v, ce.th = ((y : Nat) : Int) ∧ m.ths[y]? = some u ∧ u.stack[ce.pos]? = some v ∧ VOk K v) := by
  obtain ⟨q, p, k1, _, _, _, _, k6⟩ := h.proto hc
  have hq : m.clos.getD clo cl0 = q := by simp [k1]
  rw [hq] at hx
  have hu : q.up + x < m.upix.length := by omega
  have hcl := h.ux _ (List.getElem_mem hu)
  refine ⟨q, m.upix[q.up + x], m.cells[m.upix[q.up + x]], k1, List.getElem?_eq_getElem hu, List.getElem?_eq_getElem hcl, ?_⟩
  rcases h.ce _ _ (List.getElem?_eq_getElem hcl) with e | ⟨y, u, e1, e2, e3⟩
  · exact .inl e
  · right
    have U := h.th y u e2
    obtain ⟨ce, c1, c2, f, c3, c4, c5⟩ := U.op.ok _ e3
    rw [List.getElem?_eq_getElem hcl] at c1
    cases c1
    have hb := U.fr.below c3
    have hlt : m.cells[m.upix[q.up + x]].pos < u.stack.length := by omega
    exact ⟨y, u, u.stack[m.cells[m.upix[q.up + x]].pos], e1, e2, List.getElem?_eq_getElem hlt, U.sv _ (List.getElem_mem hlt)⟩
theorem getUp_ok (h : VI K m) {clo x : Nat} (hc : clo < K.nc) (hx : x < (m.clos.getD clo cl0).nup) : VOk K (getUp m clo x) := by
  obtain ⟨q, c, ce, h1, h2, h3, h4⟩ := UpAt_of h hc hx
  have e : m.cells.getD (m.upix.getD ((m.clos.getD clo cl0).up + x) 0) ce0 = ce := by simp [h1, h2, h3]
  unfold getUp
  dsimp only
  rw [e]
  rcases h4 with ⟨e1, e2⟩ | ⟨y, u, v, e1, e2, e3, e4⟩
  · rw [if_neg (by omega)]; exact e2
  · rw [if_pos (by omega), e1]
    simp [th_get e2, e3]
    exact e4
theorem Cur.cells (h : Cur K K' m m' i t t1) {cs : List CeD} (vi : VI K' { m' with cells := cs }) : Cur K K' m { m' with cells := cs } i t t1 := ⟨h.le, vi, h.up, ⟨h.re.le, h.re.old, h.re.new⟩, h.hi, h.fr, h.st, h.fn⟩
theorem setUp_ok (h : Cur K K' m m' i t t1) (hil : i < m.ths.length) {clo x : Nat} (hc : clo < K'.nc) (hx : x < (m'.clos.getD clo cl0).nup) {v : Vl} (hv : VOk K' v) : ∃ t2, Cur K K' m (setUp m' clo x v) i t t2 ∧ t2.stack.length = t1.stack.length := by
  obtain ⟨q, c, ce, h1, h2, h3, h4⟩ := UpAt_of h.vi hc hx
  have e0 : m'.upix.getD ((m'.clos.getD clo cl0).up + x) 0 = c := by simp [h1, h2]
  have e : m'.cells.getD c ce0 = ce := by simp [h3]
  have hcl := (List.getElem?_eq_some_iff.1 h3).1
  unfold setUp
  dsimp only
  rw [e0, e]
  rcases h4 with ⟨e1, e2⟩ | ⟨y, u, v', e1, e2, e3, e4⟩
  · rw [if_neg (by omega)]
    refine ⟨t1, h.cells ?_, rfl⟩
    have H := h.vi
    have gd : ∀ d, ((m'.cells.set c { ce with v := v }).getD d ce0).pos = (m'.cells.getD d ce0).pos := by
      intro d
      by_cases ed : c = d
      · subst ed; rw [List.getD_eq_getElem?_getD, List.getElem?_set_self hcl, e]; rfl
      · rw [getD_set_ne ed]
    refine { H with ux := fun z hz => by have := H.ux z hz; simpa using this, cu := by have := H.cu; simpa using this, cz := fun x hx => (List.mem_or_eq_of_mem_set hx).elim (H.cz x) (fun e => by rw [e]; exact ⟨hv, (H.cz ce (List.mem_of_getElem? h3)).2⟩), ce := fun d ce' hd => ?_, th := fun j u hj => ?_, txt := ⟨H.txt.p1, H.txt.pl, H.txt.pr, H.txt.dl, H.txt.kl, H.txt.cl, H.txt.ds, H.txt.ks, H.txt.cs, H.txt.ti⟩ }
    · simp only at hd
      by_cases ed : c = d
      · subst ed
        rw [List.getElem?_set_self hcl] at hd
        cases hd
        exact .inl ⟨e1, hv⟩
      · rw [List.getElem?_set_ne ed] at hd
        exact H.ce d ce' hd
    · have U := H.th j u hj
      refine ⟨U.fn, U.st, U.sv, U.fr, ⟨fun d hd => ?_, ?_⟩, U.em, U.al⟩
      · obtain ⟨ce', b1, b2, b3⟩ := U.op.ok d hd
        by_cases ed : c = d
        · subst ed
          rw [h3] at b1
          cases b1
          rw [e1] at b2
          omega
        · exact ⟨ce', by simp only; rw [List.getElem?_set_ne ed]; exact b1, b2, b3⟩
      · refine U.op.so.imp fun {a b} hab => ?_
        simp only
        rw [gd a, gd b]
        exact hab
  · rw [if_pos (by omega), e1]
    simp only [Int.toNat_natCast, th_get e2]
    have U := h.vi.th y u e2
    have hne : u.frames ≠ [] := by
      intro e
      have := U.em e
      rw [this] at e3
      simp at e3
    have hU : ThOk K' m'.cells y { u with stack := u.stack.set ce.pos v } := U.stack _ (set_ok U.sv _ hv) (fun f hf => by have := U.fr.top f hf; simpa using this) hne
    by_cases ey : y = i
    · subst ey
      rw [h.hi] at e2
      cases e2
      refine ⟨_, h.stk hil _ (set_ok U.sv ce.pos hv) (fun f hf => by have := U.fr.top f (by rw [h.fr]; exact hf); simpa using this) (by rw [← h.fr]; exact hne), by simp⟩
    · refine ⟨t1, ⟨h.le, h.vi.setTh e2 hU (fun c hc => hc), h.up, ?_, ?_, h.fr, h.st, h.fn⟩, rfl⟩
      · refine h.re.trans hil ⟨by simp [VMD.setTh], fun j w hj hw => ?_, fun j w hj hw => ?_⟩
        · by_cases ej : y = j
          · subst ej
            rw [e2] at hw
            cases hw
            exact ⟨_, setTh_get e2, rfl, rfl, by simp⟩
          · exact ⟨w, by simp only [VMD.setTh]; rw [List.getElem?_set_ne ej]; exact hw, rfl, rfl, rfl⟩
        · have := (List.getElem?_eq_some_iff.1 hw).1
          simp [VMD.setTh] at this
          omega
      · simp only [VMD.setTh]
        rw [List.getElem?_set_ne ey]
        exact h.hi

/-! ### tables -/
theorem tab_ok (h : VI K m) (n : Nat) : TFit (m.tabs.getD n tab0) ∧ ∀ e ∈ (m.tabs.getD n tab0).order, VOk K e.1 ∧ VOk K e.2 := by
  rw [List.getD_eq_getElem?_getD]
  cases e : m.tabs[n]? with
  | none => exact ⟨⟨by simp [tab0], by simp [tab0], by simp [tab0], by simp [tab0], by simp [tab0], by simp [tab0], by simp [tab0], by simp [tab0], by simp [tab0], by simp [tab0]⟩, by simp [tab0]⟩
  | some t => exact h.tb t (List.mem_of_getElem? e)
theorem tabk_ok (h : VI K m) (n : Nat) : TCk (m.tabs.getD n tab0) := by
  rw [List.getD_eq_getElem?_getD]
  cases e : m.tabs[n]? with
  | none => exact TCk.nil
  | some t => exact h.tk t (List.mem_of_getElem? e)
theorem order_ok {t : TabD} (h : ∀ e ∈ t.order, VOk K e.1 ∧ VOk K e.2) (p : Nat) : VOk K (t.order.getD p (nilV, nilV)).1 ∧ VOk K (t.order.getD p (nilV, nilV)).2 := by
  rw [List.getD_eq_getElem?_getD]
  cases e : t.order[p]? with
  | none => exact ⟨VOk.nil K, VOk.nil K⟩
  | some x => exact h x (List.mem_of_getElem? e)
theorem get_ok {t : TabD} (h : ∀ e ∈ t.order, VOk K e.1 ∧ VOk K e.2) (k : Vl) : VOk K (t.get k) := by
  unfold TabD.get
  dsimp only
  split
  · exact VOk.nil K
  · exact (order_ok h _).2
theorem nextP_ok {t : TabD} (h : ∀ e ∈ t.order, VOk K e.1 ∧ VOk K e.2) (p : Nat) : VOk K (t.nextP p).1 ∧ VOk K (t.nextP p).2 := by
  unfold TabD.nextP
  cases e : (t.order.drop p).find? (fun e => !isNilV e.2) with
  | none => exact ⟨VOk.nil K, VOk.nil K⟩
  | some x => exact h x (List.mem_of_mem_drop (List.mem_of_find?_eq_some e))
theorem next_ok {t : TabD} (h : ∀ e ∈ t.order, VOk K e.1 ∧ VOk K e.2) {k : Vl} {r : Vl × Vl} (hr : t.next k = some r) : VOk K r.1 ∧ VOk K r.2 := by
  unfold TabD.next at hr
  split at hr
  · cases hr
  · split at hr
    · cases hr; exact nextP_ok h 0
    · dsimp only at hr
      split at hr
      · cases hr
      · cases hr; exact nextP_ok h _
/-- the tables are put for others -/
theorem VI.setTabs (h : VI K m) {ts : List TabD} (hl : ts.length = m.tabs.length) (ht : ∀ t ∈ ts, TFit t ∧ ∀ e ∈ t.order, VOk K e.1 ∧ VOk K e.2) (hk : ∀ t ∈ ts, TCk t) : VI K { m with tabs := ts } :=
  { h with kt := by rw [← h.kt]; exact hl, tb := ht, tk := hk, txt := ⟨h.txt.p1, h.txt.pl, h.txt.pr, h.txt.dl, h.txt.kl, h.txt.cl, h.txt.ds, h.txt.ks, h.txt.cs, h.txt.ti⟩ }
theorem putTabs (h : VI K m) (n : Nat) {k v : Vl} (hk : VOk K k) (hv : VOk K v) : VI K { m with tabs := m.tabs.set n ((m.tabs.getD n tab0).put k v).2 } := by
  refine h.setTabs (by simp) (fun t ht => ?_) (fun t ht => (List.mem_or_eq_of_mem_set ht).elim (h.tk t) fun e => by rw [e]; exact (tabk_ok h n).put (tab_ok h n).1 k v (fun _ => hk.b))
  rcases List.mem_or_eq_of_mem_set ht with ht | rfl
  · exact h.tb t ht
  · obtain ⟨f, o⟩ := tab_ok h n
    obtain ⟨f2, o2⟩ := f.put k v (fun _ => hk.b)
    refine ⟨f2, fun e he => ?_⟩
    rcases o2 e he with x | ⟨_, _, e2, ⟨y, e3⟩ | e3⟩
    · exact o e x
    · rw [e2]; exact ⟨(o _ e3).1, hv⟩
    · rw [e2, e3]; exact ⟨hk.oneV, hv⟩
theorem Cur.tabs (h : Cur K K' m m' i t t1) {ts : List TabD} (vi : VI K' { m' with tabs := ts }) : Cur K K' m { m' with tabs := ts } i t t1 := ⟨h.le, vi, h.up, ⟨h.re.le, h.re.old, h.re.new⟩, h.hi, h.fr, h.st, h.fn⟩
theorem store_ok (h : Cur K K' m m' i t t1) (n : Nat) {k v : Vl} (hk : VOk K' k) (hv : VOk K' v) {g : Int} (hg : (t1.stack.length : Int) = t.stack.length + g) : PlOk K m i t g (storeP m' n k v) := by
  unfold storeP
  dsimp only
  split
  · exact PlOk.trap h
  · split
    · exact PlOk.thr h (by decide)
    · exact PlOk.ok (h.tabs (putTabs h.vi n hk hv)) hg

/-! ### one more of a kind -/
/-- a greater context -/
theorem ThOk.le {cells : List CeD} {i : Nat} {t : ThD} (h : ThOk K cells i t) (l : K.le K') : ThOk K' cells i t := by
  refine ⟨Nat.lt_of_lt_of_le h.fn l.c, h.st, fun v hv => (h.sv v hv).le l, h.fr.le l, ⟨fun c hc => ?_, h.op.so⟩, h.em, h.al⟩
  obtain ⟨ce, h1, h2, f, h3, h4, h5⟩ := h.op.ok c hc
  obtain ⟨j, hj, rfl⟩ := List.getElem_of_mem h3
  exact ⟨ce, h1, h2, _, h3, h4, by rw [l.n _ (h.fr.each j _ (List.getElem?_eq_getElem hj)).1]; exact h5⟩
theorem addTab (h : VI K m) (hl : m.tabs.length < 12) : VI { K with nt := K.nt + 1 } { m with tabs := m.tabs ++ [tab0] } ∧ K.le { K with nt := K.nt + 1 } := by
  have l : K.le { K with nt := K.nt + 1 } := ⟨Nat.le_succ _, Nat.le_refl _, Nat.le_refl _, fun _ _ => rfl, fun _ _ => rfl⟩
  refine ⟨⟨by simp; exact h.kt, h.kc, h.kh, h.kn, h.kd, ⟨h.txt.p1, h.txt.pl, h.txt.pr, h.txt.dl, h.txt.kl, h.txt.cl, h.txt.ds, h.txt.ks, h.txt.cs, h.txt.ti⟩, h.cl, h.c1, h.cn, h.ux, h.cu, fun c ce hc => ?_, fun x hx => ⟨(h.cz x hx).1.le l, (h.cz x hx).2⟩, h.h1, h.hn, fun i t hi => (h.th i t hi).le l, h.ol, Nat.le_succ_of_le h.t1, by have := h.kt; simp; omega, fun t ht => ?_, fun t ht => (List.mem_append.1 ht).elim (h.tk t) (fun e => by simp at e; rw [e]; exact TCk.nil)⟩, l⟩
  · rcases h.ce c ce hc with ⟨e1, e2⟩ | e
    · exact .inl ⟨e1, e2.le l⟩
    · exact .inr e
  · rcases List.mem_append.1 ht with ht | ht
    · obtain ⟨a, b⟩ := h.tb t ht
      exact ⟨a, fun e he => ⟨(b e he).1.le l, (b e he).2.le l⟩⟩
    · simp at ht
      rw [ht]
      exact ⟨⟨by simp [tab0], by simp [tab0], by simp [tab0], by simp [tab0], by simp [tab0], by simp [tab0], by simp [tab0], by simp [tab0], by simp [tab0], by simp [tab0]⟩, by simp [tab0]⟩
def addC (K : Cx) (p : PrD) : Cx := { K with nc := K.nc + 1, ns := fun c => if c < K.nc then K.ns c else p.ns, cd := fun c => if c < K.nc then K.cd c else p.nc }
theorem addC_le (K : Cx) (p : PrD) : K.le (addC K p) := ⟨Nat.le_refl _, Nat.le_succ _, Nat.le_refl _, (fun c hc => by simp [addC, hc]), (fun c hc => by simp [addC, hc])⟩
theorem addClo (h : VI K m) {q : ClD} (hl : m.clos.length < 24) (hp : q.p < m.protos.length) (hn : q.nup = (m.protos.getD q.p pr0).nup) (hu : q.up + q.nup ≤ m.upix.length) : VI (addC K (m.protos.getD q.p pr0)) { m with clos := m.clos ++ [q] } := by
  have l := addC_le K (m.protos.getD q.p pr0)
  have kc := h.kc
  refine ⟨h.kt, by simp [addC, kc], h.kh, fun c hc => ?_, fun c hc => ?_, ⟨h.txt.p1, h.txt.pl, h.txt.pr, h.txt.dl, h.txt.kl, h.txt.cl, h.txt.ds, h.txt.ks, h.txt.cs, h.txt.ti⟩, fun c hc => ?_, Nat.le_succ_of_le h.c1, by simp only [addC]; omega, h.ux, h.cu, fun c ce hc => ?_, fun x hx => ⟨(h.cz x hx).1.le l, (h.cz x hx).2⟩, h.h1, h.hn, fun i t hi => (h.th i t hi).le l, h.ol, h.t1, h.tn, fun t ht => ?_, h.tk⟩
  · simp only [addC] at hc ⊢
    by_cases hcl : c < K.nc
    · rw [if_pos hcl, ← h.kn c hcl]
      unfold VMD.proto
      have e : (m.clos ++ [q]).getD c cl0 = m.clos.getD c cl0 := by
        rw [List.getD_eq_getElem?_getD, List.getElem?_append_left (by omega), ← List.getD_eq_getElem?_getD]
      simp only [e]
    · have : c = m.clos.length := by omega
      rw [if_neg hcl]
      unfold VMD.proto
      simp [this]
  · simp only [addC] at hc ⊢
    by_cases hcl : c < K.nc
    · rw [if_pos hcl, ← h.kd c hcl]
      unfold VMD.proto
      have e : (m.clos ++ [q]).getD c cl0 = m.clos.getD c cl0 := by
        rw [List.getD_eq_getElem?_getD, List.getElem?_append_left (by omega), ← List.getD_eq_getElem?_getD]
      simp only [e]
    · have : c = m.clos.length := by omega
      rw [if_neg hcl]
      unfold VMD.proto
      simp [this]
  · rcases List.mem_append.1 hc with hc | hc
    · exact h.cl c hc
    · simp at hc; rw [hc]; exact ⟨hp, hn, hu⟩
  · rcases h.ce c ce hc with ⟨e1, e2⟩ | e
    · exact .inl ⟨e1, e2.le l⟩
    · exact .inr e
  · obtain ⟨a, b⟩ := h.tb t ht
    exact ⟨a, fun e he => ⟨(b e he).1.le l, (b e he).2.le l⟩⟩
theorem spawn_inv (h : VI K m) (hl : m.ths.length < 5) {fn : Nat} (hf : fn < K.nc) : VI { K with nh := K.nh + 1 } (spawn m fn) ∧ K.le { K with nh := K.nh + 1 } := by
  have l : K.le { K with nh := K.nh + 1 } := ⟨Nat.le_refl _, Nat.le_refl _, Nat.le_succ _, fun _ _ => rfl, fun _ _ => rfl⟩
  have kh := h.kh
  refine ⟨⟨h.kt, h.kc, by simp [spawn, kh], h.kn, h.kd, ⟨h.txt.p1, h.txt.pl, h.txt.pr, h.txt.dl, h.txt.kl, h.txt.cl, h.txt.ds, h.txt.ks, h.txt.cs, h.txt.ti⟩, h.cl, h.c1, h.cn, h.ux, h.cu, fun c ce hc => ?_, fun x hx => ⟨(h.cz x hx).1.le l, (h.cz x hx).2⟩, Nat.le_succ_of_le h.h1, by simp only; omega, fun i t hi => ?_, h.ol, h.t1, h.tn, fun t ht => ?_, h.tk⟩, l⟩
  · rcases h.ce c ce hc with ⟨e1, e2⟩ | ⟨y, u, e1, e2, e3⟩
    · exact .inl ⟨e1, e2.le l⟩
    · exact .inr ⟨y, u, e1, by simp only [spawn]; rw [List.getElem?_append_left (List.getElem?_eq_some_iff.1 e2).1]; exact e2, e3⟩
  · simp only [spawn] at hi
    by_cases hil : i < m.ths.length
    · rw [List.getElem?_append_left hil] at hi
      exact (h.th i t hi).le l
    · rw [List.getElem?_append_right (by omega)] at hi
      have e0 : i - m.ths.length = 0 := by
        have := (List.getElem?_eq_some_iff.1 hi).1
        simpa using this
      rw [e0] at hi
      simp at hi
      rw [← hi]
      exact ⟨hf, by simp, by simp, ⟨by simp, by simp, by simp, by simp, by simp, by simp, by simp⟩, ⟨by simp, by simp⟩, fun _ => rfl, by simp⟩
  · obtain ⟨a, b⟩ := h.tb t ht
    exact ⟨a, fun e he => ⟨(b e he).1.le l, (b e he).2.le l⟩⟩
theorem closure_ok (h : VI K m) (u : UpL m) (hi : m.ths[i]? = some t) {f : FmD} (hf : f ∈ t.frames) (hc : f.clo < K.nc) {x : Nat} (hx : x < m.protos.length)
    (hd : ∀ d ∈ (m.descs.drop (m.protos.getD x pr0).up).take (m.protos.getD x pr0).nup, ¬ ((d.1 = 1 ∧ d.2 ≥ K.ns f.clo) ∨ (d.1 = 0 ∧ d.2 ≥ (m.clos.getD f.clo cl0).nup))) :
    (closure m i f.base f.clo x = trapR 8 m) ∨ ∃ K' m' t1, closure m i f.base f.clo x = (.inr m.clos.length, m') ∧ Cur K K' m m' i t t1 ∧ t1.stack = t.stack ∧ m.clos.length < K'.nc := by
  unfold closure
  split
  · exact .inl rfl
  · rename_i h24
    right
    dsimp only
    have P := h.txt.pr (m.protos.getD x pr0) (by rw [List.getD_eq_getElem?_getD, List.getElem?_eq_getElem hx]; exact List.getElem_mem hx)
    obtain ⟨Q, q1, q2⟩ := closL_inv ((m.descs.drop (m.protos.getD x pr0).up).take (m.protos.getD x pr0).nup) h hi hf hc (fun d hd' => ⟨hd d hd', (h.txt.ds d (List.mem_of_mem_drop (List.mem_of_mem_take hd'))).1⟩)
    have hlen : ((m.descs.drop (m.protos.getD x pr0).up).take (m.protos.getD x pr0).nup).length = (m.protos.getD x pr0).nup := by
      have := P.up
      rw [List.length_take, List.length_drop]
      omega
    rw [hlen] at q1
    obtain ⟨o, ho⟩ := Q.th
    have hcl : (closL i f.base f.clo ((m.descs.drop (m.protos.getD x pr0).up).take (m.protos.getD x pr0).nup) m).clos = m.clos := Q.cl
    have hpr : (closL i f.base f.clo ((m.descs.drop (m.protos.getD x pr0).up).take (m.protos.getD x pr0).nup) m).protos = m.protos := Q.pr
    have V := addClo Q.vi (q := ⟨x, m.upix.length, (m.protos.getD x pr0).nup⟩) (by rw [hcl]; omega) (by rw [hpr]; exact hx) (by rw [hpr]) (by rw [q1]; exact Nat.le_refl _)
    refine ⟨_, _, { t with opn := o }, rfl, ⟨addC_le K _, V, ?_, ?_, ho, rfl, rfl, rfl⟩, rfl, ?_⟩
    · unfold UpL at u ⊢
      simp only [hcl, List.length_append, List.length_singleton]
      have hu1 := P.nu
      refine ⟨by omega, fun j q hj => ?_, ?_⟩
      · by_cases hjl : j < m.clos.length
        · rw [List.getElem?_append_left hjl] at hj
          rw [u.2.each j q hj, List.take_append_of_le_length (by omega)]
        · have hj2 := (List.getElem?_eq_some_iff.1 hj).1
          simp at hj2
          have hjj : j = m.clos.length := by omega
          subst hjj
          simp at hj
          rw [← hj]
          simp only [List.take_append_of_le_length (Nat.le_refl _), List.take_length]
          exact u.2.all
      · rw [q1, u.2.all]
        simp
    · exact Rest.ot (by have h1 := Q.vi.kh; have h2 := h.kh; exact h1.trans h2.symm) Q.ot
    · simp only [addC]
      have := h.kc
      omega
end
end Go.Proofs.Qxb6500574aGreatDoor
