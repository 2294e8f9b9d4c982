/-
  moon: typed frames through an instruction that stays in its frame. Plain; no memory, no walk.
-/
import Derived.Test.Qxb6500574aGreatDoorWTy
namespace Go.Proofs.Qxb6500574aGreatDoor
set_option linter.unusedVariables false
set_option linter.unusedSimpArgs false
section
variable {S : Nat → Nat → Ty → Prop} {K K' : Cx} {m m' : VMD} {i : Nat} {t t1 : ThD} {f : FmD} {a b : Ty}
def isN (t : ThD) : Bool := decide ((t.stack.getD (t.stack.length - 1) nilV).t = 2)
theorem At.ty (h : At K m i t f) (I : TI S m) : ∃ a, S (m.clos.getD f.clo cl0).p f.pc a ∧ Fits m i t.stack f t.stack.length (isN t) a := by
  have hlt := (List.getElem?_eq_some_iff.1 h.hf).1
  obtain ⟨a, a1, a2⟩ := I i t h.hi _ f hlt h.hf
  refine ⟨a, a1, ?_⟩
  have e1 : hgt t (t.frames.length - 1) = t.stack.length := by
    unfold hgt
    rw [show t.frames.length - 1 + 1 = t.frames.length by omega, List.getElem?_eq_none (Nat.le_refl _)]
    simp [h.st]
  have e2 : topN t (t.frames.length - 1) = isN t := by
    unfold topN isN
    have : t.frames.length - 1 + 1 = t.frames.length := by omega
    simp [h.st, this]
  rw [e1, e2] at a2
  exact a2
/-- the frames below the top one -/
theorem At.low (h : At K m i t f) (T : TC S m) (I : TI S m) (x : TxtT m m') (hl : t1.frames.length = t.frames.length) (hfr : ∀ j, j + 1 < t.frames.length → t1.frames[j]? = t.frames[j]?) (hrt : ∀ g, t1.frames[t.frames.length - 1]? = some g → g.ret = f.ret)
    (hc : ∀ (c : Nat) (ce : CeD), m'.cells[c]? = some ce → ce.th = (i : Int) → ce.pos < f.base → ∃ (c0 : Nat) (d : CeD), m.cells[c0]? = some d ∧ d.th = (i : Int) ∧ d.pos = ce.pos)
    (hs : ∀ q, q < f.base → (∀ (c : Nat) (ce : CeD), m.cells[c]? = some ce → ce.th = (i : Int) → ce.pos ≠ q) → t1.stack.getD q nilV = t.stack.getD q nilV) : ThTy S m' i t1 (t.frames.length - 1) := by
  have hlt := (List.getElem?_eq_some_iff.1 h.hf).1
  refine low_ty (n := t.frames.length - 1) (w := f.base) h.vi T h.hi x (fun j g hj hg => I i t h.hi j g (by omega) hg) hlt (fun j g hj hg => ?_) (fun j hj => ?_) (fun j g hj hg => (h.ok.fr.apart hg h.hf hj).1) hc hs
  · rw [hfr j (by omega)] at hg; exact hg
  · unfold hgt
    by_cases e : j + 1 + 1 < t.frames.length
    · rw [hfr (j + 1) e]
      have : j + 1 < t.frames.length := by omega
      rw [List.getElem?_eq_getElem this]
    · have e2 : j + 1 = t.frames.length - 1 := by omega
      rw [e2, h.hf]
      have hl1 : t.frames.length - 1 < t1.frames.length := by omega
      rw [List.getElem?_eq_getElem hl1]
      dsimp only
      rw [hrt _ (List.getElem?_eq_getElem hl1)]
/-- the top frame goes on at y -/
theorem At.go (h : At K m i t f) (T : TC S m) (I : TI S m) (se : SeenT m m' i) (hi' : m'.ths[i]? = some t1) {y : Nat} (hfr : t1.frames = t.frames.set (t.frames.length - 1) { f with pc := y }) (hst : t1.st = 4)
    (hc : ∀ (c : Nat) (ce : CeD), m'.cells[c]? = some ce → ce.th = (i : Int) → ce.pos < f.base → ∃ (c0 : Nat) (d : CeD), m.cells[c0]? = some d ∧ d.th = (i : Int) ∧ d.pos = ce.pos)
    (hs : ∀ q, q < f.base → (∀ (c : Nat) (ce : CeD), m.cells[c]? = some ce → ce.th = (i : Int) → ce.pos ≠ q) → t1.stack.getD q nilV = t.stack.getD q nilV)
    (g : Goes (S (m.clos.getD f.clo cl0).p) y b) (fi : Fits m' i t1.stack f t1.stack.length (isN t1) b) : TI S m' := by
  have hlt := (List.getElem?_eq_some_iff.1 h.hf).1
  have hcl : f.clo < m.clos.length := by rw [h.vi.kc]; exact h.clo
  have hlen : t1.frames.length = t.frames.length := by rw [hfr, List.length_set]
  have hL := h.low (t1 := t1) T I se.tx hlen (fun j hj => by rw [hfr, List.getElem?_set_ne (by omega)]) (fun g hg => by rw [hfr, List.getElem?_set_self hlt] at hg; cases hg; rfl) hc hs
  have htop : t1.frames[t.frames.length - 1]? = some { f with pc := y } := by rw [hfr, List.getElem?_set_self hlt]
  obtain ⟨b', g1, g2⟩ := g
  have F2 := fi.sub g1
  refine TI.of h.vi T (I.low i) se hi' ?_
  have := hL.snoc (by omega) htop ⟨b', ?_, ?_⟩
  · rw [show t.frames.length - 1 + 1 = t1.frames.length by omega] at this
    exact this
  · rw [se.tx.cl _ hcl]; exact g2
  · have e1 : hgt t1 (t.frames.length - 1) = t1.stack.length := by
      unfold hgt
      rw [show t.frames.length - 1 + 1 = t1.frames.length by omega, List.getElem?_eq_none (Nat.le_refl _)]
      simp [hst]
    have e2 : topN t1 (t.frames.length - 1) = isN t1 := by
      unfold topN isN
      have : t.frames.length - 1 + 1 = t1.frames.length := by omega
      simp [hst, this]
    rw [e1, e2]
    exact ⟨F2.h, F2.t, F2.F, F2.o⟩
/-- cells and locals stay -/
theorem At.go0 (h : At K m i t f) (T : TC S m) (I : TI S m) (o : Oth m i) (se : Stay m m' i) (hi' : m'.ths[i]? = some t1) {y : Nat} (hfr : t1.frames = t.frames.set (t.frames.length - 1) { f with pc := y }) (hst : t1.st = 4)
    (hs : ∀ q, q < f.base + K.ns f.clo → t1.stack.getD q nilV = t.stack.getD q nilV)
    (g : Goes (S (m.clos.getD f.clo cl0).p) y b) (A : S (m.clos.getD f.clo cl0).p f.pc a) (fa : Fits m i t.stack f t.stack.length (isN t) a) (hb : b.hid = a.hid ∧ b.F = a.F) (hh : t1.stack.length = f.base + K.ns f.clo + b.h) (ht : b.t = true → isN t1 = true) : TI S m' := by
  have hcl : f.clo < m.clos.length := by rw [h.vi.kc]; exact h.clo
  refine h.go T I (se.seen o) hi' hfr hst (fun c ce k1 k2 _ => ⟨c, ce, by rw [← se.ce]; exact k1, k2, rfl⟩) (fun q hq _ => hs q (by omega)) g ⟨?_, ht, fun x hx e he => ?_, fun c ce k1 k2 k3 k4 => ?_⟩
  · rw [se.tx.proto hcl, h.ns]; exact hh
  · rw [hb.2] at hx
    have w := (T.go _ _ _ A)
    have wl := (List.getElem?_eq_some_iff.1 (w.wf.F x hx e he)).1
    have hl : a.hid.length ≤ (m.proto f.clo).ns := w.hl
    rw [h.ns] at hl
    rw [hs _ (by omega)]
    exact fa.F x hx e he
  · rw [hb.1]
    rw [se.ce] at k1
    rw [se.tx.proto hcl] at k4
    exact fa.o c ce k1 k2 k3 k4
/-- what flies leaves the lower frames as they are -/
theorem At.thr (h : At K m i t f) (T : TC S m) (I : TI S m) (o : Oth m i) (se : Stay m m' i) (hi' : m'.ths[i]? = some t1) (hl : t1.frames.length = t.frames.length) (hfr : ∀ j, j + 1 < t.frames.length → t1.frames[j]? = t.frames[j]?) (hrt : ∀ g, t1.frames[t.frames.length - 1]? = some g → g.ret = f.ret)
    (hs : ∀ q, q < f.base → t1.stack.getD q nilV = t.stack.getD q nilV) : TIl S m' i :=
  TIl.of h.vi T (I.low i) (se.seen o) hi' (by rw [hl]; exact h.low T I se.tx hl hfr hrt (fun c ce k1 k2 _ => ⟨c, ce, by rw [← se.ce]; exact k1, k2, rfl⟩) (fun q hq _ => hs q hq))
theorem gd_app {xs ys : List Vl} {q : Nat} (h : q < xs.length) : (xs ++ ys).getD q nilV = xs.getD q nilV := by
  rw [List.getD_eq_getElem?_getD, List.getElem?_append_left h, ← List.getD_eq_getElem?_getD]
theorem gd_take {xs : List Vl} {q n : Nat} (h : q < n) : (xs.take n).getD q nilV = xs.getD q nilV := by
  rw [List.getD_eq_getElem?_getD, List.getElem?_take_of_lt h, ← List.getD_eq_getElem?_getD]
theorem gd_setne {xs : List Vl} {q n : Nat} {v : Vl} (h : n ≠ q) : (xs.set n v).getD q nilV = xs.getD q nilV := by
  rw [List.getD_eq_getElem?_getD, List.getElem?_set_ne h, ← List.getD_eq_getElem?_getD]
theorem gd_setself {xs : List Vl} {n : Nat} {v : Vl} (h : n < xs.length) : (xs.set n v).getD n nilV = v := by
  rw [List.getD_eq_getElem?_getD, List.getElem?_set_self h]; rfl
/-- what an instruction of the plain kind comes to, in types: behind it the pc is one more -/
def PlTy (S : Nat → Nat → Ty → Prop) (m : VMD) (i : Nat) (r : RR Unit) : Prop :=
  (∀ e, r.1 = .inl (.inr e) → e ≠ 11) ∧ (∀ v, r.1 = .inl (.inl v) → TIl S r.2 i) ∧ (r.1 = .inr () → TI S (setPc r.2 i ((topF r.2 i).pc + 1)))
theorem Stay.setPc (m : VMD) (i y : Nat) : Stay m (setPc m i y) i := Stay.setTh m i _
theorem setPc_get (hi : m.ths[i]? = some t) (hf : t.frames[t.frames.length - 1]? = some f) (y : Nat) : (setPc m i y).ths[i]? = some { t with frames := t.frames.set (t.frames.length - 1) { f with pc := y } } := by
  unfold Go.Proofs.Qxb6500574aGreatDoor.setPc
  dsimp only
  rw [th_get hi, List.getD_eq_getElem?_getD, hf]
  exact setTh_get hi
theorem topF_get (hi : m.ths[i]? = some t) (hf : t.frames[t.frames.length - 1]? = some f) : topF m i = f := by
  unfold topF
  rw [th_get hi, List.getD_eq_getElem?_getD, hf]
  rfl
/-- k operands go, the values vs come -/
theorem At.plg (h : At K m i t f) (T : TC S m) (I : TI S m) (o : Oth m i) (A : S (m.clos.getD f.clo cl0).p f.pc a) (fa : Fits m i t.stack f t.stack.length (isN t) a) {m1 : VMD} (se : Stay m m1 i) {k y : Nat} {vs : List Vl} (hk : k ≤ a.h)
    (hi1 : m1.ths[i]? = some { t with stack := t.stack.take (t.stack.length - k) ++ vs }) (g : Goes (S (m.clos.getD f.clo cl0).p) y b) (hb : b.hid = a.hid ∧ b.F = a.F) (hh : b.h = a.h - k + vs.length) (ht : b.t = true → isN { t with stack := t.stack.take (t.stack.length - k) ++ vs } = true) : TI S (setPc m1 i y) := by
  have hf1 : ({ t with stack := t.stack.take (t.stack.length - k) ++ vs } : ThD).frames[({ t with stack := t.stack.take (t.stack.length - k) ++ vs } : ThD).frames.length - 1]? = some f := h.hf
  have fh := fa.h
  rw [h.ns] at fh
  refine h.go0 T I o (se.trans (Stay.setPc m1 i y)) (setPc_get hi1 hf1 y) rfl h.st (fun q hq => ?_) g A fa hb ?_ ht
  · simp only
    rw [gd_app (by rw [List.length_take]; omega), gd_take (by omega)]
  · simp only [List.length_append, List.length_take]
    omega
theorem At.plthr (h : At K m i t f) (T : TC S m) (I : TI S m) (o : Oth m i) (fa : Fits m i t.stack f t.stack.length (isN t) a) {m1 : VMD} (se : Stay m m1 i) {k : Nat} (hk : k ≤ a.h) (hi1 : m1.ths[i]? = some { t with stack := t.stack.take (t.stack.length - k) }) : TIl S m1 i := by
  have fh := fa.h
  refine h.thr T I o se hi1 rfl (fun _ _ => rfl) (fun g hg => by simp only at hg; rw [h.hf] at hg; cases hg; rfl) (fun q hq => ?_)
  simp only
  rw [gd_take (by omega)]
end
end Go.Proofs.Qxb6500574aGreatDoor
