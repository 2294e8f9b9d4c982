/-
  moon: typed frames through calls, returns, what flies. Plain; no memory, no walk.
-/
import Derived.Test.Qxb6500574aGreatDoorWTy5
namespace Go.Proofs.Qxb6500574aGreatDoor
set_option linter.unusedVariables false
set_option linter.unusedSimpArgs false
section
variable {S : Nat → Nat → Ty → Prop} {K K' : Cx} {m m' m1 : VMD} {i : Nat} {t t1 : ThD} {f : FmD} {a b : Ty}
/-- the frame at hand waits for two results, or goes on -/
theorem Run.wait (h : Run S K m i t f a) (tx : TxtT m m') (hce : m'.cells = m.cells) {xs : List Vl} {y hg : Nat} {tn : Bool} (hs : ∀ q, q < f.base + K.ns f.clo → xs.getD q nilV = t.stack.getD q nilV) (g : Goes (S (m.clos.getD f.clo cl0).p) y b) (hb : b.hid = a.hid ∧ b.F = a.F ∧ b.t = false) (hh : hg = f.base + K.ns f.clo + b.h) :
    FrTy S m' i xs { f with pc := y } hg tn := by
  obtain ⟨b', g1, g2⟩ := g
  refine ⟨b', by simp only; rw [tx.cl _ h.clo]; exact g2, Fits.sub (a := b) ⟨?_, (fun e => by rw [hb.2.2] at e; cases e), fun x hx e he => ?_, fun c ce k1 k2 k3 k4 => ?_⟩ g1⟩
  · simp only; rw [tx.proto h.clo, h.at_.ns]; exact hh
  · rw [hb.2.1] at hx
    have := h.pr hx he
    simp only
    rw [hs _ (by omega)]
    exact h.fi.F x hx e he
  · simp only at k3 k4 ⊢
    rw [hb.1]
    rw [hce] at k1
    rw [tx.proto h.clo] at k4
    exact h.fi.o c ce k1 k2 k3 k4
/-- the lower frames of thread i when its cells stay -/
theorem Run.lower (h : Run S K m i t f a) (tx : TxtT m m') (hce : m'.cells = m.cells) {fs : List FmD} {y : Nat} (hfr : t1.frames = t.frames.set (t.frames.length - 1) { f with pc := y } ++ fs) (hs : ∀ q, q < f.base → t1.stack.getD q nilV = t.stack.getD q nilV) : ThTy S m' i t1 (t.frames.length - 1) := by
  have hlt := (List.getElem?_eq_some_iff.1 h.at_.hf).1
  refine low_ty (n := t.frames.length - 1) (w := f.base) h.at_.vi h.tc h.at_.hi tx (fun j g hj hg => h.ti i t h.at_.hi j g (by omega) hg) hlt (fun j g hj hg => ?_) (fun j hj => ?_) (fun j g hj hg => (h.at_.ok.fr.apart hg h.at_.hf hj).1) (fun c ce k1 k2 _ => ⟨c, ce, by rw [← hce]; exact k1, k2, rfl⟩) (fun q hq _ => hs q hq)
  · rw [hfr, List.getElem?_append_left (by simp; omega), List.getElem?_set_ne (by omega)] at hg
    exact hg
  · unfold hgt
    rw [hfr, List.getElem?_append_left (by simp; omega)]
    by_cases e : j + 1 = t.frames.length - 1
    · rw [e, List.getElem?_set_self hlt, h.at_.hf]
    · rw [List.getElem?_set_ne (by omega)]
      have : j + 1 < t.frames.length := by omega
      rw [List.getElem?_eq_getElem this]
/-- the thread goes on or sleeps behind a call, at height b.h -/
theorem Run.aft (h : Run S K m i t f a) (se : SeenT m m' i) (hce : m'.cells = m.cells) (hi' : m'.ths[i]? = some t1) {y : Nat} (hfr : t1.frames = t.frames.set (t.frames.length - 1) { f with pc := y }) (hs : ∀ q, q < f.base + K.ns f.clo → t1.stack.getD q nilV = t.stack.getD q nilV)
    (g : Goes (S (m.clos.getD f.clo cl0).p) y b) (hb : b.hid = a.hid ∧ b.F = a.F ∧ b.t = false) (hh : (if t1.st = 4 then t1.stack.length else t1.stack.length + 2) = f.base + K.ns f.clo + b.h) : TI S m' := by
  have hlt := (List.getElem?_eq_some_iff.1 h.at_.hf).1
  have hlen : t1.frames.length = t.frames.length := by rw [hfr, List.length_set]
  have hL := h.lower (t1 := t1) se.tx hce (fs := []) (by rw [List.append_nil]; exact hfr) (fun q hq => hs q (by omega))
  have htop : t1.frames[t.frames.length - 1]? = some { f with pc := y } := by rw [hfr, List.getElem?_set_self hlt]
  refine TI.of h.at_.vi h.tc (h.ti.low i) se hi' ?_
  have := hL.snoc (by omega) htop (h.wait se.tx hce hs g hb ?_)
  · rw [show t.frames.length - 1 + 1 = t1.frames.length by omega] at this
    exact this
  · unfold hgt
    rw [show t.frames.length - 1 + 1 = t1.frames.length by omega, List.getElem?_eq_none (Nat.le_refl _)]
    exact hh
/-- no cell is open above a thread's stack -/
theorem VI.posLt (V : VI K m) (hi : m.ths[i]? = some t) {c : Nat} {ce : CeD} (hc : m.cells[c]? = some ce) (ht : ce.th = (i : Int)) : ce.pos < t.stack.length := by
  rcases V.ce c ce hc with ⟨e, _⟩ | ⟨y, u, e1, e2, e3⟩
  · omega
  · have : y = i := by omega
    subst this
    rw [hi] at e2
    cases e2
    have U := V.th y t hi
    obtain ⟨ce', c1, c2, g, c3, c4, c5⟩ := U.op.ok c e3
    rw [hc] at c1
    cases c1
    have := U.fr.below c3
    omega
/-- a new frame's type -/
theorem new_ty (V : VI K m) (T : TC S m) (hi : m.ths[i]? = some t) {c ret : Nat} {prot : Bool} (hc : c < K.nc) {xs : List Vl} (hl : xs.length = t.stack.length + K.ns c) {tn : Bool} (tx : TxtT m m') (hce : m'.cells = m.cells) : FrTy S m' i xs ⟨c, 0, t.stack.length, ret, prot⟩ xs.length tn := by
  have hcl : c < m.clos.length := by rw [V.kc]; exact hc
  obtain ⟨q, p, k1, k2, k3, k4, k5, _⟩ := V.proto hc
  have hp : (m.clos.getD c cl0).p < m.protos.length := by
    have : m.clos.getD c cl0 = q := by simp [k1]
    rw [this]
    exact (List.getElem?_eq_some_iff.1 k2).1
  obtain ⟨b, b1, b2⟩ := T.en _ hp
  refine ⟨b, by simp only; rw [tx.cl _ hcl]; exact b2, Fits.sub (a := ⟨0, List.replicate (m.protos.getD (m.clos.getD c cl0).p pr0).np false, [], false⟩) ⟨?_, (fun e => by cases e), (fun x hx => by cases hx), fun c' ce k1 k2 k3 k4 => ?_⟩ b1⟩
  · simp only; rw [tx.proto hcl, V.kn c hc, hl]; rfl
  · simp only at k3
    rw [hce] at k1
    have := V.posLt hi k1 k2
    omega
theorem Run.enter (h : Run S K m i t f a) {c ret : Nat} {prot : Bool} (hc : c < K.nc) (args : List Vl) {t2 : ThD} {m2 : VMD} (hm2 : m2 = setPc m i (f.pc + 1)) (hret : ret + 2 = f.base + K.ns f.clo + b.h)
    (g : Goes (S (m.clos.getD f.clo cl0).p) (f.pc + 1) b) (hb : b.hid = a.hid ∧ b.F = a.F ∧ b.t = false) : TI S (Go.Proofs.Qxb6500574aGreatDoor.enter m2 i c args ret prot) := by
  have hlt := (List.getElem?_eq_some_iff.1 h.at_.hf).1
  have hh := h.hh
  have hi2 : m2.ths[i]? = some { t with frames := t.frames.set (t.frames.length - 1) { f with pc := f.pc + 1 } } := by rw [hm2]; exact setPc_get h.at_.hi h.at_.hf _
  have st2 : Stay m m2 i := by rw [hm2]; exact Stay.setPc m i _
  rw [enter_is hi2]
  have hp2 : (m2.proto c).ns = K.ns c := by rw [st2.tx.proto (by rw [h.at_.vi.kc]; exact hc)]; exact h.at_.vi.kn c hc
  generalize hxs : t.stack ++ (List.range (m2.proto c).ns).map (fun j => if j < (m2.proto c).np then args.getD j nilV else nilV) = xs
  have hxl : xs.length = t.stack.length + K.ns c := by rw [← hxs]; simp [hp2]
  have hq : ∀ q, q < t.stack.length → xs.getD q nilV = t.stack.getD q nilV := fun q hq => by rw [← hxs]; exact gd_app hq
  have st3 : Stay m (m2.setTh i { t with stack := xs, frames := t.frames.set (t.frames.length - 1) { f with pc := f.pc + 1 } ++ [⟨c, 0, t.stack.length, ret, prot⟩] }) i := st2.trans (Stay.setTh m2 i _)
  refine TI.of h.at_.vi h.tc (h.ti.low i) (st3.seen h.ot) (setTh_get hi2) ?_
  have hL := h.lower (t1 := { t with stack := xs, frames := t.frames.set (t.frames.length - 1) { f with pc := f.pc + 1 } ++ [⟨c, 0, t.stack.length, ret, prot⟩] }) st3.tx st3.ce rfl (fun q hq' => hq q (by omega))
  have e1 : (t.frames.set (t.frames.length - 1) { f with pc := f.pc + 1 } ++ [(⟨c, 0, t.stack.length, ret, prot⟩ : FmD)])[t.frames.length - 1]? = some { f with pc := f.pc + 1 } := by
    rw [List.getElem?_append_left (by simp; omega), List.getElem?_set_self hlt]
  have e2 : (t.frames.set (t.frames.length - 1) { f with pc := f.pc + 1 } ++ [(⟨c, 0, t.stack.length, ret, prot⟩ : FmD)])[t.frames.length - 1 + 1]? = some ⟨c, 0, t.stack.length, ret, prot⟩ := by
    rw [List.getElem?_append_right (by simp; omega), List.length_set, show t.frames.length - 1 + 1 - t.frames.length = 0 by omega]
    rfl
  have h1 := hL.snoc (by simp; omega) e1 (h.wait (hg := hgt { t with stack := xs, frames := t.frames.set (t.frames.length - 1) { f with pc := f.pc + 1 } ++ [⟨c, 0, t.stack.length, ret, prot⟩] } (t.frames.length - 1)) st3.tx st3.ce (fun q hq' => hq q (by omega)) g hb (by unfold hgt; simp only; rw [e2]; exact hret))
  have h2 := h1.snoc (by simp; omega) e2 ?_
  · rw [show (({ t with stack := xs, frames := t.frames.set (t.frames.length - 1) { f with pc := f.pc + 1 } ++ [⟨c, 0, t.stack.length, ret, prot⟩] } : ThD)).frames.length = t.frames.length - 1 + 1 + 1 by simp; omega]
    exact h2
  · have e3 : hgt { t with stack := xs, frames := t.frames.set (t.frames.length - 1) { f with pc := f.pc + 1 } ++ [⟨c, 0, t.stack.length, ret, prot⟩] } (t.frames.length - 1 + 1) = xs.length := by
      unfold hgt
      simp only
      rw [List.getElem?_eq_none (by simp; omega)]
      simp [h.at_.st]
    rw [e3]
    exact new_ty h.at_.vi h.tc h.at_.hi hc hxl st3.tx st3.ce
/-- frames go, two values lie where the call lay -/
theorem drop_ty (V : VI K m) (T : TC S m) (I : TIl S m i) (o : Oth m i) (hi : m.ths[i]? = some t) {n : Nat} (hn : t.frames[n]? = some f) {v w : Vl} {op : List Nat} (hst : t.st = 4) (ho : (closeFrom m i f.base).ths[i]? = some { t with opn := op }) : TI S ((closeFrom m i f.base).setTh i { t with opn := op, stack := t.stack.take f.ret ++ [v, w], frames := t.frames.take n }) := by
  have hlt := (List.getElem?_eq_some_iff.1 hn).1
  have P := closeFrom_inv V hi f.base
  obtain ⟨T1, T2⟩ := closeN_tx i f.base (m.th i).opn.length m
  change TxtT m (closeFrom m i f.base) at T1
  have Th := V.th i t hi
  have hb := Th.fr.below (List.mem_of_getElem? hn)
  have hr := (Th.fr.each _ f hn).2.1
  have tx := T1.trans (TxtT.setTh (closeFrom m i f.base) i { t with opn := op, stack := t.stack.take f.ret ++ [v, w], frames := t.frames.take n })
  have hce : ∀ (c : Nat) (ce : CeD), ((closeFrom m i f.base).setTh i { t with opn := op, stack := t.stack.take f.ret ++ [v, w], frames := t.frames.take n }).cells[c]? = some ce → 0 ≤ ce.th → m.cells[c]? = some ce := fun c ce h1 h2 => T2 c ce h1 h2
  refine TI.of V T I ⟨tx, fun c ce j hj k1 k2 => ⟨c, ce, hce c ce k1 (by omega), k2, rfl⟩, fun j u hj hu => ?_⟩ (setTh_get ho) ?_
  · simp only [VMD.setTh] at hu
    rw [List.getElem?_set_ne (fun e => hj e.symm), P.ot j hj] at hu
    exact .inr ⟨u, hu, rfl, rfl, rfl, o j u hj hu, fun _ _ => rfl⟩
  · have hl : (t.frames.take n).length = n := by rw [List.length_take]; omega
    simp only [hl]
    have hsl : f.ret ≤ t.stack.length := by omega
    refine low_ty (n := n) (w := f.ret) V T hi tx (fun j g hj hg => I i t hi j g (by rw [if_pos rfl]; omega) hg) hlt (fun j g hj hg => ?_) (fun j hj => ?_) (fun j g hj hg => (Th.fr.apart hg hn hj).2) (fun c ce k1 k2 _ => ⟨c, ce, hce c ce k1 (by omega), k2, rfl⟩) (fun q hq _ => ?_)
    · simp only at hg
      rw [List.getElem?_take_of_lt hj] at hg
      exact hg
    · unfold hgt
      simp only
      by_cases e : j + 1 = n
      · rw [e, hn, List.getElem?_eq_none (by omega)]
        simp [hst, hsl]
      · rw [List.getElem?_take_of_lt (by omega)]
        have : j + 1 < t.frames.length := by omega
        rw [List.getElem?_eq_getElem this]
    · simp only
      rw [gd_app (by rw [List.length_take]; omega), gd_take hq]
/-- a thread dies -/
theorem kill_ty (V : VI K m) (T : TC S m) (I : TIl S m i) (o : Oth m i) (hi : m.ths[i]? = some t) : TI S (kill m i) := by
  have P := closeFrom_inv V hi 0
  have hk := P.none
  obtain ⟨T1, T2⟩ := closeN_tx i 0 (m.th i).opn.length m
  change TxtT m (closeFrom m i 0) at T1
  have e : kill m i = (closeFrom m i 0).setTh i ⟨5, t.fn, [], [], []⟩ := by
    unfold kill
    dsimp only
    rw [th_get hk]
  rw [e]
  refine TI.of V T I ⟨T1.trans (TxtT.setTh _ _ _), fun c ce j hj k1 k2 => ⟨c, ce, T2 c ce k1 (by omega), k2, rfl⟩, fun j u hj hu => ?_⟩ (setTh_get hk) (fun j g hj => by simp at hj)
  simp only [VMD.setTh] at hu
  rw [List.getElem?_set_ne (fun e => hj e.symm), P.ot j hj] at hu
  exact .inr ⟨u, hu, rfl, rfl, rfl, o j u hj hu, fun _ _ => rfl⟩
end
end Go.Proofs.Qxb6500574aGreatDoor
