/-
  moon: typed frames through the plain instructions. Plain; no memory, no walk.
-/
import Derived.Test.Qxb6500574aGreatDoorWTy2
namespace Go.Proofs.Qxb6500574aGreatDoor
set_option linter.unusedVariables false
set_option linter.unusedSimpArgs false
section
variable {S : Nat → Nat → Ty → Prop} {K K' : Cx} {m m' m1 : VMD} {i : Nat} {t t1 : ThD} {f : FmD} {a b : Ty}
theorem PlTy.trap {e : Nat} (h : e ≠ 11) : PlTy S m i (trapR e m1) := ⟨(fun e' he => by cases he; exact h), (fun v he => by cases he), (fun he => by cases he)⟩
theorem PlTy.thr {s : Bs} (h : TIl S m1 i) : PlTy S m i (thrR s m1) := ⟨(fun e' he => by cases he), fun v _ => h, (fun he => by cases he)⟩
theorem PlTy.ok (h : TI S (setPc m1 i ((topF m1 i).pc + 1))) : PlTy S m i (.inr (), m1) := ⟨(fun e' he => by cases he), (fun v he => by cases he), fun _ => h⟩
/-- thread i runs frame f at the type a -/
structure Run (S : Nat → Nat → Ty → Prop) (K : Cx) (m : VMD) (i : Nat) (t : ThD) (f : FmD) (a : Ty) : Prop where
  at_ : At K m i t f
  tc : TC S m
  ti : TI S m
  ot : Oth m i
  ty : S (m.clos.getD f.clo cl0).p f.pc a
  fi : Fits m i t.stack f t.stack.length (isN t) a
theorem Run.pl (h : Run S K m i t f a) (se : Stay m m1 i) {k : Nat} {vs : List Vl} (hk : k ≤ a.h) (hi1 : m1.ths[i]? = some { t with stack := t.stack.take (t.stack.length - k) ++ vs }) (g : Goes (S (m.clos.getD f.clo cl0).p) (f.pc + 1) b) (hb : b.hid = a.hid ∧ b.F = a.F) (hh : b.h = a.h - k + vs.length) (ht : b.t = true → isN { t with stack := t.stack.take (t.stack.length - k) ++ vs } = true) : PlTy S m i (.inr (), m1) := by
  refine PlTy.ok ?_
  rw [topF_get hi1 h.at_.hf]
  exact h.at_.plg h.tc h.ti h.ot h.ty h.fi se hk hi1 g hb hh ht
theorem Run.fly (h : Run S K m i t f a) (se : Stay m m1 i) {k : Nat} (hk : k ≤ a.h) (hi1 : m1.ths[i]? = some { t with stack := t.stack.take (t.stack.length - k) }) {s : Bs} : PlTy S m i (thrR s m1) :=
  PlTy.thr (h.at_.plthr h.tc h.ti h.ot h.fi se hk hi1)
theorem Run.il (h : Run S K m i t f a) : i < m.ths.length := h.at_.il
theorem Run.push (h : Run S K m i t f a) {v : Vl} (g : Goes (S (m.clos.getD f.clo cl0).p) (f.pc + 1) a.push) : PlTy S m i (.inr (), Go.Proofs.Qxb6500574aGreatDoor.push m i [v]) := by
  have e := push_is h.at_.hi [v]
  rw [e]
  exact h.pl (Stay.setTh m i _) (k := 0) (vs := [v]) (Nat.zero_le _) (by rw [setTh_get h.at_.hi]; simp) g ⟨rfl, rfl⟩ (by simp [Ty.push]) (fun e => by cases e)
theorem Run.pops (h : Run S K m i t f a) (k : Nat) : Stay m (pops m i k) i ∧ (Go.Proofs.Qxb6500574aGreatDoor.pops m i k).ths[i]? = some { t with stack := t.stack.take (t.stack.length - k) } := by
  rw [pops_is h.at_.hi]
  exact ⟨Stay.setTh m i _, setTh_get h.at_.hi⟩
theorem Run.pp (h : Run S K m i t f a) {k : Nat} (hk : k + 1 ≤ a.h) {v : Vl} (g : Goes (S (m.clos.getD f.clo cl0).p) (f.pc + 1) b) (hb : b.hid = a.hid ∧ b.F = a.F) (hh : b.h = a.h - k) (ht : b.t = true → v.t = 2) : PlTy S m i (.inr (), Go.Proofs.Qxb6500574aGreatDoor.push (Go.Proofs.Qxb6500574aGreatDoor.pops m i (k + 1)) i [v]) := by
  rw [push_pops h.at_.hi]
  refine h.pl (Stay.setTh m i _) (k := k + 1) (vs := [v]) hk (setTh_get h.at_.hi) g hb (by simp; omega) (fun e => ?_)
  unfold isN
  simp [ht e]
theorem Run.store (h : Run S K m i t f a) {k : Nat} (hk : k ≤ a.h) (n : Nat) (x v : Vl) (g : Goes (S (m.clos.getD f.clo cl0).p) (f.pc + 1) (a.pop k)) : PlTy S m i (storeP (Go.Proofs.Qxb6500574aGreatDoor.pops m i k) n x v) := by
  obtain ⟨se, hi1⟩ := h.pops k
  unfold storeP
  dsimp only
  split
  · exact PlTy.trap (by decide)
  · split
    · exact h.fly se hk hi1
    · refine h.pl (m1 := { Go.Proofs.Qxb6500574aGreatDoor.pops m i k with tabs := _ }) ⟨⟨se.tx.pr, se.tx.ds, se.tx.ks, se.tx.cd, se.tx.cl, se.tx.cn⟩, se.ce, se.ot⟩ hk (vs := []) (by rw [List.append_nil]; exact hi1) g ⟨rfl, rfl⟩ (by simp [Ty.pop]) (fun e => by cases e)
/-- the top operand -/
theorem Run.top (h : Run S K m i t f a) (e : a.t = true) : (topV m i 0).t = 2 := by
  have := h.fi.t e
  unfold isN at this
  unfold topV
  rw [th_get h.at_.hi]
  simpa using this
theorem Run.hh (h : Run S K m i t f a) : t.stack.length = f.base + K.ns f.clo + a.h := by rw [← h.at_.ns]; exact h.fi.h
theorem Run.G (h : Run S K m i t f a) : OkI (fxOf m (m.clos.getD f.clo cl0).p) f.pc a (S (m.clos.getD f.clo cl0).p) := h.tc.go _ _ _ h.ty
theorem Run.hl (h : Run S K m i t f a) : a.hid.length ≤ K.ns f.clo := by
  have := h.G.hl
  rw [← h.at_.ns]
  exact this
theorem Run.clo (h : Run S K m i t f a) : f.clo < m.clos.length := by rw [h.at_.vi.kc]; exact h.at_.clo
theorem Run.pr (h : Run S K m i t f a) {x e : Nat} (hx : x ∈ a.F) (he : e < 3) : x + e < K.ns f.clo := by
  have := (List.getElem?_eq_some_iff.1 (h.G.wf.F x hx e he)).1
  have := h.hl
  omega
/-- ISETL -/
theorem Run.setl (h : Run S K m i t f a) {x : Nat} (hx : x < K.ns f.clo) (h1 : 1 ≤ a.h) (hp : a.t = true ∨ ∀ b ∈ a.F, x < b ∨ b + 3 ≤ x) (g : Goes (S (m.clos.getD f.clo cl0).p) (f.pc + 1) (a.pop 1)) :
    PlTy S m i (.inr (), m.setTh i { t with stack := (t.stack.take (t.stack.length - 1)).set (f.base + x) (topV m i 0) }) := by
  have hh := h.hh
  refine PlTy.ok ?_
  rw [topF_get (setTh_get h.at_.hi) (by simp only; exact h.at_.hf)]
  have se : Stay m (setPc (m.setTh i { t with stack := (t.stack.take (t.stack.length - 1)).set (f.base + x) (topV m i 0) }) i (f.pc + 1)) i := (Stay.setTh m i _).trans (Stay.setPc _ i _)
  refine h.at_.go h.tc h.ti (se.seen h.ot) (setPc_get (f := f) (setTh_get h.at_.hi) (by simp only; exact h.at_.hf) _) rfl h.at_.st (fun c ce k1 k2 _ => ⟨c, ce, by rw [← se.ce]; exact k1, k2, rfl⟩) (fun q hq _ => ?_) g ⟨?_, (fun e => by cases e), fun y hy e he => ?_, fun c ce k1 k2 k3 k4 => ?_⟩
  · simp only
    rw [gd_setne (by omega), gd_take (by omega)]
  · rw [se.tx.proto h.clo, h.at_.ns]
    simp only [List.length_set, List.length_take, Ty.pop]
    omega
  · simp only
    have hy' : y ∈ a.F := hy
    have := h.pr hy' he
    by_cases e0 : f.base + x = f.base + y + e
    · rw [← e0, gd_setself (by rw [List.length_take]; omega)]
      rcases hp with hp | hp
      · exact h.top hp
      · have := hp y hy'
        omega
    · rw [gd_setne e0, gd_take (by omega)]
      exact h.fi.F y hy' e he
  · rw [se.ce] at k1
    rw [se.tx.proto h.clo] at k4
    exact h.fi.o c ce k1 k2 k3 k4
/-- ISETU -/
theorem Run.setu (h : Run S K m i t f a) {x : Nat} (hx : x < (m.clos.getD f.clo cl0).nup) (h1 : 1 ≤ a.h) (v : Vl) (g : Goes (S (m.clos.getD f.clo cl0).p) (f.pc + 1) (a.pop 1)) : PlTy S m i (.inr (), setUp (Go.Proofs.Qxb6500574aGreatDoor.pops m i 1) f.clo x v) := by
  have hh := h.hh
  obtain ⟨se, hi1⟩ := h.pops 1
  obtain ⟨q, c, ce, q1, q2, q3, q4⟩ := UpAt_of h.at_.vi h.at_.clo hx
  have C := h.at_.cur.po h.at_.il h.at_.hf (k := 1) (by omega)
  have hp : (Go.Proofs.Qxb6500574aGreatDoor.pops m i 1).clos = m.clos ∧ (Go.Proofs.Qxb6500574aGreatDoor.pops m i 1).upix = m.upix ∧ (Go.Proofs.Qxb6500574aGreatDoor.pops m i 1).cells = m.cells := ⟨rfl, rfl, rfl⟩
  have e0 : (Go.Proofs.Qxb6500574aGreatDoor.pops m i 1).upix.getD (((Go.Proofs.Qxb6500574aGreatDoor.pops m i 1).clos.getD f.clo cl0).up + x) 0 = c := by rw [hp.1, hp.2.1]; simp [q1, q2]
  have e1 : (Go.Proofs.Qxb6500574aGreatDoor.pops m i 1).cells.getD c ce0 = ce := by rw [hp.2.2]; simp [q3]
  refine PlTy.ok ?_
  unfold setUp
  dsimp only
  rw [e0, e1]
  have fin : ∀ {m1 : VMD} {xs : List Vl}, TxtT m m1 → (∀ (c : Nat) (ce : CeD), m1.cells[c]? = some ce → ∃ d, m.cells[c]? = some d ∧ d.th = ce.th ∧ d.pos = ce.pos) → m1.ths[i]? = some { t with stack := xs } → xs.length = t.stack.length - 1 →
      (∀ q, q < t.stack.length - 1 → (∀ (c : Nat) (ce : CeD), m.cells[c]? = some ce → ce.th = (i : Int) → ce.pos ≠ q) → xs.getD q nilV = t.stack.getD q nilV) →
      (∀ (j : Nat) (u : ThD), j ≠ i → m1.ths[j]? = some u → ∃ u0, m.ths[j]? = some u0 ∧ u.frames = u0.frames ∧ u.st = u0.st ∧ u.stack.length = u0.stack.length ∧ ∀ q, (∀ (c : Nat) (ce : CeD), m.cells[c]? = some ce → ce.th = (j : Int) → ce.pos ≠ q) → u.stack.getD q nilV = u0.stack.getD q nilV) →
      TI S (setPc m1 i ((topF m1 i).pc + 1)) := by
    intro m1 xs tx hc hi hl hs ho
    rw [topF_get hi (by simp only; exact h.at_.hf)]
    have st2 := Stay.setPc m1 i (f.pc + 1)
    have tx2 := tx.trans st2.tx
    refine h.at_.go h.tc h.ti ⟨tx2, fun c ce j hj k1 k2 => ?_, fun j u hj hu => ?_⟩ (setPc_get (f := f) hi (by simp only; exact h.at_.hf) _) rfl h.at_.st (fun c ce k1 k2 _ => ?_) (fun q hq hn => hs q (by omega) hn) g ⟨?_, (fun e => by cases e), fun y hy e he => ?_, fun c ce k1 k2 k3 k4 => ?_⟩
    · rw [st2.ce] at k1
      obtain ⟨d, d1, d2, d3⟩ := hc c ce k1
      exact ⟨c, d, d1, by rw [d2]; exact k2, d3⟩
    · rw [st2.ot j hj] at hu
      obtain ⟨u0, w1, w2, w3, w4, w5⟩ := ho j u hj hu
      exact .inr ⟨u0, w1, w2, w3, w4, h.ot j u0 hj w1, w5⟩
    · rw [st2.ce] at k1
      obtain ⟨d, d1, d2, d3⟩ := hc c ce k1
      exact ⟨c, d, d1, by rw [d2]; exact k2, d3⟩
    · rw [tx2.proto h.clo, h.at_.ns]
      simp only [Ty.pop, hl]
      omega
    · have hy' : y ∈ a.F := hy
      have := h.pr hy' he
      simp only
      rw [hs _ (by omega) (fun c ce k1 k2 k3 => ?_)]
      · exact h.fi.F y hy' e he
      · have hw := h.G.wf.F y hy' e he
        have := h.fi.o c ce k1 k2 (by omega) (by rw [h.at_.ns]; omega)
        rw [k3, show f.base + y + e - f.base = y + e by omega, hw] at this
        cases this
    · rw [st2.ce] at k1
      rw [tx2.proto h.clo] at k4
      obtain ⟨d, d1, d2, d3⟩ := hc c ce k1
      have := h.fi.o c d d1 (by rw [d2]; exact k2) (by omega) (by omega)
      rw [d3] at this
      exact this
  have xs0 : ∀ q, q < t.stack.length - 1 → (∀ (c : Nat) (ce : CeD), m.cells[c]? = some ce → ce.th = (i : Int) → ce.pos ≠ q) → (t.stack.take (t.stack.length - 1)).getD q nilV = t.stack.getD q nilV := fun q hq _ => gd_take hq
  rcases q4 with ⟨k1, k2⟩ | ⟨y, u, v', k1, k2, k3, k4⟩
  · rw [if_neg (by omega)]
    refine fin (xs := t.stack.take (t.stack.length - 1)) ⟨se.tx.pr, se.tx.ds, se.tx.ks, se.tx.cd, se.tx.cl, se.tx.cn⟩ (fun c' ce' hc' => ?_) hi1 (by rw [List.length_take]; omega) xs0 (fun j u hj hu => ⟨u, by rw [← se.ot j hj]; exact hu, rfl, rfl, rfl, fun _ _ => rfl⟩)
    simp only [hp.2.2] at hc'
    by_cases ec : c = c'
    · subst ec
      rw [List.getElem?_set_self (List.getElem?_eq_some_iff.1 q3).1] at hc'
      cases hc'
      exact ⟨ce, q3, rfl, rfl⟩
    · rw [List.getElem?_set_ne ec] at hc'
      exact ⟨ce', hc', rfl, rfl⟩
  · rw [if_pos (by omega), k1, Int.toNat_natCast]
    by_cases ey : y = i
    · subst ey
      rw [th_get hi1]
      refine fin (xs := (t.stack.take (t.stack.length - 1)).set ce.pos v) (se.tx.trans (TxtT.setTh _ _ _)) (fun c' ce' hc' => ⟨ce', hc', rfl, rfl⟩) (setTh_get hi1) (by rw [List.length_set, List.length_take]; omega) (fun q hq hn => ?_) (fun j u hj hu => ⟨u, ?_, rfl, rfl, rfl, fun _ _ => rfl⟩)
      · have := hn c ce q3 k1
        rw [gd_setne this, gd_take hq]
      · simp only [VMD.setTh] at hu
        rw [List.getElem?_set_ne (fun e => hj e.symm)] at hu
        rw [← se.ot j hj]
        exact hu
    · have hu1 : (Go.Proofs.Qxb6500574aGreatDoor.pops m i 1).ths[y]? = some u := by rw [se.ot y ey]; exact k2
      rw [th_get hu1]
      refine fin (xs := t.stack.take (t.stack.length - 1)) (se.tx.trans (TxtT.setTh _ _ _)) (fun c' ce' hc' => ⟨ce', hc', rfl, rfl⟩) (by simp only [VMD.setTh]; rw [List.getElem?_set_ne ey]; exact hi1) (by rw [List.length_take]; omega) xs0 (fun j w hj hw => ?_)
      by_cases ej : y = j
      · subst ej
        rw [setTh_get hu1] at hw
        cases hw
        exact ⟨u, k2, rfl, rfl, by simp, fun q hq => gd_setne (hq c ce q3 k1)⟩
      · simp only [VMD.setTh] at hw
        rw [List.getElem?_set_ne ej, se.ot j hj] at hw
        exact ⟨w, hw, rfl, rfl, rfl, fun _ _ => rfl⟩
end
end Go.Proofs.Qxb6500574aGreatDoor
