/-
  moon: COMPILED CODE BEARS TYPES: how high the operands stand, which slots are hidden, which hold numbers. Plain; no memory, no walk.
-/
import Derived.Test.Qxb6500574aGreatDoorVInv9
namespace Go.Proofs.Qxb6500574aGreatDoor
set_option linter.unusedVariables false
set_option linter.unusedSimpArgs false

/-- h: operands; hid: the locals alive, hidden or not; F: where three hidden numbers lie; t: the top operand is a number -/
structure Ty where
  h : Nat
  hid : List Bool
  F : List Nat
  t : Bool
structure Sub (a b : Ty) : Prop where
  h : a.h = b.h
  hid : a.hid <+: b.hid
  F : ∀ x ∈ b.F, x ∈ a.F
  t : b.t = true → a.t = true
theorem Sub.refl (a : Ty) : Sub a a := ⟨rfl, List.prefix_refl _, fun _ h => h, fun h => h⟩
theorem Sub.trans {a b c : Ty} (h : Sub a b) (g : Sub b c) : Sub a c := ⟨h.h.trans g.h, h.hid.trans g.hid, fun x hx => h.F x (g.F x hx), fun e => h.t (g.t e)⟩
structure TyWf (a : Ty) : Prop where
  h : a.h ≤ 128
  F : ∀ b ∈ a.F, ∀ e, e < 3 → a.hid[b + e]? = some true
/-- what the code sees of its function: slots, upvalues, constants, instructions, and the descriptors of the functions within -/
structure Fx where
  ns : Nat
  nup : Nat
  consts : List Vl
  code : List (Nat × Nat)
  ch : Nat → Option (List (Nat × Nat))
def Ty.push (a : Ty) : Ty := { a with h := a.h + 1, t := false }
def Ty.pop (a : Ty) (n : Nat) : Ty := { a with h := a.h - n, t := false }
/-- the instruction (op, x) at pc fits the type a; K: what holds where it goes on -/
def opOk (X : Fx) (pc op x : Nat) (a : Ty) (K : Nat → Ty → Prop) : Prop :=
  if op = 1 then x < X.consts.length ∧ a.h + 1 ≤ 128 ∧ K (pc + 1) a.push
  else if op = 2 ∨ op = 3 ∨ op = 4 ∨ op = 14 then a.h + 1 ≤ 128 ∧ K (pc + 1) a.push
  else if op = 5 then x < X.ns ∧ a.h + 1 ≤ 128 ∧ K (pc + 1) a.push
  else if op = 6 then x < X.ns ∧ 1 ≤ a.h ∧ (a.t = true ∨ ∀ b ∈ a.F, x < b ∨ b + 3 ≤ x) ∧ K (pc + 1) (a.pop 1)
  else if op = 7 then x < X.nup ∧ a.h + 1 ≤ 128 ∧ K (pc + 1) a.push
  else if op = 8 then x < X.nup ∧ 1 ≤ a.h ∧ K (pc + 1) (a.pop 1)
  else if op = 9 then x < X.consts.length ∧ (X.consts.getD x nilV).t = 3 ∧ a.h + 1 ≤ 128 ∧ K (pc + 1) a.push
  else if op = 10 then x < X.consts.length ∧ (X.consts.getD x nilV).t = 3 ∧ 1 ≤ a.h ∧ K (pc + 1) (a.pop 1)
  else if op = 11 ∨ op = 13 ∨ op = 17 then 2 ≤ a.h ∧ K (pc + 1) (a.pop 1)
  else if op = 12 then 3 ≤ a.h ∧ K (pc + 1) (a.pop 3)
  else if op = 15 then 1 ≤ x ∧ x ≤ 6 ∧ 2 ≤ a.h ∧ K (pc + 1) { a.pop 1 with t := true }
  else if op = 16 then 1 ≤ x ∧ x ≤ 6 ∧ 2 ≤ a.h ∧ K (pc + 1) (a.pop 1)
  else if op = 18 ∨ op = 19 ∨ op = 20 then 1 ≤ a.h ∧ K (pc + 1) (a.pop 0)
  else if op = 21 then x < X.code.length ∧ K x (a.pop 0)
  else if op = 22 then x < X.code.length ∧ 1 ≤ a.h ∧ K x (a.pop 1) ∧ K (pc + 1) (a.pop 1)
  else if op = 23 ∨ op = 24 then x < X.code.length ∧ 1 ≤ a.h ∧ K x (a.pop 0) ∧ K (pc + 1) (a.pop 1)
  else if op = 25 then 1 ≤ a.h ∧ K (pc + 1) (a.pop 1)
  else if op = 26 then x ≤ 3 ∧ x + 1 ≤ a.h ∧ a.h + 1 ≤ 128 + x ∧ K (pc + 1) { a with h := a.h + 1 - x, t := false }
  else if op = 27 then 2 ≤ a.h
  else if op = 28 then a.h + 1 ≤ 128 ∧ (∃ ds, X.ch x = some ds ∧ ∀ d ∈ ds, (d.1 = 1 ∧ a.hid[d.2]? = some false) ∨ (d.1 = 0 ∧ d.2 < X.nup)) ∧ K (pc + 1) a.push
  else if op = 29 then x ≤ X.ns ∧ K (pc + 1) { a with hid := a.hid.take x, F := a.F.filter (fun b => decide (b + 3 ≤ x)), t := false }
  else if op = 30 then x + 3 < X.ns ∧ (∀ e, e < 3 → a.hid[x + e]? = some true) ∧ K (pc + 1) { a with F := x :: a.F, t := false }
  else if op = 31 then x + 3 < X.ns ∧ x ∈ a.F ∧ a.h + 1 ≤ 128 ∧ K (pc + 1) a.push
  else if op = 32 then x + 3 < X.ns ∧ (∀ b ∈ a.F, b + 3 ≤ x + 1) ∧ a.h + 1 ≤ 128 ∧ K (pc + 1) a.push
  else False
/-- where a jump may go -/
def Goes (S : Nat → Ty → Prop) (s : Nat) (a : Ty) : Prop := ∃ b, Sub a b ∧ S s b
structure OkI (X : Fx) (pc : Nat) (a : Ty) (S : Nat → Ty → Prop) : Prop where
  wf : TyWf a
  hl : a.hid.length ≤ X.ns
  lt : pc < X.code.length
  ok : opOk X pc (X.code.getD pc (0, 0)).1 (X.code.getD pc (0, 0)).2 a (Goes S)
/-- the machine's function p as code sees it -/
def fxOf (m : VMD) (p : Nat) : Fx :=
  let q := m.protos.getD p pr0
  ⟨q.ns, q.nup, (m.consts.drop q.k).take q.nk, (m.code.drop q.code).take q.nc, fun x => (m.protos[x]?).map fun r => (m.descs.drop r.up).take r.nup⟩
/-- every function is typed by S -/
structure TC (S : Nat → Nat → Ty → Prop) (m : VMD) : Prop where
  go : ∀ p pc a, S p pc a → OkI (fxOf m p) pc a (S p)
  en : ∀ p, p < m.protos.length → Goes (S p) 0 ⟨0, List.replicate (m.protos.getD p pr0).np false, [], false⟩

/-! ### frames that bear a type -/
structure Fits (m : VMD) (i : Nat) (stk : List Vl) (f : FmD) (hg : Nat) (tn : Bool) (a : Ty) : Prop where
  h : hg = f.base + (m.proto f.clo).ns + a.h
  t : a.t = true → tn = true
  F : ∀ b ∈ a.F, ∀ e, e < 3 → (stk.getD (f.base + b + e) nilV).t = 2
  o : ∀ (c : Nat) (ce : CeD), m.cells[c]? = some ce → ce.th = (i : Int) → f.base ≤ ce.pos → ce.pos < f.base + (m.proto f.clo).ns → a.hid[ce.pos - f.base]? = some false
theorem Fits.sub {m : VMD} {i : Nat} {stk : List Vl} {f : FmD} {hg : Nat} {tn : Bool} {a b : Ty} (h : Fits m i stk f hg tn a) (s : Sub a b) : Fits m i stk f hg tn b :=
  ⟨by rw [← s.h]; exact h.h, fun e => h.t (s.t e), fun x hx => h.F x (s.F x hx), fun c ce k1 k2 k3 k4 => by
    have := h.o c ce k1 k2 k3 k4
    obtain ⟨r, hr⟩ := s.hid
    rw [← hr, List.getElem?_append_left (List.getElem?_eq_some_iff.1 this).1]
    exact this⟩
def FrTy (S : Nat → Nat → Ty → Prop) (m : VMD) (i : Nat) (stk : List Vl) (f : FmD) (hg : Nat) (tn : Bool) : Prop :=
  ∃ a, S (m.clos.getD f.clo cl0).p f.pc a ∧ Fits m i stk f hg tn a
def hgt (t : ThD) (j : Nat) : Nat := match t.frames[j + 1]? with | some g => g.ret + 2 | none => if t.st = 4 then t.stack.length else t.stack.length + 2
def topN (t : ThD) (j : Nat) : Bool := decide (j + 1 = t.frames.length ∧ t.st = 4 ∧ (t.stack.getD (t.stack.length - 1) nilV).t = 2)
def ThTy (S : Nat → Nat → Ty → Prop) (m : VMD) (i : Nat) (t : ThD) (n : Nat) : Prop := ∀ j f, j < n → t.frames[j]? = some f → FrTy S m i t.stack f (hgt t j) (topN t j)
def TI (S : Nat → Nat → Ty → Prop) (m : VMD) : Prop := ∀ i t, m.ths[i]? = some t → ThTy S m i t t.frames.length
/-- thread i's top frame is left out -/
def TIl (S : Nat → Nat → Ty → Prop) (m : VMD) (i : Nat) : Prop := ∀ j t, m.ths[j]? = some t → ThTy S m j t (if j = i then t.frames.length - 1 else t.frames.length)
theorem TI.low {S : Nat → Nat → Ty → Prop} {m : VMD} (h : TI S m) (i : Nat) : TIl S m i := by
  intro j t hj k f hk hf
  refine h j t hj k f ?_ hf
  split at hk <;> omega
section
variable {S : Nat → Nat → Ty → Prop} {K K' : Cx} {m m' : VMD} {i : Nat} {t t1 : ThD} {f : FmD}
/-- the text stays, the closures only grow -/
structure TxtT (m m' : VMD) : Prop where
  pr : m'.protos = m.protos
  ds : m'.descs = m.descs
  ks : m'.consts = m.consts
  cd : m'.code = m.code
  cl : ∀ c, c < m.clos.length → m'.clos.getD c cl0 = m.clos.getD c cl0
  cn : m.clos.length ≤ m'.clos.length
theorem TxtT.refl (m : VMD) : TxtT m m := ⟨rfl, rfl, rfl, rfl, fun _ _ => rfl, Nat.le_refl _⟩
theorem TxtT.trans {m m1 m2 : VMD} (h : TxtT m m1) (g : TxtT m1 m2) : TxtT m m2 := ⟨g.pr.trans h.pr, g.ds.trans h.ds, g.ks.trans h.ks, g.cd.trans h.cd, fun c hc => (g.cl c (Nat.lt_of_lt_of_le hc h.cn)).trans (h.cl c hc), Nat.le_trans h.cn g.cn⟩
theorem TxtT.proto (h : TxtT m m') {c : Nat} (hc : c < m.clos.length) : m'.proto c = m.proto c := by
  unfold VMD.proto
  rw [h.cl c hc, h.pr]
theorem TxtT.fx (h : TxtT m m') (p : Nat) : fxOf m' p = fxOf m p := by
  unfold fxOf
  rw [h.pr, h.ds, h.ks, h.cd]
theorem TC.txt (T : TC S m) (h : TxtT m m') : TC S m' := ⟨fun p pc a hs => by rw [h.fx]; exact T.go p pc a hs, fun p hp => by rw [h.pr] at hp ⊢; exact T.en p hp⟩
theorem TxtT.setTh (m : VMD) (i : Nat) (t : ThD) : TxtT m (m.setTh i t) := ⟨rfl, rfl, rfl, rfl, fun _ _ => rfl, Nat.le_refl _⟩
/-- a frame's type stays -/
theorem FrTy.mv (T : TC S m) {stk stk' : List Vl} {hg : Nat} {tn : Bool} (h : FrTy S m i stk f hg tn) (hf : f.clo < m.clos.length) (x : TxtT m m')
    (hc : ∀ (c : Nat) (ce : CeD), m'.cells[c]? = some ce → ce.th = (i : Int) → f.base ≤ ce.pos → ce.pos < f.base + (m.proto f.clo).ns → ∃ (c0 : Nat) (d : CeD), m.cells[c0]? = some d ∧ d.th = (i : Int) ∧ d.pos = ce.pos)
    (hs : ∀ q, f.base ≤ q → q < f.base + (m.proto f.clo).ns → (∀ (c : Nat) (ce : CeD), m.cells[c]? = some ce → ce.th = (i : Int) → ce.pos ≠ q) → (stk.getD q nilV).t = 2 → (stk'.getD q nilV).t = 2) : FrTy S m' i stk' f hg tn := by
  obtain ⟨a, h1, h2, h3, h4, h5⟩ := h
  have G := T.go _ _ _ h1
  have hl : a.hid.length ≤ (m.proto f.clo).ns := G.hl
  refine ⟨a, by rw [x.cl _ hf]; exact h1, by rw [x.proto hf]; exact h2, h3, fun b hb e he => ?_, fun c ce k1 k2 k3 k4 => ?_⟩
  · have w := G.wf.F b hb e he
    have wl := (List.getElem?_eq_some_iff.1 w).1
    refine hs _ (by omega) (by omega) (fun c ce k1 k2 k3 => ?_) (h4 b hb e he)
    have := h5 c ce k1 k2 (by omega) (by omega)
    rw [k3, show f.base + b + e - f.base = b + e by omega, w] at this
    cases this
  · rw [x.proto hf] at k4
    obtain ⟨c0, d, d1, d2, d3⟩ := hc c ce k1 k2 k3 k4
    have := h5 c0 d d1 d2 (by omega) (by omega)
    rw [d3] at this
    exact this
/-- what the others see -/
structure SeenT (m m' : VMD) (i : Nat) : Prop where
  tx : TxtT m m'
  ce : ∀ (c : Nat) (ce : CeD) (j : Nat), j ≠ i → m'.cells[c]? = some ce → ce.th = (j : Int) → ∃ (c0 : Nat) (d : CeD), m.cells[c0]? = some d ∧ d.th = (j : Int) ∧ d.pos = ce.pos
  ot : ∀ (j : Nat) (u : ThD), j ≠ i → m'.ths[j]? = some u → u.frames = [] ∨ ∃ u0, m.ths[j]? = some u0 ∧ u.frames = u0.frames ∧ u.st = u0.st ∧ u.stack.length = u0.stack.length ∧ u0.st ≠ 4 ∧
    ∀ q, (∀ (c : Nat) (ce : CeD), m.cells[c]? = some ce → ce.th = (j : Int) → ce.pos ≠ q) → u.stack.getD q nilV = u0.stack.getD q nilV
theorem SeenT.ty (h : SeenT m m' i) (V : VI K m) (T : TC S m) (I : TIl S m i) (j : Nat) (u : ThD) (hj : j ≠ i) (hu : m'.ths[j]? = some u) : ThTy S m' j u u.frames.length := by
  intro k f hk hf
  rcases h.ot j u hj hu with e | ⟨u0, e1, e2, e3, e4, e6, e5⟩
  · rw [e] at hf; simp at hf
  · have hf0 : u0.frames[k]? = some f := by rw [← e2]; exact hf
    have := I j u0 e1 k f (by rw [if_neg hj, ← e2]; exact hk) hf0
    have hcl : f.clo < m.clos.length := by rw [V.kc]; exact ((V.th j u0 e1).fr.each k f hf0).1
    have hh : hgt u k = hgt u0 k := by unfold hgt; rw [e2, e3, e4]
    have ht : topN u k = topN u0 k := by
      unfold topN
      rw [e3]
      have : ¬ u0.st = 4 := e6
      simp [this]
    rw [hh, ht]
    exact this.mv T hcl h.tx (fun c ce k1 k2 _ _ => h.ce c ce j hj k1 k2) (fun q _ _ hn hq => by rw [e5 q hn]; exact hq)
/-- a lower frame ends at or below the base of a higher one -/
theorem FrsOk.apart {fs : List FmD} {L : Nat} (h : FrsOk K fs L) {j k : Nat} {a b : FmD} (ha : fs[j]? = some a) (hb : fs[k]? = some b) (hl : j < k) : a.base + K.ns a.clo ≤ b.base ∧ a.base + K.ns a.clo ≤ b.ret := by
  have hk := (List.getElem?_eq_some_iff.1 hb).1
  obtain ⟨c, hc⟩ : ∃ c, fs[j + 1]? = some c := ⟨_, List.getElem?_eq_getElem (by omega)⟩
  have h1 := h.mid j a c ha hc
  have h2 := h.each _ c hc
  have h3 := h.mono (k - (j + 1)) (j + 1) c b hc (by rw [show j + 1 + (k - (j + 1)) = k by omega]; exact hb)
  refine ⟨by omega, ?_⟩
  by_cases e : k = j + 1
  · subst e
    rw [hb] at hc
    cases hc
    omega
  · obtain ⟨d, hd⟩ : ∃ d, fs[k - 1]? = some d := ⟨_, List.getElem?_eq_getElem (by omega)⟩
    have h4 := h.mono (k - 1 - (j + 1)) (j + 1) c d hc (by rw [show j + 1 + (k - 1 - (j + 1)) = k - 1 by omega]; exact hd)
    have h5 := h.mid (k - 1) d b hd (by rw [show k - 1 + 1 = k by omega]; exact hb)
    omega
/-- the frames below place n stay typed -/
theorem low_ty (V : VI K m) (T : TC S m) (hi : m.ths[i]? = some t) (x : TxtT m m') {n w : Nat} (I : ThTy S m i t n) (hn : n < t.frames.length)
    (hfr : ∀ j g, j < n → t1.frames[j]? = some g → t.frames[j]? = some g) (hrt : ∀ j, j < n → hgt t1 j = hgt t j)
    (hw : ∀ j g, j < n → t.frames[j]? = some g → g.base + K.ns g.clo ≤ w)
    (hc : ∀ (c : Nat) (ce : CeD), m'.cells[c]? = some ce → ce.th = (i : Int) → ce.pos < w → ∃ (c0 : Nat) (d : CeD), m.cells[c0]? = some d ∧ d.th = (i : Int) ∧ d.pos = ce.pos)
    (hs : ∀ q, q < w → (∀ (c : Nat) (ce : CeD), m.cells[c]? = some ce → ce.th = (i : Int) → ce.pos ≠ q) → t1.stack.getD q nilV = t.stack.getD q nilV) : ThTy S m' i t1 n := by
  intro j g hj hg
  have hg0 := hfr j g hj hg
  obtain ⟨a, a1, a2⟩ := I j g hj hg0
  have hcl := ((V.th i t hi).fr.each j g hg0).1
  have hns : (m.proto g.clo).ns = K.ns g.clo := V.kn _ hcl
  have hb := hw j g hj hg0
  have A : FrTy S m i t.stack g (hgt t1 j) (topN t1 j) := ⟨a, a1, by rw [hrt j hj]; exact a2.h, fun e => by
    have := a2.t e
    unfold topN at this
    simp at this
    omega, a2.F, a2.o⟩
  exact A.mv T (by rw [V.kc]; exact hcl) x (fun c ce k1 k2 k3 k4 => hc c ce k1 k2 (by rw [hns] at k4; omega)) (fun q q1 q2 hq ht => by rw [hs q (by rw [hns] at q2; omega) hq]; exact ht)
def Oth (m : VMD) (i : Nat) : Prop := ∀ j u, j ≠ i → m.ths[j]? = some u → u.st ≠ 4
theorem Oth.rest (h : Oth m i) (R : Rest m m' i) : Oth m' i := by
  intro j u hj hu
  by_cases hl : j < m.ths.length
  · obtain ⟨u', a1, a2, _⟩ := R.old j _ hj (List.getElem?_eq_getElem hl)
    rw [hu] at a1
    cases a1
    rw [a2]
    exact h j _ hj (List.getElem?_eq_getElem hl)
  · rw [R.new j u (by omega) hu]
    decide
/-- no cell, no closure has turned: only thread i -/
structure Stay (m m' : VMD) (i : Nat) : Prop where
  tx : TxtT m m'
  ce : m'.cells = m.cells
  ot : ∀ j, j ≠ i → m'.ths[j]? = m.ths[j]?
theorem Stay.seen (h : Stay m m' i) (o : Oth m i) : SeenT m m' i :=
  ⟨h.tx, fun c ce j _ k1 k2 => ⟨c, ce, by rw [← h.ce]; exact k1, k2, rfl⟩, fun j u hj hu => .inr ⟨u, by rw [← h.ot j hj]; exact hu, rfl, rfl, rfl, o j u hj (by rw [← h.ot j hj]; exact hu), fun _ _ => rfl⟩⟩
theorem Stay.refl (m : VMD) (i : Nat) : Stay m m i := ⟨TxtT.refl m, rfl, fun _ _ => rfl⟩
theorem Stay.setTh (m : VMD) (i : Nat) (t : ThD) : Stay m (m.setTh i t) i := ⟨TxtT.setTh m i t, rfl, fun j hj => by simp only [VMD.setTh]; rw [List.getElem?_set_ne (fun e => hj e.symm)]⟩
theorem Stay.trans {m1 m2 : VMD} (h : Stay m m1 i) (g : Stay m1 m2 i) : Stay m m2 i := ⟨h.tx.trans g.tx, g.ce.trans h.ce, fun j hj => (g.ot j hj).trans (h.ot j hj)⟩
/-- the whole from its parts -/
theorem TI.of (V : VI K m) (T : TC S m) (I : TIl S m i) (se : SeenT m m' i) (hi' : m'.ths[i]? = some t1) (hl : ThTy S m' i t1 t1.frames.length) : TI S m' := by
  intro j u hu
  by_cases e : j = i
  · subst e
    rw [hi'] at hu
    cases hu
    exact hl
  · exact se.ty V T I j u e hu
theorem TIl.of (V : VI K m) (T : TC S m) (I : TIl S m i) (se : SeenT m m' i) (hi' : m'.ths[i]? = some t1) (hl : ThTy S m' i t1 (t1.frames.length - 1)) : TIl S m' i := by
  intro j u hu
  by_cases e : j = i
  · subst e
    rw [hi'] at hu
    cases hu
    rw [if_pos rfl]
    exact hl
  · rw [if_neg e]
    exact se.ty V T I j u e hu
theorem ThTy.snoc {n : Nat} (h : ThTy S m i t n) (hn : n < t.frames.length) (hf : t.frames[n]? = some f) (g : FrTy S m i t.stack f (hgt t n) (topN t n)) : ThTy S m i t (n + 1) := by
  intro j u hj hu
  by_cases e : j = n
  · subst e
    rw [hf] at hu
    cases hu
    exact g
  · exact h j u (by omega) hu
end
end Go.Proofs.Qxb6500574aGreatDoor
