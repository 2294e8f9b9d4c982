/-
  moon: HOW THE MACHINE LIES IN MEMORY. No walk.
-/
import Derived.Test.Qxb6500574aGreatDoorProg
import Derived.Test.Qxb6500574aGreatDoorVBase
import Derived.Test.Qxb6500574aGreatDoorVPlain
import Derived.Test.Qxb6500574aGreatDoorVMap
namespace Go.Proofs.Qxb6500574aGreatDoor
open Go Go.RowKit
set_option linter.unusedVariables false
set_option linter.unusedSimpArgs false

/-! ### cells -/
def vCells (v : Vl) : List Value := [.int .i64 v.t, .int .u64 v.n, sv v.s]
abbrev Vl.val (v : Vl) : Value := .agg #[.int .i64 v.t, .int .u64 v.n, sv v.s]
theorem vCells_len (v : Vl) : (vCells v).length = 3 := rfl
def fCells (f : FmD) : List Value := [.int .i64 f.clo, .int .i64 f.pc, .int .i64 f.base, .int .i64 f.ret, .bool f.prot]
theorem fCells_len (f : FmD) : (fCells f).length = 5 := rfl
def pCells (p : PrD) : List Value := [.int .i64 p.np, .int .i64 p.ns, .int .i64 p.up, .int .i64 p.nup, .int .i64 p.k, .int .i64 p.nk, .int .i64 p.code, .int .i64 p.nc]
theorem pCells_len (p : PrD) : (pCells p).length = 8 := rfl
def dCells (d : Nat × Nat) : List Value := [.int .u8 d.1, .int .u8 d.2]
theorem dCells_len (d : Nat × Nat) : (dCells d).length = 2 := rfl
def iCells (d : Nat × Nat) : List Value := [.int .u8 d.1, .int .u16 d.2]
theorem iCells_len (d : Nat × Nat) : (iCells d).length = 2 := rfl
def clCells (c : ClD) : List Value := [.int .i64 c.p, .int .i64 c.up, .int .i64 c.nup]
theorem clCells_len (c : ClD) : (clCells c).length = 3 := rfl
def ceCells (c : CeD) : List Value := [.int .i64 c.th, .int .i64 c.pos, .int .i64 c.v.t, .int .u64 c.v.n, sv c.v.s]
theorem ceCells_len (c : CeD) : (ceCells c).length = 5 := rfl
def nCells (n : Nat) : List Value := [.int .i64 n]
theorem nCells_len (n : Nat) : (nCells n).length = 1 := rfl
def bCells (b : UInt8) : List Value := [.int .u8 b.toNat]
theorem bCells_len (b : UInt8) : (bCells b).length = 1 := rfl
def eCells (e : Vl × Vl) : List Value := vCells e.1 ++ vCells e.2
theorem eCells_len (e : Vl × Vl) : (eCells e).length = 6 := rfl
def aCells (p : Nat) : List Value := [.int .i32 p]
theorem aCells_len (p : Nat) : (aCells p).length = 1 := rfl

/-! ### a thread -/
structure ThL where
  s : Sl
  f : Sl
  p : Sl
def thCells (x : ThD × ThL) : List Value := [.int .i64 x.1.st, .int .i64 x.1.fn, x.2.s.v x.1.stack.length, x.2.f.v x.1.frames.length, x.2.p.v x.1.opn.length]
theorem thCells_len (x : ThD × ThL) : (thCells x).length = 5 := rfl
structure ThOne (w : World) (o : Nat → Nat) (i : Nat) (x : ThD × ThL) : Prop where
  s : Row w o (20 + 3 * i) 68 3 x.2.s x.1.stack.length (x.1.stack.flatMap vCells)
  f : Row w o (21 + 3 * i) 336 5 x.2.f x.1.frames.length (x.1.frames.flatMap fCells)
  p : Row w o (22 + 3 * i) 3 1 x.2.p x.1.opn.length (x.1.opn.flatMap nCells)
structure ThRep (w : World) (o : Nat → Nat) (b : Nat) (xs : List (ThD × ThL)) : Prop where
  here : Blk w o 13 b (xs.flatMap thCells).toArray 265
  one : ∀ i x, xs[i]? = some x → ThOne w o i x
/-- the labels of the threads -/
def isTh (l : Nat) : Prop := l = 13 ∨ (20 ≤ l ∧ l < 100)
section
variable {Q : Nat → Prop} {w w1 : World} {o o1 : Nat → Nat} {b i : Nat} {x x' : ThD × ThL} {xs : List (ThD × ThL)}
theorem ThOne.st (h : ThOne w o i x) (t : Stp Q w o w1 o1) (hq : ∀ j, j < 3 → ¬ Q (20 + 3 * i + j)) : ThOne w1 o1 i x :=
  ⟨h.s.st t (hq 0 (by omega)), h.f.st t (by have := hq 1 (by omega); rwa [show 20 + 3 * i + 1 = 21 + 3 * i by omega] at this), h.p.st t (by have := hq 2 (by omega); rwa [show 20 + 3 * i + 2 = 22 + 3 * i by omega] at this)⟩
theorem ThRep.st (h : ThRep w o b xs) (t : Stp Q w o w1 o1) (h5 : xs.length ≤ 5) (hq : ∀ l, isTh l → ¬ Q l) : ThRep w1 o1 b xs :=
  ⟨h.here.st t (hq _ (.inl rfl)), fun i x hx => (h.one i x hx).st t (fun j hj => hq _ (.inr (by
    have := (List.getElem?_eq_some_iff.1 hx).1
    omega)))⟩
/-- thread i turned -/
theorem ThRep.set (h : ThRep w o b xs) (hx : xs[i]? = some x) (t : Stp Q w o w1 o1) (hq : ∀ l, Q l → l = 13 ∨ (20 + 3 * i ≤ l ∧ l < 23 + 3 * i))
    (hh : Has w1 b ((xs.set i x').flatMap thCells).toArray 265) (ho : ThOne w1 o1 i x') : ThRep w1 o1 b (xs.set i x') := by
  have hi : i < xs.length := (List.getElem?_eq_some_iff.1 hx).1
  refine ⟨⟨hh, (t.ext b h.here.has.lt).trans h.here.lb⟩, fun j y hj => ?_⟩
  by_cases e : i = j
  · subst e
    rw [List.getElem?_set_self hi] at hj
    cases hj
    exact ho
  · rw [List.getElem?_set_ne e] at hj
    refine (h.one j y hj).st t (fun d hd hc => ?_)
    rcases hq _ hc with h1 | h1 <;> omega
/-- the cells of thread i -/
theorem ThRep.cell (h : ThRep w o b xs) (hx : xs[i]? = some x) {j : Nat} (hj : j < 5) : w.cell? ⟨b, i * 5 + j, none⟩ = (thCells x)[j]? := by
  rw [h.here.has.cell]
  rw [List.getElem?_toArray]
  exact flatMap_at _ 5 thCells_len xs i j x hx hj
theorem ThRep.frozen (h : ThRep w o b xs) (j : Nat) : w.frozen? ⟨b, j, none⟩ = false := h.here.has.frozen j
/-- a cell of thread i turned -/
theorem ThRep.putCell (hb : Has w b (xs.flatMap thCells).toArray 265) (hx : xs[i]? = some x) {j : Nat} (hj : j < 5) {u : Value} (e : thCells x' = (thCells x).set j u) : Has (w.setCell ⟨b, i * 5 + j, none⟩ u) b ((xs.set i x').flatMap thCells).toArray 265 := by
  have := hb.put (i * 5 + j) u
  rw [flatMap_set _ 5 thCells_len xs i j x x' u hx hj e]
  simpa using this
end

/-! ### the tables -/
structure TbL where
  ord : Sl
  arr : Sl
  nums : Nat
  strs : Nat
  refs : Nat
def tbCells (x : TabD × TbL) : List Value := [x.2.ord.v x.1.order.length, x.2.arr.v x.1.arr.length, .map (some x.2.nums), .map (some x.2.strs), .map (some x.2.refs), .int .i64 x.1.dead]
theorem tbCells_len (x : TabD × TbL) : (tbCells x).length = 6 := rfl
abbrev nk (n : Nat) : Value := .int .u64 n
abbrev sk (s : Bs) : Value := sv s
structure TabOne (w : World) (o : Nat → Nat) (h : Nat) (x : TabD × TbL) : Prop where
  ord : Row w o (100 + 5 * h) 259 6 x.2.ord x.1.order.length (x.1.order.flatMap eCells)
  arr : Row w o (101 + 5 * h) 21 1 x.2.arr x.1.arr.length (x.1.arr.flatMap aCells)
  nums : MapAt w o (102 + 5 * h) x.2.nums (ents nk x.1.nums)
  strs : MapAt w o (103 + 5 * h) x.2.strs (ents sk x.1.strs)
  refs : MapAt w o (104 + 5 * h) x.2.refs (ents nk x.1.refs)
/-- all tables: xs: those of the run and those that wait -/
structure TabsRep (w : World) (o : Nat → Nat) (bt bn : Nat) (s : Sl) (n : Nat) (xs : List (TabD × TbL)) : Prop where
  here : Blk w o 4 bt #[.pointer (some ⟨bn, 0, none⟩), s.v xs.length, .int .i64 n] 78
  row : Row w o 5 247 6 s xs.length (xs.flatMap tbCells)
  one : ∀ h x, xs[h]? = some x → TabOne w o h x
  wait : ∀ h x, xs[h]? = some x → n ≤ h → x.1 = tab0
  le : n ≤ xs.length
def isTb (l : Nat) : Prop := l = 4 ∨ l = 5 ∨ 100 ≤ l
section
variable {Q : Nat → Prop} {w w1 : World} {o o1 : Nat → Nat} {b : Nat}
theorem TabOne.st {h : Nat} {x : TabD × TbL} (r : TabOne w o h x) (t : Stp Q w o w1 o1) (hq : ∀ j, j < 5 → ¬ Q (100 + 5 * h + j)) : TabOne w1 o1 h x := by
  have e1 := hq 1 (by omega)
  have e2 := hq 2 (by omega)
  have e3 := hq 3 (by omega)
  have e4 := hq 4 (by omega)
  rw [show 100 + 5 * h + 1 = 101 + 5 * h by omega] at e1
  rw [show 100 + 5 * h + 2 = 102 + 5 * h by omega] at e2
  rw [show 100 + 5 * h + 3 = 103 + 5 * h by omega] at e3
  rw [show 100 + 5 * h + 4 = 104 + 5 * h by omega] at e4
  exact ⟨r.ord.st t (hq 0 (by omega)), r.arr.st t e1, r.nums.st t e2, r.strs.st t e3, r.refs.st t e4⟩
theorem TabsRep.st {bt bn n : Nat} {s : Sl} {xs : List (TabD × TbL)} (r : TabsRep w o bt bn s n xs) (t : Stp Q w o w1 o1) (hq : ∀ l, isTb l → ¬ Q l) : TabsRep w1 o1 bt bn s n xs :=
  ⟨r.here.st t (hq _ (.inl rfl)), r.row.st t (hq _ (.inr (.inl rfl))), fun h x hx => (r.one h x hx).st t (fun j hj => hq _ (.inr (.inr (by omega)))), r.wait, r.le⟩
end

/-! ### the number layer -/
structure NumRep (w : World) (o : Nat → Nat) (bn bf : Nat) : Prop where
  here : Blk w o 2 bn #[.slice (some ⟨bf, 0, none⟩) 24 24] 75
  buf : ∃ l : List UInt8, l.length = 24 ∧ Blk w o 3 bf (l.flatMap bCells).toArray 5
theorem NumRep.st {Q : Nat → Prop} {w w1 : World} {o o1 : Nat → Nat} {bn bf : Nat} (h : NumRep w o bn bf) (t : Stp Q w o w1 o1) (h2 : ¬ Q 2) (h3 : ¬ Q 3) : NumRep w1 o1 bn bf := by
  obtain ⟨l, hl, hb⟩ := h.buf
  exact ⟨h.here.st t h2, l, hl, hb.st t h3⟩

/-! ### the machine -/
structure CoL where
  protos : Sl
  descs : Sl
  consts : Sl
  code : Sl
  clos : Sl
  upix : Sl
  cells : Sl
  out : Sl
/-- n threads; f: the fuel; e: how it ended -/
def vmCells (bn bt bT : Nat) (L : CoL) (m : VMD) (n : Nat) (f e : Nat) : Array Value :=
  #[.pointer (some ⟨bn, 0, none⟩), .pointer (some ⟨bt, 0, none⟩), L.protos.v m.protos.length, L.descs.v m.descs.length, L.consts.v m.consts.length, L.code.v m.code.length, L.clos.v m.clos.length, L.upix.v m.upix.length, L.cells.v m.cells.length, .slice (some ⟨bT, 0, none⟩) n 5, .int .i64 f, L.out.v m.out.length, .int .i64 e]
structure CoreRep (w : World) (o : Nat → Nat) (b bn bt bT : Nat) (L : CoL) (m : VMD) (n f e : Nat) : Prop where
  here : Blk w o 1 b (vmCells bn bt bT L m n f e) 91
  protos : Row w o 6 254 8 L.protos m.protos.length (m.protos.flatMap pCells)
  descs : Row w o 7 326 2 L.descs m.descs.length (m.descs.flatMap dCells)
  consts : Row w o 8 68 3 L.consts m.consts.length (m.consts.flatMap vCells)
  code : Row w o 9 329 2 L.code m.code.length (m.code.flatMap iCells)
  clos : Row w o 10 187 3 L.clos m.clos.length (m.clos.flatMap clCells)
  upix : Row w o 11 3 1 L.upix m.upix.length (m.upix.flatMap nCells)
  cells : Row w o 12 274 5 L.cells m.cells.length (m.cells.flatMap ceCells)
  out : Row w o 14 5 1 L.out m.out.length (m.out.flatMap bCells)
def isCo (l : Nat) : Prop := l = 1 ∨ (6 ≤ l ∧ l ≤ 12) ∨ l = 14
theorem CoreRep.st {Q : Nat → Prop} {w w1 : World} {o o1 : Nat → Nat} {b bn bt bT n f e : Nat} {L : CoL} {m : VMD} (h : CoreRep w o b bn bt bT L m n f e) (t : Stp Q w o w1 o1) (hq : ∀ l, isCo l → ¬ Q l) : CoreRep w1 o1 b bn bt bT L m n f e :=
  ⟨h.here.st t (hq 1 (.inl rfl)), h.protos.st t (hq 6 (.inr (.inl (by omega)))), h.descs.st t (hq 7 (.inr (.inl (by omega)))), h.consts.st t (hq 8 (.inr (.inl (by omega)))), h.code.st t (hq 9 (.inr (.inl (by omega)))), h.clos.st t (hq 10 (.inr (.inl (by omega)))), h.upix.st t (hq 11 (.inr (.inl (by omega)))), h.cells.st t (hq 12 (.inr (.inl (by omega)))), h.out.st t (hq 14 (.inr (.inr rfl)))⟩
/-- where all lies -/
structure VL where
  o : Nat → Nat
  b : Nat
  bn : Nat
  bf : Nat
  bt : Nat
  bT : Nat
  C : CoL
  X : List ThL
  Z : List (ThD × ThL)
  ts : Sl
  tl : List TbL
/-- the machine with all that lies below it -/
structure VRep (w : World) (A : VL) (m : VMD) (f e : Nat) : Prop where
  core : CoreRep w A.o A.b A.bn A.bt A.bT A.C m m.ths.length f e
  ths : ThRep w A.o A.bT (m.ths.zip A.X ++ A.Z)
  lenX : A.X.length = m.ths.length
  len5 : m.ths.length + A.Z.length = 5
  num : NumRep w A.o A.bn A.bf
  tabs : ∃ k, (A.tl.length = m.tabs.length + k ∧ A.tl.length ≤ 12) ∧ TabsRep w A.o A.bt A.bn A.ts m.tabs.length ((m.tabs ++ List.replicate k tab0).zip A.tl)
  own : Ow w A.o
/-- the machine's labels -/
def isVM (l : Nat) : Prop := l ≠ 0
/-- where it lies: a step keeps the five blocks -/
structure VSt (Q : Nat → Prop) (w : World) (A : VL) (w' : World) (A' : VL) : Prop where
  st : Stp Q w A.o w' A'.o
  b : A'.b = A.b
  bn : A'.bn = A.bn
  bf : A'.bf = A.bf
  bt : A'.bt = A.bt
  bT : A'.bT = A.bT
theorem VSt.refl (Q : Nat → Prop) (w : World) (A : VL) : VSt Q w A w A := ⟨Stp.refl _ _ _, rfl, rfl, rfl, rfl, rfl⟩
theorem VSt.trans {Q : Nat → Prop} {w w1 w2 : World} {A A1 A2 : VL} (h : VSt Q w A w1 A1) (k : VSt Q w1 A1 w2 A2) : VSt Q w A w2 A2 :=
  ⟨h.st.trans k.st, k.b.trans h.b, k.bn.trans h.bn, k.bf.trans h.bf, k.bt.trans h.bt, k.bT.trans h.bT⟩
theorem VSt.weaken {Q Q' : Nat → Prop} {w w1 : World} {A A1 : VL} (h : VSt Q w A w1 A1) (hq : ∀ l, Q l → Q' l) : VSt Q' w A w1 A1 := ⟨h.st.weaken hq, h.b, h.bn, h.bf, h.bt, h.bT⟩
/-- a step that turns nothing of it -/
theorem VRep.fresh {w w1 : World} {A : VL} {m : VMD} {f e : Nat} (h : VRep w A m f e) (hf : Fr (fun _ => False) w w1) : VRep w1 A m f e := by
  have t : Stp (fun _ => False) w A.o w1 A.o := Stp.fresh _ _ hf
  obtain ⟨k, hk, ht⟩ := h.tabs
  exact ⟨h.core.st t (fun _ _ x => x), h.ths.st t (by have := h.lenX; have := h.len5; simp; omega) (fun _ _ x => x), h.lenX, h.len5, h.num.st t (fun x => x) (fun x => x), ⟨k, hk, ht.st t (fun _ _ x => x)⟩, t.hi h.own⟩
theorem VSt.fresh {Q : Nat → Prop} {w w1 : World} {A : VL} (hf : Fr (fun _ => False) w w1) : VSt Q w A w1 A := ⟨Stp.fresh _ _ hf, rfl, rfl, rfl, rfl, rfl⟩
end Go.Proofs.Qxb6500574aGreatDoor
