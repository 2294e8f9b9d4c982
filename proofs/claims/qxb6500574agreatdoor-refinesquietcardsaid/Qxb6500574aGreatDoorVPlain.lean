/-
  moon: THE MACHINE IN PLAIN WORDS: numbers, values, tables, the flat machine, its driver. No memory, no walk.
-/
import GoSem.Core.Float
namespace Go.Proofs.Qxb6500574aGreatDoor
open Go

abbrev Bs := List UInt8
/-! ### numbers: patterns of 64 bits -/
def nanB : Nat := 9221120237041090561
def fOrd (a b : Nat) : Option Ordering := FloatKind.f64.format.order a b
def isNan (a : Nat) : Bool := fOrd a a != some .eq
def cmpN (op : Int) (a b : Nat) : Bool :=
  if op = 1 then fOrd a b == some .eq
  else if op = 2 then fOrd a b != some .eq
  else if op = 3 then fOrd a b == some .lt
  else if op = 4 then (fOrd a b == some .lt || fOrd a b == some .eq)
  else if op = 5 then fOrd a b == some .gt
  else if op = 6 then (fOrd a b == some .gt || fOrd a b == some .eq)
  else false
def floorN (a : Nat) : Nat := FloatKind.f64.encode ((FloatKind.f64.decode a).integral .down)
/-- bits: none: a NaN, whichever -/
def bitsN : Option Nat → Nat
  | none => nanB
  | some r => if isNan r then nanB else r
def arithN (op : Int) (a b : Nat) : Nat :=
  if op = 1 then bitsN (FloatKind.f64.format.add a b)
  else if op = 2 then bitsN (FloatKind.f64.format.sub a b)
  else if op = 3 then bitsN (FloatKind.f64.format.mul a b)
  else if op = 4 then bitsN (FloatKind.f64.format.div a b)
  else if op = 5 then bitsN ((FloatKind.f64.format.div a b).map floorN)
  else if op = 6 then bitsN (((FloatKind.f64.format.div a b).map floorN).bind fun q => (FloatKind.f64.format.mul q b).bind fun p => FloatKind.f64.format.sub a p)
  else nanB
def negN (a : Nat) : Nat := bitsN (some (a ^^^ 2 ^ 63))
def fromIntN (i : Int) : Nat := FloatKind.f64.nearest i
def two53 : Nat := 4845873199050653696
def minus53 : Nat := 14069245235905429504
def toIntN (x : Nat) : Option Int :=
  if (fOrd x minus53 == some .gt || fOrd x minus53 == some .eq) && (fOrd x two53 == some .lt || fOrd x two53 == some .eq) then
    match (FloatKind.f64.decode x).toInt .zero with
    | some i => if fOrd (fromIntN i) x == some .eq then some i else none
    | none => none
  else none

/-! ### texts -/
/-- the decimal digits, at most k of them, the last first -/
def decR : Nat → Nat → Bs
  | 0, _ => []
  | k + 1, u => UInt8.ofNat (48 + u % 10) :: (if u / 10 = 0 then [] else decR k (u / 10))
def decN (u : Nat) : Bs := (decR 20 u).reverse
def trail : Nat → Nat → Nat
  | 0, _ => 0
  | k + 1, m => if m % 2 = 1 then 0 else trail k (m / 2) + 1
def maxFin : Nat := 9218868437227405311
def fmtN (x : Nat) : Bs :=
  if isNan x then [110, 97, 110]
  else if fOrd x maxFin == some .gt then [105, 110, 102]
  else if fOrd x (maxFin + 2 ^ 63) == some .lt then [45, 105, 110, 102]
  else
    let sg : Bs := if x / 2 ^ 63 = 0 then [] else [45]
    let a := x % 2 ^ 63
    if fOrd a two53 == some .lt && fOrd a (floorN a) == some .eq then
      sg ++ decN (((FloatKind.f64.decode a).toInt .zero).getD 0).toNat
    else
      let ex : Nat := a / 2 ^ 52
      let m := if ex = 0 then x % 2 ^ 52 else x % 2 ^ 52 + 2 ^ 52
      let e : Int := if ex = 0 then -1074 else Int.ofNat ex - 1075
      let t := trail 53 m
      let e2 := e + t
      sg ++ decN (m / 2 ^ t) ++ [112] ++ (if e2 < 0 then [45] else []) ++ decN e2.natAbs
/-- num.run: the digits of s from place i on, on top of m -/
def digs : Bs → Nat → Nat × Nat × Bs
  | [], m => (m, 0, [])
  | c :: s, m => if 48 ≤ c.toNat ∧ c.toNat ≤ 57 then
      let r := digs s ((m * 10 + (c.toNat - 48)) % 2 ^ 64)
      (r.1, r.2.1 + 1, r.2.2)
    else (m, 0, c :: s)
/-- math.ldexp of a number that is none of 0, infinity, NaN -/
def ldexpN (a : Nat) (ex : Int) : Nat :=
  if fOrd a 0 == some .eq then a
  else if fOrd (a % 2 ^ 63) maxFin == some .gt then a
  else
    let nm : Nat × Int := if fOrd (a % 2 ^ 63) 4503599627370496 == some .lt then ((FloatKind.f64.format.mul a 4841369599423283200).getD 0, -52) else (a, 0)
    let x := nm.1
    let e := ex + nm.2 + ((x / 2 ^ 52 % 2048 : Nat) : Int) - 1023
    if e < -1075 then x / 2 ^ 63 * 2 ^ 63
    else if e > 1023 then (if fOrd x 0 == some .lt then 18442240474082181120 else 9218868437227405312)
    else
      let me : Nat × Int := if e < -1022 then (4368491638549381120, e + 53) else (4607182418800017408, e)
      let y := x / 2 ^ 63 * 2 ^ 63 + (me.2 + 1023).toNat * 2 ^ 52 + x % 2 ^ 52
      (FloatKind.f64.format.mul me.1 y).getD 0
def magN (s : Bs) : Option Nat :=
  if s = [105, 110, 102] then some 9218868437227405312
  else
    let r := digs s 0
    if r.2.1 = 0 ∨ r.2.1 > 16 then none
    else match r.2.2 with
      | [] => if r.1 ≤ 2 ^ 53 then some (fromIntN r.1) else none
      | c :: s2 =>
        if c = 46 then
          let q := digs s2 r.1
          if q.2.1 = 0 ∨ q.2.2 ≠ [] ∨ r.2.1 + q.2.1 > 16 ∨ q.1 > 2 ^ 53 then none
          else some ((FloatKind.f64.format.div (fromIntN q.1) (fromIntN (10 ^ q.2.1))).getD 0)
        else if c = 112 then
          let dn : Bool := s2.head? == some 45
          let q := digs (if dn then s2.drop 1 else s2) 0
          if q.2.1 = 0 ∨ q.2.1 > 4 ∨ q.2.2 ≠ [] ∨ r.1 > 2 ^ 53 then none
          else some (ldexpN (fromIntN r.1) (if dn then -(q.1 : Int) else q.1))
        else none
/-- Parse; none: an error -/
def parseN (s : Bs) : Option Nat :=
  if s.length > 24 then none
  else if s = [110, 97, 110] then some nanB
  else
    let neg : Bool := s.head? == some 45
    (magN (if neg then s.drop 1 else s)).map fun f => if neg then f ^^^ 2 ^ 63 else f

/-! ### values -/
structure Vl where
  t : Int
  n : Nat
  s : Bs
def nilV : Vl := ⟨0, 0, []⟩
def boolV (b : Bool) : Vl := ⟨1, if b then 1 else 0, []⟩
def numV (n : Nat) : Vl := ⟨2, n, []⟩
def strV (s : Bs) : Vl := ⟨3, 0, s⟩
def Vl.same (a b : Vl) : Bool := a.t == b.t && a.n == b.n && a.s == b.s
def wellV (v : Vl) : Bool :=
  if v.t = 3 then v.n == 0 && decide (v.s.length ≤ 40)
  else if v.s ≠ [] ∨ v.t < 0 ∨ v.t > 7 then false
  else if v.t = 0 then v.n == 0
  else if v.t = 1 then decide (v.n ≤ 1)
  else if v.t = 6 then decide (1 ≤ v.n) && decide (v.n ≤ 11)
  else if v.t = 4 ∨ v.t = 5 ∨ v.t = 7 then decide (v.n < 2 ^ 32)
  else true
def truthy (v : Vl) : Bool := if v.t = 0 then false else decide (v.t ≠ 1 ∨ v.n ≠ 0)
def sPrint : Bs := [112, 114, 105, 110, 116]
def sToString : Bs := [116, 111, 115, 116, 114, 105, 110, 103]
def sToNumber : Bs := [116, 111, 110, 117, 109, 98, 101, 114]
def sType : Bs := [116, 121, 112, 101]
def sError : Bs := [101, 114, 114, 111, 114]
def sPcall : Bs := [112, 99, 97, 108, 108]
def sNext : Bs := [110, 101, 120, 116]
def sCreate : Bs := [99, 114, 101, 97, 116, 101]
def sResume : Bs := [114, 101, 115, 117, 109, 101]
def sYield : Bs := [121, 105, 101, 108, 100]
def sStatus : Bs := [115, 116, 97, 116, 117, 115]
def builtinN (b : Int) : Bs :=
  if b = 1 then sPrint else if b = 2 then sToString else if b = 3 then sToNumber else if b = 4 then sType
  else if b = 5 then sError else if b = 6 then sPcall else if b = 7 then sNext else if b = 8 then sCreate
  else if b = 9 then sResume else if b = 10 then sYield else if b = 11 then sStatus else []
def statusN (st : Nat) : Bs :=
  if st = 1 ∨ st = 2 then [115, 117, 115, 112, 101, 110, 100, 101, 100]
  else if st = 3 then [110, 111, 114, 109, 97, 108]
  else if st = 4 then [114, 117, 110, 110, 105, 110, 103]
  else [100, 101, 97, 100]
def typeN (v : Vl) : Bs :=
  if v.t = 0 then [110, 105, 108]
  else if v.t = 1 then [98, 111, 111, 108, 101, 97, 110]
  else if v.t = 2 then [110, 117, 109, 98, 101, 114]
  else if v.t = 3 then [115, 116, 114, 105, 110, 103]
  else if v.t = 4 then [116, 97, 98, 108, 101]
  else if v.t = 7 then [116, 104, 114, 101, 97, 100]
  else [102, 117, 110, 99, 116, 105, 111, 110]
def utoaN (u : Nat) : Bs := if u = 0 then [48] else decN u
def itoaN (n : Int) : Bs := if n < 0 then [45] ++ utoaN n.natAbs else utoaN n.toNat
def showV (v : Vl) : Bs :=
  if v.t = 3 ∧ v.n = 0 then [115] ++ itoaN v.s.length ++ [58] ++ v.s
  else if v.s = [] then [118] ++ itoaN v.t ++ [46] ++ utoaN v.n
  else [118] ++ itoaN v.t ++ [46] ++ utoaN v.n ++ [33] ++ itoaN v.s.length ++ [58] ++ v.s
def textV (v : Vl) : Bs :=
  if v.t = 0 then [110, 105, 108]
  else if v.t = 1 then (if v.n ≠ 0 then [116, 114, 117, 101] else [102, 97, 108, 115, 101])
  else if v.t = 2 then fmtN v.n
  else if v.t = 3 then v.s
  else if v.t = 6 then [98, 117, 105, 108, 116, 105, 110, 58] ++ builtinN v.n
  else typeN v ++ [58] ++ utoaN v.n
def bytesLt : Bs → Bs → Bool
  | [], [] => false
  | [], _ :: _ => true
  | _ :: _, [] => false
  | a :: s, b :: r => if a.toNat < b.toNat then true else if b.toNat < a.toNat then false else bytesLt s r

/-! ### tables -/
structure TabD where
  order : List (Vl × Vl)
  arr : List Nat
  nums : List (Nat × Nat)
  strs : List (Bs × Nat)
  refs : List (Nat × Nat)
  dead : Nat
def tab0 : TabD := ⟨[], [], [], [], [], 0⟩
def packV (k : Vl) : Nat := (k.t.toNat * 2 ^ 32) ||| k.n
def oneV (k : Vl) : Vl × Int :=
  if k.t ≠ 2 then (k, 0)
  else match toIntN k.n with
    | none => (k, 0)
    | some i => if i = 0 then (⟨2, 0, k.s⟩, 0) else (k, i)
def look {α : Type} [BEq α] (l : List (α × Nat)) (k : α) : Option Nat := (l.find? fun e => e.1 == k).map fun e => e.2
def TabD.find (t : TabD) (k : Vl) (i : Int) : Option Nat :=
  if 1 ≤ i ∧ i ≤ t.arr.length then t.arr[i.toNat - 1]?
  else if k.t = 2 then look t.nums k.n
  else if k.t = 3 then look t.strs k.s
  else look t.refs (packV k)
def TabD.index (t : TabD) (k : Vl) (p : Nat) : TabD :=
  if k.t = 2 then { t with nums := t.nums ++ [(k.n, p)] }
  else if k.t = 3 then { t with strs := t.strs ++ [(k.s, p)] }
  else { t with refs := t.refs ++ [(packV k, p)] }
def isNilV (v : Vl) : Bool := v.same nilV
def TabD.turn (t : TabD) (p : Nat) (v : Vl) : TabD :=
  let e := t.order.getD p (nilV, nilV)
  let was := isNilV e.2
  let now := isNilV v
  { t with order := t.order.set p (e.1, v), dead := if was && !now then t.dead - 1 else if now && !was then t.dead + 1 else t.dead }
/-- migrate's table at: the place of the key i among the keys of the map -/
def atN (l : List (Nat × Nat)) (i : Int) : Option Nat := (l.find? fun e => toIntN e.1 == some i).map fun e => e.2
def migL (l : List (Nat × Nat)) : Nat → Nat → TabD → TabD
  | 0, _, t => t
  | k + 1, i, t => match atN l i with
    | none => t
    | some p => migL l k (i + 1) { t with nums := t.nums.eraseP (fun e => e.1 == (t.order.getD p (nilV, nilV)).1.n), arr := t.arr ++ [p] }
def TabD.migrate (t : TabD) : TabD := if t.nums = [] then t else migL t.nums (32 - t.arr.length) (t.arr.length + 1) t
def TabD.get (t : TabD) (k : Vl) : Vl :=
  let o := oneV k
  match t.find o.1 o.2 with
  | none => nilV
  | some p => (t.order.getD p (nilV, nilV)).2
/-- Set behind the tests of the table's number: the error, the table -/
def TabD.put (t : TabD) (k v : Vl) : Nat × TabD :=
  if !wellV k || !wellV v then (4, t)
  else if k.t = 0 then (5, t)
  else if k.t = 2 ∧ isNan k.n then (6, t)
  else
    let o := oneV k
    match t.find o.1 o.2 with
    | some p => (0, t.turn p v)
    | none =>
      if isNilV v then (0, t)
      else if t.order.length ≥ 32 then (8, t)
      else
        let t1 := { t with order := t.order ++ [(o.1, v)] }
        let p := t.order.length
        if o.2 ≠ t.arr.length + 1 then (0, t1.index o.1 p)
        else (0, { t1 with arr := t1.arr ++ [p] }.migrate)
def TabD.nextP (t : TabD) (p : Nat) : Vl × Vl := ((t.order.drop p).find? fun e => !isNilV e.2).getD (nilV, nilV)
/-- Next; none: an error -/
def TabD.next (t : TabD) (k : Vl) : Option (Vl × Vl) :=
  if !wellV k then none
  else if k.t = 0 then some (t.nextP 0)
  else
    let o := oneV k
    match t.find o.1 o.2 with
    | none => none
    | some p => some (t.nextP (p + 1))
def lenL (t : TabD) : List Nat → Nat → Nat
  | [], i => i
  | p :: r, i => if isNilV (t.order.getD p (nilV, nilV)).2 then i else lenL t r (i + 1)
def TabD.len (t : TabD) : Nat := if t.dead = 0 then t.arr.length else lenL t t.arr 0

/-! ### the machine -/
structure PrD where
  np : Nat
  ns : Nat
  up : Nat
  nup : Nat
  k : Nat
  nk : Nat
  code : Nat
  nc : Nat
structure ClD where
  p : Nat
  up : Nat
  nup : Nat
structure CeD where
  th : Int
  pos : Nat
  v : Vl
structure FmD where
  clo : Nat
  pc : Nat
  base : Nat
  ret : Nat
  prot : Bool
structure ThD where
  st : Nat
  fn : Nat
  stack : List Vl
  frames : List FmD
  opn : List Nat
structure VMD where
  protos : List PrD
  descs : List (Nat × Nat)
  consts : List Vl
  code : List (Nat × Nat)
  clos : List ClD
  upix : List Nat
  cells : List CeD
  ths : List ThD
  out : Bs
  tabs : List TabD
def pr0 : PrD := ⟨0, 0, 0, 0, 0, 0, 0, 0⟩
def cl0 : ClD := ⟨0, 0, 0⟩
def ce0 : CeD := ⟨0, 0, nilV⟩
def fm0 : FmD := ⟨0, 0, 0, 0, false⟩
def th0 : ThD := ⟨0, 0, [], [], []⟩
def VMD.th (m : VMD) (i : Nat) : ThD := m.ths.getD i th0
def VMD.setTh (m : VMD) (i : Nat) (t : ThD) : VMD := { m with ths := m.ths.set i t }
def VMD.proto (m : VMD) (c : Nat) : PrD := m.protos.getD (m.clos.getD c cl0).p pr0
/-- what flies: an error value, a trap -/
abbrev Fly := Sum Vl Nat
structure EvD where
  k : Nat
  th : Nat
  e : Nat
  v : Vl
  w : Vl
def ev0 : EvD := ⟨0, 0, 0, nilV, nilV⟩
abbrev RR (α : Type) := Sum Fly α × VMD
def thrR {α : Type} (s : Bs) (m : VMD) : RR α := (.inl (.inl (strV s)), m)
def trapR {α : Type} (e : Nat) (m : VMD) : RR α := (.inl (.inr e), m)
def mArith : Bs := [97, 114, 105, 116, 104]
def mConcat : Bs := [99, 111, 110, 99, 97, 116]
def mLong : Bs := [108, 111, 110, 103]
def mCompare : Bs := [99, 111, 109, 112, 97, 114, 101]
def mIndex : Bs := [105, 110, 100, 101, 120]
def mKey : Bs := [107, 101, 121]
def mCall : Bs := [99, 97, 108, 108]
def mDepth : Bs := [100, 101, 112, 116, 104]
def mLen : Bs := [108, 101, 110]
def mFor : Bs := [102, 111, 114]
def mNext : Bs := [110, 101, 120, 116]
def mCo : Bs := [99, 111]
def mYield : Bs := [121, 105, 101, 108, 100]

/-- closeFrom, n cells of the open list at the most -/
def closeN : Nat → VMD → Nat → Nat → VMD
  | 0, m, _, _ => m
  | n + 1, m, i, a =>
    let t := m.th i
    let c := t.opn.getD n 0
    let ce := m.cells.getD c ce0
    if ce.pos < a then m
    else closeN n { m with cells := m.cells.set c ⟨-1, 0, t.stack.getD ce.pos nilV⟩, ths := m.ths.set i { t with opn := t.opn.take n } } i a
def closeFrom (m : VMD) (i a : Nat) : VMD := closeN (m.th i).opn.length m i a
def kill (m : VMD) (i : Nat) : VMD :=
  let m1 := closeFrom m i 0
  m1.setTh i { m1.th i with stack := [], frames := [], st := 5 }
/-- capture: the place in the open list -/
def capI (cells : List CeD) (a : Nat) : Nat → List Nat → Nat
  | 0, _ => 0
  | i + 1, l => if (cells.getD (l.getD i 0) ce0).pos > a then capI cells a i l else i + 1
def capture (m : VMD) (i a : Nat) : Nat × VMD :=
  let t := m.th i
  let j := capI m.cells a t.opn.length t.opn
  if j > 0 ∧ (m.cells.getD (t.opn.getD (j - 1) 0) ce0).pos = a then (t.opn.getD (j - 1) 0, m)
  else (m.cells.length, { m with cells := m.cells ++ [⟨i, a, nilV⟩], ths := m.ths.set i { t with opn := t.opn.take j ++ [m.cells.length] ++ t.opn.drop j } })
def getUp (m : VMD) (clo x : Nat) : Vl :=
  let ce := m.cells.getD (m.upix.getD ((m.clos.getD clo cl0).up + x) 0) ce0
  if ce.th ≥ 0 then (m.th ce.th.toNat).stack.getD ce.pos nilV else ce.v
def setUp (m : VMD) (clo x : Nat) (v : Vl) : VMD :=
  let c := m.upix.getD ((m.clos.getD clo cl0).up + x) 0
  let ce := m.cells.getD c ce0
  if ce.th ≥ 0 then
    let t := m.th ce.th.toNat
    m.setTh ce.th.toNat { t with stack := t.stack.set ce.pos v }
  else { m with cells := m.cells.set c { ce with v := v } }
def closL (i base clo : Nat) : List (Nat × Nat) → VMD → VMD
  | [], m => m
  | d :: r, m =>
    if d.1 = 1 then
      let c := capture m i (base + d.2)
      closL i base clo r { c.2 with upix := c.2.upix ++ [c.1] }
    else closL i base clo r { m with upix := m.upix ++ [m.upix.getD ((m.clos.getD clo cl0).up + d.2) 0] }
def closure (m : VMD) (i base clo x : Nat) : RR Nat :=
  if m.clos.length ≥ 24 then trapR 8 m
  else
    let q := m.protos.getD x pr0
    let m1 := closL i base clo ((m.descs.drop q.up).take q.nup) m
    (.inr m.clos.length, { m1 with clos := m1.clos ++ [⟨x, m.upix.length, q.nup⟩] })
def push (m : VMD) (i : Nat) (vs : List Vl) : VMD := m.setTh i { m.th i with stack := (m.th i).stack ++ vs }
def cut (m : VMD) (i n : Nat) : VMD := m.setTh i { m.th i with stack := (m.th i).stack.take n }
/-- the n-th value from the top (0: the top) -/
def topV (m : VMD) (i n : Nat) : Vl := (m.th i).stack.getD ((m.th i).stack.length - 1 - n) nilV
def pops (m : VMD) (i n : Nat) : VMD := cut m i ((m.th i).stack.length - n)
def enter (m : VMD) (i c : Nat) (args : List Vl) (ret : Nat) (prot : Bool) : VMD :=
  let p := m.proto c
  let t := m.th i
  m.setTh i { t with stack := t.stack ++ (List.range p.ns).map (fun j => if j < p.np then args.getD j nilV else nilV), frames := t.frames ++ [⟨c, 0, t.stack.length, ret, prot⟩] }
/-- the top frame's pc is set -/
def setPc (m : VMD) (i pc : Nat) : VMD :=
  let t := m.th i
  m.setTh i { t with frames := t.frames.set (t.frames.length - 1) { t.frames.getD (t.frames.length - 1) fm0 with pc := pc } }
def topF (m : VMD) (i : Nat) : FmD := (m.th i).frames.getD ((m.th i).frames.length - 1) fm0
def spawn (m : VMD) (fn : Nat) : VMD := { m with ths := m.ths ++ [⟨1, fn, [], [], []⟩] }
/-- the builtins that answer at once -/
def builtinP (m : VMD) (b : Nat) (a0 a1 : Vl) : RR (Vl × Vl) :=
  if b = 1 then
    let l := textV a0
    if m.out.length + l.length + 1 > 200 then trapR 10 m
    else (.inr (nilV, nilV), { m with out := m.out ++ l ++ [10] })
  else if b = 2 then (.inr (strV (textV a0), nilV), m)
  else if b = 3 then
    (.inr ((if a0.t = 2 then a0 else if a0.t = 3 then (match parseN a0.s with | some x => numV x | none => nilV) else nilV), nilV), m)
  else if b = 4 then (.inr (strV (typeN a0), nilV), m)
  else if b = 5 then (.inl (.inl a0), m)
  else if b = 7 then
    if a0.t ≠ 4 then thrR mNext m
    else match (m.tabs.getD a0.n tab0).next a1 with
      | none => thrR mNext m
      | some r => (.inr r, m)
  else if b = 8 then
    if a0.t ≠ 5 then thrR mCall m
    else if m.ths.length ≥ 5 then trapR 8 m
    else (.inr (⟨7, m.ths.length, []⟩, nilV), spawn m a0.n)
  else if b = 11 then
    if a0.t ≠ 7 then thrR mCo m
    else (.inr (strV (statusN (m.th a0.n).st), nilV), m)
  else thrR mCall m
/-- ICALL x behind the burn -/
def callP (m0 : VMD) (i x : Nat) : RR EvD :=
  let m := setPc m0 i ((topF m0 i).pc + 1)
  let t := m.th i
  let pos := t.stack.length - x - 1
  let fn := t.stack.getD pos nilV
  let args := t.stack.drop (pos + 1)
  if fn.t = 5 then
    if t.frames.length ≥ 8 then thrR mDepth m else (.inr ev0, enter m i fn.n args pos false)
  else if fn.t ≠ 6 then thrR mCall m
  else
    let a0 := args.getD 0 nilV
    let a1 := args.getD 1 nilV
    if fn.n = 6 then
      if a0.t = 5 ∧ t.frames.length < 8 then (.inr ev0, enter m i a0.n [a1] pos true)
      else (.inr ev0, push (cut m i pos) i [boolV false, strV (if a0.t = 5 then mDepth else mCall)])
    else if fn.n = 9 then
      if a0.t ≠ 7 then thrR mCo m
      else
        let st := (m.th a0.n).st
        if st = 1 ∨ st = 2 then (.inr ⟨4, a0.n, 0, a1, nilV⟩, m.setTh i { t with st := 3, stack := t.stack.take pos })
        else (.inr ev0, push (cut m i pos) i [boolV false, strV (statusN st)])
    else if fn.n = 10 then
      if i = 0 then thrR mYield m
      else (.inr ⟨3, 0, 0, a0, nilV⟩, m.setTh i { t with st := 2, stack := t.stack.take pos })
    else match builtinP m fn.n a0 a1 with
      | (.inl fl, m1) => (.inl fl, m1)
      | (.inr r, m1) => (.inr ev0, push (cut m1 i pos) i [r.1, r.2])
/-- IRET -/
def retP (m0 : VMD) (i : Nat) : RR EvD :=
  let w := topV m0 i 0
  let v := topV m0 i 1
  let m := pops m0 i 2
  if (m.th i).frames.length = 1 then (.inr ⟨1, 0, 0, v, w⟩, kill m i)
  else
    let f := topF m i
    let m1 := cut (closeFrom m i f.base) i f.ret
    let m2 := push m1 i (if f.prot then [boolV true, v] else [v, w])
    (.inr ev0, m2.setTh i { m2.th i with frames := (m2.th i).frames.take ((m2.th i).frames.length - 1) })
/-- store -/
def storeP (m : VMD) (h : Nat) (k v : Vl) : RR Unit :=
  let r := (m.tabs.getD h tab0).put k v
  if r.1 = 8 then trapR 8 m
  else if r.1 ≠ 0 then thrR mKey m
  else (.inr (), { m with tabs := m.tabs.set h r.2 })
def compareP (op : Int) (a b : Vl) : Option Bool :=
  if a.t = 2 ∧ b.t = 2 then some (cmpN op a.n b.n)
  else if op = 1 then some (a.same b)
  else if op = 2 then some (!a.same b)
  else if a.t ≠ 3 ∨ b.t ≠ 3 then none
  else if op = 3 then some (bytesLt a.s b.s)
  else if op = 4 then some (!bytesLt b.s a.s)
  else if op = 5 then some (bytesLt b.s a.s)
  else some (!bytesLt a.s b.s)
/-- oper -/
def operP (m : VMD) (i op x : Nat) : RR Unit :=
  let b := topV m i 0
  let a := topV m i 1
  if op = 15 then
    let m2 := pops m i 2
    if a.t ≠ 2 ∨ b.t ≠ 2 then thrR mArith m2 else (.inr (), push m2 i [numV (arithN x a.n b.n)])
  else if op = 16 then
    let m2 := pops m i 2
    match compareP x a b with
    | none => thrR mCompare m2
    | some c => (.inr (), push m2 i [boolV c])
  else if op = 17 then
    let m2 := pops m i 2
    if (a.t ≠ 3 ∧ a.t ≠ 2) ∨ (b.t ≠ 3 ∧ b.t ≠ 2) then thrR mConcat m2
    else if (textV a).length + (textV b).length > 40 then thrR mLong m2
    else (.inr (), push m2 i [strV (textV a ++ textV b)])
  else if op = 18 then (.inr (), push (pops m i 1) i [boolV (!truthy b)])
  else if op = 19 then
    if b.t ≠ 2 then thrR mArith (pops m i 1) else (.inr (), push (pops m i 1) i [numV (negN b.n)])
  else if op = 20 then
    if b.t = 3 then (.inr (), push (pops m i 1) i [numV (fromIntN b.s.length)])
    else if b.t ≠ 4 then thrR mLen (pops m i 1)
    else (.inr (), push (pops m i 1) i [numV (fromIntN (m.tabs.getD b.n tab0).len)])
  else (.inr (), push (pops m i 1) i [nilV])
/-- forOp: x: the first of the four slots, as an index of the stack -/
def forP (m : VMD) (i op x : Nat) : RR Unit :=
  let st := (m.th i).stack
  let s0 := st.getD x nilV
  let s1 := st.getD (x + 1) nilV
  let s2 := st.getD (x + 2) nilV
  if op = 30 then
    if s0.t ≠ 2 ∨ s1.t ≠ 2 ∨ s2.t ≠ 2 then thrR mFor m
    else if cmpN 1 s2.n 0 || cmpN 2 s2.n s2.n then thrR mFor m
    else (.inr (), m)
  else if op = 31 then
    (.inr (), push m i [boolV (cmpN (if cmpN 5 s2.n 0 then 4 else 6) s0.n s1.n)])
  else
    if s0.t ≠ 4 then thrR mFor m
    else match (m.tabs.getD s0.n tab0).next s1 with
      | none => thrR mNext m
      | some kv =>
        let m1 := m.setTh i { m.th i with stack := ((st.set (x + 1) kv.1).set (x + 2) kv.1).set (x + 3) kv.2 }
        (.inr (), push m1 i [boolV (kv.1.t ≠ 0)])
/-- plain -/
def plainP (m : VMD) (i op x : Nat) : RR Unit :=
  let f := topF m i
  let p := m.proto f.clo
  let t := m.th i
  if op = 1 then (.inr (), push m i [m.consts.getD (p.k + x) nilV])
  else if op = 2 then (.inr (), push m i [nilV])
  else if op = 3 then (.inr (), push m i [boolV true])
  else if op = 4 then (.inr (), push m i [boolV false])
  else if op = 5 then (.inr (), push m i [t.stack.getD (f.base + x) nilV])
  else if op = 6 then
    let v := topV m i 0
    (.inr (), m.setTh i { t with stack := (t.stack.take (t.stack.length - 1)).set (f.base + x) v })
  else if op = 7 then (.inr (), push m i [getUp m f.clo x])
  else if op = 8 then (.inr (), setUp (pops m i 1) f.clo x (topV m i 0))
  else if op = 9 then (.inr (), push m i [(m.tabs.getD 0 tab0).get (m.consts.getD (p.k + x) nilV)])
  else if op = 10 then storeP (pops m i 1) 0 (m.consts.getD (p.k + x) nilV) (topV m i 0)
  else if op = 11 then
    let m2 := pops m i 2
    let a := topV m i 1
    if a.t ≠ 4 then thrR mIndex m2 else (.inr (), push m2 i [(m.tabs.getD a.n tab0).get (topV m i 0)])
  else if op = 12 then
    let m3 := pops m i 3
    let a := topV m i 2
    if a.t ≠ 4 then thrR mIndex m3 else storeP m3 a.n (topV m i 1) (topV m i 0)
  else if op = 13 then
    let m1 := pops m i 1
    let a := topV m i 1
    if a.t ≠ 4 then thrR mIndex m1 else storeP m1 a.n (numV (fromIntN x)) (topV m i 0)
  else if op = 14 then
    if m.tabs.length ≥ 12 then trapR 8 m
    else (.inr (), push { m with tabs := m.tabs ++ [tab0] } i [⟨4, m.tabs.length, []⟩])
  else if op = 25 then (.inr (), pops m i 1)
  else if op = 28 then
    match closure m i f.base f.clo x with
    | (.inl fl, m1) => (.inl fl, m1)
    | (.inr c, m1) => (.inr (), push m1 i [⟨5, c, []⟩])
  else if op = 29 then (.inr (), closeFrom m i (f.base + x))
  else if op = 30 ∨ op = 31 ∨ op = 32 then forP m i op (f.base + x)
  else operP m i op x
def need (op : Nat) : Int :=
  if op = 6 ∨ op = 8 ∨ op = 10 ∨ op = 22 ∨ op = 25 ∨ op = 23 ∨ op = 24 ∨ op = 18 ∨ op = 19 ∨ op = 20 then 1
  else if op = 11 ∨ op = 15 ∨ op = 16 ∨ op = 17 ∨ op = 13 ∨ op = 27 then 2
  else if op = 12 then 3 else 0
def grow (op : Nat) : Int :=
  if op = 1 ∨ op = 2 ∨ op = 3 ∨ op = 4 ∨ op = 5 ∨ op = 7 ∨ op = 9 ∨ op = 14 ∨ op = 28 ∨ op = 31 ∨ op = 32 then 1
  else if op = 6 ∨ op = 8 ∨ op = 10 ∨ op = 22 ∨ op = 25 then -1
  else if op = 23 ∨ op = 24 ∨ op = 18 ∨ op = 19 ∨ op = 20 then 0
  else if op = 11 ∨ op = 15 ∨ op = 16 ∨ op = 17 ∨ op = 13 then -1
  else if op = 27 then -2 else if op = 12 then -3 else 0
def needX (op x : Nat) : Int := if op = 26 then x + 1 else need op
def growX (op x : Nat) : Int := if op = 26 then 1 - x else grow op
def soundP (m : VMD) (i op x : Nat) : Bool :=
  let f := topF m i
  let p := m.proto f.clo
  let nup := (m.clos.getD f.clo cl0).nup
  let st := (m.th i).stack
  if op = 1 then decide (x < p.nk)
  else if op = 9 ∨ op = 10 then decide (x < p.nk ∧ (m.consts.getD (p.k + x) nilV).t = 3)
  else if op = 5 ∨ op = 6 then decide (x < p.ns)
  else if op = 7 ∨ op = 8 then decide (x < nup)
  else if op = 15 then decide (1 ≤ x ∧ x ≤ 6)
  else if op = 16 then decide (1 ≤ x ∧ x ≤ 6)
  else if op = 21 ∨ op = 22 ∨ op = 23 ∨ op = 24 then decide (x < p.nc)
  else if op = 26 then decide (x ≤ 3)
  else if op = 29 then decide (x ≤ p.ns)
  else if op = 30 ∨ op = 32 then decide (x + 3 < p.ns)
  else if op = 31 then decide (x + 3 < p.ns ∧ (st.getD (f.base + x) nilV).t = 2 ∧ (st.getD (f.base + x + 1) nilV).t = 2 ∧ (st.getD (f.base + x + 2) nilV).t = 2)
  else if op = 28 then
    if x ≥ m.protos.length then false
    else
      let q := m.protos.getD x pr0
      !((m.descs.drop q.up).take q.nup).any fun d => decide ((d.1 = 1 ∧ d.2 ≥ p.ns) ∨ (d.1 = 0 ∧ d.2 ≥ nup))
  else decide (1 ≤ op ∧ op ≤ 32)
/-- pc + 1 behind a plain instruction that came to its end -/
def bump (i : Nat) (r : RR Unit) : RR EvD :=
  match r with
  | (.inl fl, m) => (.inl fl, m)
  | (.inr _, m) => (.inr ev0, setPc m i ((topF m i).pc + 1))
/-- one instruction of thread i: whether it burns; then what it comes to (with fuel enough) -/
def instrP (m : VMD) (i : Nat) : Bool × RR EvD :=
  let f := topF m i
  let p := m.proto f.clo
  if f.pc ≥ p.nc then (false, trapR 11 m)
  else
    let c := m.code.getD (p.code + f.pc) (0, 0)
    let op := c.1
    let x := c.2
    let n : Int := (m.th i).stack.length - f.base - p.ns
    if !soundP m i op x then (false, trapR 11 m)
    else if n < needX op x ∨ n + growX op x > 128 then (false, trapR 11 m)
    else if op = 21 then (decide (x ≤ f.pc), (.inr ev0, setPc m i x))
    else if op = 22 then
      if truthy (topV m i 0) then (false, (.inr ev0, setPc (pops m i 1) i (f.pc + 1)))
      else (decide (x ≤ f.pc), (.inr ev0, setPc (pops m i 1) i x))
    else if op = 23 ∨ op = 24 then
      if truthy (topV m i 0) = decide (op = 24) then (decide (x ≤ f.pc), (.inr ev0, setPc m i x))
      else (false, (.inr ev0, setPc (pops m i 1) i (f.pc + 1)))
    else if op = 26 then (true, callP m i x)
    else if op = 27 then (false, retP m i)
    else (false, bump i (plainP m i op x))
/-- unwind: n: frames to look at, from the top, but the bottom one -/
def unwindN : Nat → VMD → Nat → Vl → Option VMD
  | 0, _, _, _ => none
  | n + 1, m, i, v =>
    let f := (m.th i).frames.getD (n + 1) fm0
    if f.prot then
      let m1 := cut (closeFrom m i f.base) i f.ret
      some (push (m1.setTh i { m1.th i with frames := (m1.th i).frames.take (n + 1) }) i [boolV false, v])
    else unwindN n m i v
/-- one round of thread i on f fuels: it goes on, or it has come to its event -/
def roundP (fu : Nat) (m : VMD) (i : Nat) : Sum (Nat × VMD) (EvD × Nat × VMD) :=
  let r := instrP m i
  if r.1 ∧ fu = 0 then .inr (⟨5, 0, 9, nilV, nilV⟩, fu, m)
  else
    let fu1 := if r.1 then fu - 1 else fu
    match r.2 with
    | (.inl (.inl v), m1) =>
      match unwindN ((m1.th i).frames.length - 1) m1 i v with
      | some m2 => .inl (fu1, m2)
      | none => .inr (⟨2, 0, 0, v, nilV⟩, fu1, kill m1 i)
    | (.inl (.inr e), m1) => .inr (⟨5, 0, e, nilV, nilV⟩, fu1, m1)
    | (.inr ev, m1) => if ev.k = 0 then .inl (fu1, m1) else .inr (ev, fu1, m1)
/-- the rounds to the event -/
def roundsP : Nat → Nat → VMD → Nat → Option (EvD × Nat × VMD)
  | 0, _, _, _ => none
  | n + 1, fu, m, i => match roundP fu m i with
    | .inr r => some r
    | .inl r => roundsP n r.1 r.2 i
/-- how Exec begins: thread i gets a and b -/
def startP (m : VMD) (i : Nat) (a b : Vl) : VMD :=
  let t := m.th i
  if t.st = 1 then
    let m1 := enter m i t.fn [a] 0 false
    m1.setTh i { m1.th i with st := 4 }
  else m.setTh i { t with stack := t.stack ++ [a, b], st := 4 }

/-! ### the driver -/
structure BackD where
  how : Nat
  v : Vl
  e : Nat
/-- co.run: the answer, the fuel, the machine, the threads started -/
def coP : Nat → Nat → Vl → Vl → Nat → VMD → Nat → Option (BackD × Nat × VMD × Nat)
  | 0, _, _, _, _, _, _ => none
  | n + 1, i, a, b, fu, m, s =>
    match roundsP n fu (startP m i a b) i with
    | none => none
    | some (ev, fu1, m1) =>
      if ev.k = 4 then
        match coP n ev.th ev.v nilV fu1 m1 (if (m1.th ev.th).st = 1 then s + 1 else s) with
        | none => none
        | some (r, fu2, m2, s2) => if r.how = 3 then some (r, fu2, m2, s2) else coP n i (boolV (r.how = 1)) r.v fu2 m2 s2
      else if ev.k = 3 ∨ ev.k = 1 then some (⟨1, ev.v, 0⟩, fu1, m1, s)
      else if ev.k = 2 then some (⟨2, ev.v, 0⟩, fu1, m1, s)
      else if ev.k = 5 then some (⟨3, nilV, ev.e⟩, fu1, m1, s)
      else some (⟨3, nilV, 21⟩, fu1, m1, s)

/-! ### the image -/
/-- a reader: the bytes that are left; none: bad -/
def rdTake (n : Nat) (r : Bs) : Option (Bs × Bs) := if n > r.length then none else some (r.take n, r.drop n)
def u16N (w : Bs) : Nat := (w.getD 0 0).toNat + (w.getD 1 0).toNat * 256
def leN : Bs → Nat
  | [] => 0
  | b :: r => b.toNat + 256 * leN r
def constP (r : Bs) : Option (Vl × Bs) :=
  match r with
  | [] => none
  | tag :: r1 =>
    if tag = 1 then
      match rdTake 8 r1 with
      | none => none
      | some (w, r2) => if isNan (leN w) ∧ leN w ≠ nanB then none else some (numV (leN w), r2)
    else if tag = 2 then
      match r1 with
      | [] => none
      | l :: r2 => if l.toNat > 40 then none else
        match rdTake l.toNat r2 with
        | none => none
        | some (w, r3) => some (strV w, r3)
    else none
def constsP : Nat → List Vl → Bs → Option (List Vl × Bs)
  | 0, cs, r => some (cs, r)
  | n + 1, cs, r => match constP r with
    | none => none
    | some (c, r1) => constsP n (cs ++ [c]) r1
def descsP : Nat → List (Nat × Nat) → Bs → Option (List (Nat × Nat) × Bs)
  | 0, ds, r => some (ds, r)
  | n + 1, ds, r => match rdTake 2 r with
    | none => none
    | some (w, r1) => if (w.getD 0 0).toNat > 1 then none else descsP n (ds ++ [((w.getD 0 0).toNat, (w.getD 1 0).toNat)]) r1
def codeP : Nat → List (Nat × Nat) → Bs → Option (List (Nat × Nat) × Bs)
  | 0, cs, r => some (cs, r)
  | n + 1, cs, r => match rdTake 3 r with
    | none => none
    | some (w, r1) => codeP n (cs ++ [((w.getD 0 0).toNat, u16N (w.drop 1))]) r1
/-- what decode lays: protos, descs, consts, code -/
structure ImD where
  protos : List PrD
  descs : List (Nat × Nat)
  consts : List Vl
  code : List (Nat × Nat)
def protoP (im : ImD) (r : Bs) : Option (ImD × Bs) :=
  match rdTake 3 r with
  | none => none
  | some (h, r1) =>
    let np := (h.getD 0 0).toNat
    let ns := (h.getD 1 0).toNat
    let nup := (h.getD 2 0).toNat
    if np > 3 ∨ np > ns ∨ ns > 12 then none
    else match descsP nup im.descs r1 with
      | none => none
      | some (ds, r2) => match rdTake 2 r2 with
        | none => none
        | some (w, r3) => match constsP (u16N w) im.consts r3 with
          | none => none
          | some (ks, r4) => match rdTake 2 r4 with
            | none => none
            | some (w2, r5) => match codeP (u16N w2) im.code r5 with
              | none => none
              | some (cs, r6) => some (⟨im.protos ++ [⟨np, ns, im.descs.length, nup, im.consts.length, u16N w, im.code.length, u16N w2⟩], ds, ks, cs⟩, r6)
def protosP : Nat → ImD → Bs → Option (ImD × Bs)
  | 0, im, r => some (im, r)
  | n + 1, im, r => match protoP im r with
    | none => none
    | some (im1, r1) => protosP n im1 r1
def decodeP (r : Bs) : Option ImD :=
  match r with
  | [] => none
  | np :: r1 =>
    if np.toNat < 1 ∨ np.toNat > 13 then none
    else match protosP np.toNat ⟨[], [], [], []⟩ r1 with
      | none => none
      | some (im, r2) =>
        if r2 ≠ [] then none
        else if (im.protos.getD 0 pr0).np = 0 ∧ (im.protos.getD 0 pr0).nup = 0 then some im else none
def globL : List Nat → TabD → TabD
  | [], t => t
  | b :: r, t => globL r (t.put (strV (builtinN b)) ⟨6, b, []⟩).2
def globals : TabD := globL [1, 2, 3, 4, 5, 6, 7, 8, 9, 10, 11] tab0
def loadM (im : ImD) : VMD := ⟨im.protos, im.descs, im.consts, im.code, [cl0], [], [], [⟨1, 0, [], [], []⟩], [], [globals]⟩
/-- Load: the error, or the machine -/
def loadP (s : Bs) : Sum Nat VMD :=
  if s.length > 32768 then .inl 1
  else match decodeP s with
    | none => .inl 11
    | some im => .inr (loadM im)
structure AnD where
  e : Nat
  n : Nat
  m : Nat
  s : Bs
  t : Bs
/-- Run, given enough rounds -/
def runN (n : Nat) (s : Bs) (fuel : Int) : Option AnD :=
  match loadP s with
  | .inl e => some ⟨e, 0, 0, [], []⟩
  | .inr m => match coP n 0 nilV nilV fuel.toNat m 0 with
    | none => none
    | some (r, fu, m1, st) =>
      if r.how = 3 then some ⟨r.e, fu, st, m1.out, [45]⟩
      else some ⟨if r.how = 2 then 12 else 0, fu, st, m1.out, showV r.v⟩
end Go.Proofs.Qxb6500574aGreatDoor
