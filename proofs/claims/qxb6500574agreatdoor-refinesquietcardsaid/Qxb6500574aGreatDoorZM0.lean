/-
  moon: THE DEFINITIONAL INTERPRETER IN PLAIN WORDS (compm), over the machine's own tables and numbers. No memory, no walk.
-/
import Derived.Test.Qxb6500574aGreatDoorWPlain
namespace Go.Proofs.Qxb6500574aGreatDoor
set_option linter.unusedVariables false
/-- a variable -/
structure EnD where
  nm : Bs
  v : Vl
  up : Option Nat
def en0 : EnD := ⟨[], nilV, none⟩
/-- what is still to be done -/
structure TkD where
  k : Nat
  n : Nat
  x : Nat
  e : Option Nat
/-- a thread: its tasks (the next one first), its values (the top one last) -/
structure MTh where
  st : Nat
  fn : Nat
  depth : Nat
  tasks : List TkD
  vals : List Vl
def mt0 : MTh := ⟨0, 0, 0, [], []⟩
structure MD where
  tabs : List TabD
  clos : List (Nat × Option Nat)
  envs : List EnD
  ths : List MTh
  stack : List Nat
  cur : Nat
  fuel : Nat
  first : Nat
  out : Bs
  done : Option AnD
def MD.th (m : MD) : MTh := m.ths.getD m.cur mt0
def MD.upT (m : MD) (f : MTh → MTh) : MD := { m with ths := m.ths.set m.cur (f m.th) }
def MD.push (m : MD) (l : List Vl) : MD := m.upT fun t => { t with vals := t.vals ++ l }
def MD.pops (m : MD) (n : Nat) : MD := m.upT fun t => { t with vals := t.vals.take (t.vals.length - n) }
/-- the n-th value from the top -/
def MD.topM (m : MD) (n : Nat) : Vl := m.th.vals.getD (m.th.vals.length - 1 - n) nilV
/-- tasks ahead of the others -/
def MD.todo (m : MD) (l : List TkD) : MD := m.upT fun t => { t with tasks := l ++ t.tasks }
def MD.finish (m : MD) (e : Nat) (tail : Bs) : MD := { m with done := some ⟨e, m.fuel, m.first, m.out, tail⟩ }
/-- a thread is over: its resumer gets ok, v -/
def MD.back (m : MD) (ok : Bool) (v : Vl) : MD :=
  match m.stack with
  | [] => m.finish (if ok then 0 else 12) (showV v)
  | c :: r => (({ m with stack := r, cur := c } : MD).upT fun t => { t with st := 4 }).push [boolV ok, v]
/-- the first guarded foot among the tasks: what lies behind it, its height; how many feet are gone -/
def thrT : List TkD → Nat → Option (List TkD × Nat × Nat) × Nat
  | [], d => (none, d)
  | t :: r, d => if t.k = 3 then (if t.n = 1 then (some (r, t.x, d - 1), d - 1) else thrT r (d - 1)) else thrT r d
def MD.throw (m : MD) (v : Vl) : MD :=
  match thrT m.th.tasks m.th.depth with
  | (some (r, x, d), _) => m.upT fun t => { t with tasks := r, depth := d, vals := t.vals.take x ++ [boolV false, v] }
  | (none, d) => (m.upT fun t => { t with tasks := [], depth := d, st := 5, vals := [] }).back false v
def MD.raise (m : MD) (s : Bs) : MD := m.throw (strV s)
/-- the tasks behind the first foot, and the foot -/
def retT : List TkD → Option (TkD × List TkD)
  | [] => none
  | t :: r => if t.k = 3 then some (t, r) else retT r
def MD.ret (m : MD) (a b : Vl) : MD :=
  match retT m.th.tasks with
  | none => m.upT fun t => { t with tasks := [] }
  | some (k, r) =>
    let m1 := m.upT fun t => { t with tasks := r, depth := t.depth - 1, vals := t.vals.take k.x }
    if r = [] then (m1.upT fun t => { t with st := 5 }).back true a
    else m1.push (if k.n = 1 then [boolV true, a] else [a, b])
/-- parameters are new variables -/
def bindA (N : List Nd) : Nat → Nat → List Vl → List EnD → Option Nat → List EnD × Option Nat
  | 0, _, _, E, e => (E, e)
  | k + 1, p, args, E, e => if p = 0 then (E, e) else bindA N k (N.getD p nd0).next args.tail (E ++ [⟨(N.getD p nd0).s, args.headD nilV, e⟩]) (some E.length)
def MD.enter (N : List Nd) (root : Nat) (m : MD) (c : Nat) (args : List Vl) (prot : Nat) : MD :=
  let q := m.clos.getD c (0, none)
  let d := N.getD q.1 nd0
  let r := bindA N 4 d.a args m.envs q.2
  let m1 := m.upT fun t => { t with depth := t.depth + 1, tasks := ⟨1, if q.1 = 0 then root else d.b, 0, r.2⟩ :: ⟨3, prot, t.vals.length, none⟩ :: t.tasks }
  { m1 with envs := r.1 }
/-- the variable of that name -/
def findE (E : List EnD) (s : Bs) : Nat → Option Nat → Option Nat
  | 0, _ => none
  | _, none => none
  | k + 1, some i => if (E.getD i en0).nm = s then some i else findE E s k (E.getD i en0).up
def MD.find (m : MD) (e : Option Nat) (s : Bs) : Option Nat := findE m.envs s (m.envs.length + 1) e
/-- the arguments of a call -/
def argsL (N : List Nd) : Nat → Nat → List Nat
  | 0, _ => []
  | k + 1, a => if a = 0 then [] else a :: argsL N k (N.getD a nd0).next
def MD.call (N : List Nd) (m : MD) (n : Nat) (e : Option Nat) : MD :=
  let a := argsL N 3 (N.getD n nd0).b
  m.todo (⟨2, (N.getD n nd0).a, 0, e⟩ :: a.map (fun x => ⟨2, x, 0, e⟩) ++ [⟨22, n, a.length, e⟩])
/-- break: the tasks behind the innermost loop's foot -/
def brkT : List TkD → Option (Nat × List TkD)
  | [] => none
  | t :: r => if t.k = 4 then some (t.x, r) else brkT r
def MD.stmt (N : List Nd) (m : MD) (n : Nat) (e : Option Nat) : MD :=
  let d := N.getD n nd0
  let ev := fun x : Nat => (⟨2, x, 0, e⟩ : TkD)
  if d.k = 1 then (if d.a ≠ 0 then m.todo [ev d.a, ⟨6, n, 0, e⟩] else (m.todo [⟨6, n, 0, e⟩]).push [nilV])
  else if d.k = 2 then (m.todo [⟨7, n, 0, e⟩]).call N d.b e
  else if d.k = 3 then { m.todo [⟨2, d.a, 0, some m.envs.length⟩, ⟨8, n, 0, some m.envs.length⟩] with envs := m.envs ++ [⟨d.s, nilV, e⟩] }
  else
    let m := m.todo [⟨1, d.next, 0, e⟩]
    let h := m.th.vals.length
    if d.k = 4 then
      (if (N.getD d.a nd0).k = 17 then m.todo [ev d.b, ⟨9, d.a, 0, e⟩] else m.todo [ev (N.getD d.a nd0).a, ev (N.getD d.a nd0).b, ev d.b, ⟨10, 0, 0, e⟩])
    else if d.k = 5 then m.todo [ev d.a, ⟨5, 0, 0, none⟩]
    else if d.k = 6 then m.todo [ev d.a, ⟨11, n, 0, e⟩]
    else if d.k = 7 then m.todo [⟨12, n, 0, e⟩, ⟨4, 0, h, none⟩]
    else if d.k = 8 then
      let e2 := (N.getD d.a nd0).next
      let e3 := (N.getD e2 nd0).next
      m.todo [ev d.a, ev e2, if e3 ≠ 0 then ev e3 else ⟨2, 0, 1, e⟩, ⟨15, n, 0, e⟩, ⟨4, 0, h, none⟩]
    else if d.k = 9 then m.todo [ev d.b, ⟨18, n, 0, e⟩, ⟨4, 0, h, none⟩]
    else if d.k = 10 then m.todo [ev d.a, ev d.b, ⟨21, 0, 0, none⟩]
    else if d.k = 11 then
      match brkT m.th.tasks with
      | none => m.upT fun t => { t with tasks := [] }
      | some (x, r) => m.upT fun t => { t with tasks := r, vals := t.vals.take x }
    else m
def MD.items (m : MD) (n i : Nat) (e : Option Nat) : MD := if n = 0 then m else m.todo [⟨2, n, 0, e⟩, ⟨23, n, i, e⟩]
def MD.eval (N : List Nd) (m : MD) (n x : Nat) (e : Option Nat) : MD :=
  let d := N.getD n nd0
  let ev := fun x : Nat => (⟨2, x, 0, e⟩ : TkD)
  if n = 0 then m.push [if x = 1 then numV (fromIntN 1) else nilV]
  else if d.k = 12 then m.push [nilV]
  else if d.k = 13 then m.push [boolV true]
  else if d.k = 14 then m.push [boolV false]
  else if d.k = 15 then m.push [numV d.n]
  else if d.k = 16 then m.push [strV d.s]
  else if d.k = 17 then
    match m.find e d.s with
    | some i => m.push [(m.envs.getD i en0).v]
    | none => m.push [(m.tabs.getD 0 tab0).get (strV d.s)]
  else if d.k = 18 then m.todo [ev d.a, ev d.b, ⟨28, 0, 0, none⟩]
  else if d.k = 19 then (m.todo [⟨5, 0, 0, none⟩]).call N n e
  else if d.k = 20 then
    (if m.clos.length ≥ 24 then m.finish 8 [45] else { m.push [⟨5, m.clos.length, []⟩] with clos := m.clos ++ [(n, e)] })
  else if d.k = 21 then
    (if m.tabs.length ≥ 12 then m.finish 8 [45] else ({ m.push [⟨4, m.tabs.length, []⟩] with tabs := m.tabs ++ [tab0] } : MD).items d.a 1 e)
  else if d.k = 22 then m.todo [ev d.a, ev d.b, ⟨24, n, 0, none⟩]
  else if d.k = 23 then m.todo [ev d.a, ⟨25, n, 0, none⟩]
  else if d.k = 24 then m.todo [ev d.a, ⟨26, n, 0, e⟩]
  else if d.k = 25 then m.todo [ev d.a, ⟨27, n, 0, e⟩]
  else m
def MD.setT (m : MD) (t k v : Vl) : MD :=
  if t.t ≠ 4 then m.raise mIndex
  else
    let r := (m.tabs.getD t.n tab0).put k v
    if r.1 = 8 then m.finish 8 [45]
    else if r.1 ≠ 0 then m.raise mKey
    else { m with tabs := m.tabs.set t.n r.2 }
def MD.bin (m : MD) (op : Nat) (a b : Vl) : MD :=
  if op = 20 then
    (if (a.t ≠ 3 ∧ a.t ≠ 2) ∨ (b.t ≠ 3 ∧ b.t ≠ 2) then m.raise mConcat
     else if (textV a).length + (textV b).length > 40 then m.raise mLong
     else m.push [strV (textV a ++ textV b)])
  else if op > 10 then
    match compareP ((op - 10 : Nat) : Int) a b with
    | none => m.raise mCompare
    | some c => m.push [boolV c]
  else if a.t ≠ 2 ∨ b.t ≠ 2 then m.raise mArith
  else m.push [numV (arithN op a.n b.n)]
def MD.un (m : MD) (op : Nat) (a : Vl) : MD :=
  if op = 2 then m.push [boolV (!truthy a)]
  else if op = 1 then (if a.t ≠ 2 then m.raise mArith else m.push [numV (negN a.n)])
  else if op = 3 then
    (if a.t = 4 then m.push [numV (fromIntN (m.tabs.getD a.n tab0).len)]
     else if a.t ≠ 3 then m.raise mLen
     else m.push [numV (fromIntN a.s.length)])
  else m
def MD.burn (m : MD) (f : MD → MD) : MD := if m.fuel = 0 then m.finish 9 [45] else f { m with fuel := m.fuel - 1 }
/-- a call: x arguments and the function below them -/
def MD.apply (N : List Nd) (root : Nat) (m0 : MD) (x : Nat) : MD :=
  m0.burn fun m0 =>
    let n := m0.th.vals.length
    let args := m0.th.vals.drop (n - x)
    let fn := m0.th.vals.getD (n - x - 1) nilV
    let m := m0.pops (x + 1)
    let a := args.getD 0 nilV
    let b := args.getD 1 nilV
    if fn.t = 5 then (if m.th.depth ≥ 8 then m.raise mDepth else m.enter N root fn.n args 0)
    else if fn.t ≠ 6 then m.raise mCall
    else if fn.n = 1 then
      (if m.out.length + (textV a).length + 1 > 200 then m.finish 10 [45]
       else ({ m with out := m.out ++ textV a ++ [10] } : MD).push [nilV, nilV])
    else if fn.n = 2 then m.push [strV (textV a), nilV]
    else if fn.n = 3 then m.push [if a.t = 2 then a else if a.t = 3 then (match parseN a.s with | some x => numV x | none => nilV) else nilV, nilV]
    else if fn.n = 4 then m.push [strV (typeN a), nilV]
    else if fn.n = 5 then m.throw a
    else if fn.n = 6 then
      (if a.t ≠ 5 then m.push [boolV false, strV mCall]
       else if m.th.depth ≥ 8 then m.push [boolV false, strV mDepth]
       else m.enter N root a.n [b] 1)
    else if fn.n = 7 then
      (if a.t ≠ 4 then m.raise mNext
       else match (m.tabs.getD a.n tab0).next b with
         | none => m.raise mNext
         | some r => m.push [r.1, r.2])
    else if fn.n = 8 then
      (if a.t ≠ 5 then m.raise mCall
       else if m.ths.length ≥ 5 then m.finish 8 [45]
       else ({ m with ths := m.ths ++ [⟨1, a.n, 0, [], []⟩] } : MD).push [⟨7, m.ths.length, []⟩, nilV])
    else if fn.n = 9 then
      (if a.t ≠ 7 then m.raise mCo
       else
         let c := m.ths.getD a.n mt0
         if c.st ≠ 1 ∧ c.st ≠ 2 then m.push [boolV false, strV (statusN c.st)]
         else
           let m1 := m.upT fun t => { t with st := 3 }
           let m2 := ({ m1 with stack := m.cur :: m.stack, cur := a.n } : MD).upT fun t => { t with st := 4 }
           if c.st = 1 then ({ m2 with first := m.first + 1 } : MD).enter N root c.fn [b] 0 else m2.push [b, nilV])
    else if fn.n = 10 then
      (if m.cur = 0 then m.raise mYield
       else match m.stack with
         | [] => m
         | c :: r => (({ (m.upT fun t => { t with st := 2 }) with stack := r, cur := c } : MD).upT fun t => { t with st := 4 }).push [boolV true, a])
    else if fn.n = 11 then (if a.t ≠ 7 then m.raise mCo else m.push [strV (statusN (m.ths.getD a.n mt0).st), nilV])
    else m.push [nilV, nilV]
/-- one step: the top task of the thread at hand -/
def MD.step (N : List Nd) (root : Nat) (m0 : MD) : MD :=
  match m0.th.tasks with
  | [] => m0
  | k :: r =>
    let m := m0.upT fun t => { t with tasks := r }
    let d := N.getD k.n nd0
    let h := m.th.vals.length
    if k.k = 1 then (if k.n ≠ 0 then m.stmt N k.n k.e else m)
    else if k.k = 2 then m.eval N k.n k.x k.e
    else if k.k = 3 then m0.ret nilV nilV
    else if k.k = 4 then m
    else if k.k = 5 then m.pops 1
    else if k.k = 6 then { (m.pops 1).todo [⟨1, d.next, 0, some m.envs.length⟩] with envs := m.envs ++ [⟨d.s, m.topM 0, k.e⟩] }
    else if k.k = 7 then
      let n1 := N.getD d.a nd0
      { (m.pops 2).todo [⟨1, d.next, 0, some (m.envs.length + 1)⟩] with envs := m.envs ++ [⟨n1.s, m.topM 1, k.e⟩, ⟨(N.getD n1.next nd0).s, m.topM 0, some m.envs.length⟩] }
    else if k.k = 8 then
      let i := k.e.getD 0
      { (m.pops 1).todo [⟨1, d.next, 0, k.e⟩] with envs := m.envs.set i { m.envs.getD i en0 with v := m.topM 0 } }
    else if k.k = 9 then
      match m.find k.e d.s with
      | some i => { m.pops 1 with envs := m.envs.set i { m.envs.getD i en0 with v := m.topM 0 } }
      | none => (m.pops 1).setT ⟨4, 0, []⟩ (strV d.s) (m.topM 0)
    else if k.k = 10 then (m.pops 3).setT (m.topM 2) (m.topM 1) (m.topM 0)
    else if k.k = 11 then (m.pops 1).todo [⟨1, if truthy (m.topM 0) then d.b else d.c, 0, k.e⟩]
    else if k.k = 12 then m.todo [⟨2, d.a, 0, k.e⟩, ⟨13, k.n, 0, k.e⟩]
    else if k.k = 13 then (if truthy (m.topM 0) then (m.pops 1).todo [⟨1, d.b, 0, k.e⟩, ⟨14, k.n, 0, k.e⟩] else m.pops 1)
    else if k.k = 14 then m.burn fun m => m.todo [⟨12, k.n, 0, k.e⟩]
    else if k.k = 15 then
      (if (m.topM 2).t ≠ 2 ∨ (m.topM 1).t ≠ 2 ∨ (m.topM 0).t ≠ 2 then m.raise mFor
       else if !(cmpN 5 (m.topM 0).n 0) && !(cmpN 3 (m.topM 0).n 0) then m.raise mFor
       else m.todo [⟨16, k.n, 0, k.e⟩])
    else if k.k = 16 then
      (if cmpN (if cmpN 5 (m.topM 0).n 0 then 4 else 6) (m.topM 2).n (m.topM 1).n then
         { m.todo [⟨1, d.b, 0, some m.envs.length⟩, ⟨17, k.n, 0, k.e⟩] with envs := m.envs ++ [⟨d.s, m.topM 2, k.e⟩] }
       else m.pops 3)
    else if k.k = 17 then
      (m.upT fun t => { t with vals := t.vals.set (h - 3) { m.topM 2 with n := arithN 1 (m.topM 2).n (m.topM 0).n } }).burn fun m => m.todo [⟨16, k.n, 0, k.e⟩]
    else if k.k = 18 then (if (m.topM 0).t ≠ 4 then m.raise mFor else (m.push [nilV]).todo [⟨19, k.n, 0, k.e⟩])
    else if k.k = 19 then
      let kv := ((m.tabs.getD (m.topM 1).n tab0).next (m.topM 0)).getD (nilV, nilV)
      (if kv.1.t = 0 then m.pops 2
       else
         let n1 := N.getD d.a nd0
         { (m.upT fun t => { t with vals := t.vals.set (h - 1) kv.1 }).todo [⟨1, d.c, 0, some (m.envs.length + 1)⟩, ⟨20, k.n, 0, k.e⟩] with envs := m.envs ++ [⟨n1.s, kv.1, k.e⟩, ⟨(N.getD n1.next nd0).s, kv.2, some m.envs.length⟩] })
    else if k.k = 20 then m.burn fun m => m.todo [⟨19, k.n, 0, k.e⟩]
    else if k.k = 21 then (m.pops 2).ret (m.topM 1) (m.topM 0)
    else if k.k = 22 then m.apply N root k.x
    else if k.k = 23 then
      let m1 := (m.pops 1).setT (m.topM 1) (numV (fromIntN k.x)) (m.topM 0)
      if m1.done.isSome then m1 else m1.items d.next (k.x + 1) k.e
    else if k.k = 24 then (m.pops 2).bin d.n (m.topM 1) (m.topM 0)
    else if k.k = 25 then (m.pops 1).un d.n (m.topM 0)
    else if k.k = 26 then (if truthy (m.topM 0) then (m.pops 1).todo [⟨2, d.b, 0, k.e⟩] else m)
    else if k.k = 27 then (if truthy (m.topM 0) then m else (m.pops 1).todo [⟨2, d.b, 0, k.e⟩])
    else if k.k = 28 then (if (m.topM 1).t ≠ 4 then (m.pops 2).raise mIndex else (m.pops 2).push [(m.tabs.getD (m.topM 1).n tab0).get (m.topM 0)])
    else m
def stepsM (N : List Nd) (root : Nat) : Nat → MD → MD
  | 0, m => m
  | n + 1, m => if m.done.isSome then m else stepsM N root n (m.step N root)
/-- the interpreter at the start of a run -/
def startM (N : List Nd) (root : Nat) (fuel : Int) : MD :=
  (⟨[globals], [(0, none)], [], [⟨4, 0, 0, [], []⟩], [], 0, fuel.toNat, 0, [], none⟩ : MD).enter N root 0 [] 0
/-- what a run of the interpreter answers -/
def runM (n : Nat) (N : List Nd) (root : Nat) (fuel : Int) : Option AnD := (stepsM N root n (startM N root fuel)).done
end Go.Proofs.Qxb6500574aGreatDoor
