/-
  THE PLAIN FUNCTIONS of prepm (the model). No program.
-/
import Derived.Test.Qxb6500575aGreatDoorEnv
namespace Go.Proofs.Qxb6500575aGreatDoor
open Go Go.RowKit
set_option linter.unusedVariables false
set_option linter.unusedSimpArgs false

/-- prepm.ctl -/
structure Ctl where
  op : Int
  bt : Int
  height : Nat
  at_ : Int
  dead : Bool
/-- prepm.chk and the flat code: st, cs: the top first -/
structure Mk where
  st : List UInt8
  cs : List Ctl
  code : List Flat

/-- prepm.Pos -/
def posOne (c : Ins) : Nat := if c.op = 1 ∨ c.op = 2 ∨ c.op = 5 then 0 else if c.op = 8 then 1 + c.tab.length else 1
def posM (src : List Ins) : Nat → Nat
  | 0 => 0
  | i + 1 => posM src i + (match src[i]? with | none => 0 | some c => posOne c)
/-- prepm.Ends: the scan, from instruction j on -/
def endsR : List Ins → Int → Int → Nat → Int × Int
  | [], j, els, _ => (els, j - 1)
  | c :: cs, j, els, d =>
    if c.op = 1 ∨ c.op = 2 ∨ c.op = 3 then endsR cs (j + 1) els (d + 1)
    else if c.op = 4 then endsR cs (j + 1) (if d = 0 then j else els) d
    else if c.op = 5 then (if d = 0 then (els, j) else endsR cs (j + 1) els (d - 1))
    else endsR cs (j + 1) els d
def endsM (src : List Ins) (i : Nat) : Int × Int := endsR (src.drop (i + 1)) ((i : Int) + 1) (-1) 0
/-- where a block's end lands -/
def endT (src : List Ins) (at_ : Int) : Int := if 0 ≤ at_ then (endsM src at_.toNat).2 else (src.length : Int) - 1
/-- where an if jumps to -/
def altT (src : List Ins) (at_ : Nat) : Int := if 0 ≤ (endsM src at_).1 then (endsM src at_).1 + 1 else (endsM src at_).2

def Ctl.label (c : Ctl) : List UInt8 := if c.op = 2 then [] else resOf c.bt
def Ctl.blk (c : Ctl) : Blk := { res := resOf c.bt, carry := c.label, height := c.height, head := -1, dead := c.dead, alt := none, wait := [] }
def Mk.ck (s : Mk) : Ck := { st := s.st, opn := s.cs.map Ctl.blk, code := [] }
def Mk.pop (s : Mk) (want : UInt8) : Mk × UInt8 × Bool := ({ s with st := (s.ck.pop want).1.st }, (s.ck.pop want).2)
def Mk.pops (s : Mk) (l : List UInt8) : Mk × Bool := ({ s with st := (s.ck.pops l).1.st }, decide ((s.ck.pops l).2 = 0))
def Mk.swap (s : Mk) (i o : List UInt8) : Mk × Bool := ({ s with st := o.reverse ++ (s.pops i).1.st }, (s.pops i).2)
def Mk.kill (s : Mk) : Mk :=
  match s.cs with
  | [] => s
  | c :: r => { s with st := cut c.height s.st, cs := { c with dead := true } :: r }
def Mk.closes (s : Mk) : Mk × Bool :=
  match s.cs with
  | [] => (s, true)
  | c :: _ => ((s.pops (resOf c.bt)).1, (s.pops (resOf c.bt)).2 && decide ((s.pops (resOf c.bt)).1.st.length = c.height))
/-- prepm.jump to the l-th label outward -/
def Ctl.jump (c : Ctl) (src : List Ins) : Flat :=
  { op := 6, imm := posM src (if c.op = 2 then c.at_ else endT src c.at_).toNat, keep := c.label.length, cut := c.height }
def Mk.jump (s : Mk) (src : List Ins) (l : Nat) : Flat :=
  match s.cs[l]? with
  | none => ⟨6, 0, 0, 0⟩
  | some c => c.jump src
def Mk.label (s : Mk) (l : Nat) : List UInt8 :=
  match s.cs[l]? with
  | none => []
  | some c => c.label
def typedM (b : Bool) : Int := if b then 0 else 6
/-- prepm.Sig -/
def sigM (op : Int) : List UInt8 × List UInt8 :=
  if op = 15 ∨ op = 17 then ([], [105])
  else if op = 18 then ([], [108])
  else if op = 16 ∨ op = 19 ∨ op = 21 ∨ op = 22 ∨ op = 23 ∨ op = 24 ∨ op = 29 then ([105], [105])
  else if op = 20 ∨ op = 32 ∨ op = 33 then ([105], [108])
  else if op = 25 ∨ op = 27 ∨ op = 28 then ([105, 105], [])
  else if op = 26 then ([105, 108], [])
  else if op = 30 ∨ op = 31 then ([108], [105])
  else if 40 ≤ op ∧ op < 56 then ([105, 105], [105])
  else if 60 ≤ op ∧ op < 73 then ([108, 108], [108])
  else ([108, 108], [105])
/-- select -/
def Mk.sel (s : Mk) : Mk × Bool :=
  ({ (((s.pops [105]).1.pop 0).1.pop ((s.pops [105]).1.pop 0).2.1).1 with st := (((s.pops [105]).1.pop 0).1.pop ((s.pops [105]).1.pop 0).2.1).2.1 :: (((s.pops [105]).1.pop 0).1.pop ((s.pops [105]).1.pop 0).2.1).1.st },
   (s.pops [105]).2 && ((s.pops [105]).1.pop 0).2.2 && (((s.pops [105]).1.pop 0).1.pop ((s.pops [105]).1.pop 0).2.1).2.2)
/-- what is no control instruction: none: ErrIndex -/
def Mk.plain (s : Mk) (E : Env) (c : Ins) : Option (Mk × Bool) :=
  if c.op = 0 then some (s.kill, true)
  else if c.op = 9 then some ((s.pops E.me.results).1.kill, (s.pops E.me.results).2)
  else if c.op = 10 then (match E.funs[c.imm.toNat]? with | none => none | some u => some (s.swap u.params u.results))
  else if c.op = 11 then some ((s.pop 0).1, (s.pop 0).2.2)
  else if c.op = 12 then some s.sel
  else if c.op = 13 then (match (E.me.params ++ E.me.locals)[c.imm.toNat]? with | none => none | some t => some ({ s with st := t :: s.st }, true))
  else if c.op = 14 then (match (E.me.params ++ E.me.locals)[c.imm.toNat]? with | none => none | some t => some (s.pops [t]))
  else some (s.swap (sigM c.op).1 (sigM c.op).2)
def Mk.tableOk (s : Mk) (tab : List UInt8) (l : List UInt8) : Bool := tab.all fun t => decide (s.label t.toNat = l)
def Mk.lastLab (s : Mk) (tab : List UInt8) : List UInt8 := s.label (tab.getLast?.getD 0).toNat
def Mk.one (s : Mk) (E : Env) (src : List Ins) (i : Nat) (c : Ins) : Mk × Int :=
  if c.op = 1 ∨ c.op = 2 then ({ s with cs := ⟨c.op, c.imm, s.st.length, i, false⟩ :: s.cs }, 0)
  else if c.op = 3 then
    ({ st := (s.pops [105]).1.st, cs := ⟨3, c.imm, (s.pops [105]).1.st.length, i, false⟩ :: s.cs, code := s.code ++ [⟨3, posM src (altT src i).toNat, 0, 0⟩] }, typedM (s.pops [105]).2)
  else if c.op = 4 then
    (match s.cs with
    | [] => (s, 0)
    | t :: r => ({ st := s.closes.1.st, cs := { t with op := 4, dead := false } :: r, code := s.code ++ [⟨4, posM src (endsM src t.at_.toNat).2.toNat, 0, 0⟩] }, typedM s.closes.2))
  else if c.op = 5 then
    (match s.cs with
    | [] => (s, 0)
    | t :: r => ({ st := (resOf t.bt).reverse ++ s.closes.1.st, cs := r, code := s.code ++ (if r.isEmpty then [⟨5, c.imm, 0, 0⟩] else []) }, if t.op = 3 ∧ t.bt ≠ 0 then 6 else typedM s.closes.2))
  else if c.op = 6 then
    (if s.cs.length ≤ c.imm.toNat then (s, 5) else
     ({ (s.pops (s.label c.imm.toNat)).1.kill with code := s.code ++ [s.jump src c.imm.toNat] }, typedM (s.pops (s.label c.imm.toNat)).2))
  else if c.op = 7 then
    (if s.cs.length ≤ c.imm.toNat then (s, 5) else
     ({ (s.swap (s.label c.imm.toNat ++ [105]) (s.label c.imm.toNat)).1 with code := s.code ++ [{ s.jump src c.imm.toNat with op := 7 }] }, typedM (s.swap (s.label c.imm.toNat ++ [105]) (s.label c.imm.toNat)).2))
  else if c.op = 8 then
    (if c.tab.any (fun t => decide (s.cs.length ≤ t.toNat)) then (s, 5) else
     ({ (s.pops (s.lastLab c.tab ++ [105])).1.kill with code := s.code ++ ⟨8, (c.tab.length : Int) - 1, 0, 0⟩ :: c.tab.map (fun t => s.jump src t.toNat) },
      typedM (s.tableOk c.tab (s.lastLab c.tab) && (s.pops (s.lastLab c.tab ++ [105])).2)))
  else match s.plain E c with
    | none => (s, 5)
    | some p => ({ p.1 with code := s.code ++ [⟨c.op, c.imm, 0, 0⟩] }, typedM p.2)
end Go.Proofs.Qxb6500575aGreatDoor
