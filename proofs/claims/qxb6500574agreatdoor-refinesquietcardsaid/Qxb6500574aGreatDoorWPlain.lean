/-
  moon: THE PARSER AND THE COMPILER IN PLAIN WORDS. No memory, no walk.
-/
import Derived.Test.Qxb6500574aGreatDoorVPlain
namespace Go.Proofs.Qxb6500574aGreatDoor
set_option linter.unusedVariables false

/-! ### tokens -/
structure Tok where
  k : Nat
  p : Nat
  s : Bs
  n : Nat
  e : Nat
def tok0 : Tok := ⟨0, 0, [], 0, 0⟩
def isDig (c : UInt8) : Bool := 48 ≤ c && c ≤ 57
def isLet (c : UInt8) : Bool := (97 ≤ c && c ≤ 122) || (65 ≤ c && c ≤ 90) || c == 95
def isWrd (c : UInt8) : Bool := isLet c || isDig c
def keywordL : List Bs := [[98, 114, 101, 97, 107], [100, 111], [101, 108, 115, 101], [101, 108, 115, 101, 105, 102], [101, 110, 100], [102, 97, 108, 115, 101], [102, 111, 114], [102, 117, 110, 99, 116, 105, 111, 110], [105, 102], [105, 110], [108, 111, 99, 97, 108], [110, 105, 108], [110, 111, 116], [114, 101, 116, 117, 114, 110], [116, 104, 101, 110], [116, 114, 117, 101], [119, 104, 105, 108, 101], [111, 114], [97, 110, 100]]
def signL : List Bs := [[61, 61], [126, 61], [60], [60, 61], [62], [62, 61], [46, 46], [43], [45], [42], [47], [47, 47], [37], [35], [61], [40], [41], [123], [125], [91], [93], [44], [46]]
/-- the place of the first that is alike -/
def idx (l : List Bs) (t : Bs) : Option Nat := l.findIdx? (fun w => w == t)
def keywordN (t : Bs) : Nat := match idx keywordL t with | some i => 5 + i | none => 2
def signN (t : Bs) : Nat := match idx signL t with | some i => 24 + i | none => 1
def span (p : UInt8 → Bool) (r : Bs) : Nat := (r.takeWhile p).length
def headDig (r : Bs) : Bool := match r with | z :: _ => isDig z | [] => false
/-- how long the number is that opens here -/
def numLen (r : Bs) : Nat :=
  let d := span isDig r
  match r.drop d with
  | [] => d
  | c :: q =>
    if c ≠ 46 ∧ c ≠ 112 then d
    else match q with
      | [] => d
      | x :: y =>
        if isDig x then d + 1 + span isDig q
        else if c = 112 ∧ x = 45 ∧ headDig y = true then d + 2 + span isDig y
        else d
def badTok (p e : Nat) : Tok := ⟨1, p, [], 0, e⟩
def scanN : Nat → Nat → Bs → List Tok
  | 0, p, _ => [⟨0, p, [], 0, 0⟩]
  | _, p, [] => [⟨0, p, [], 0, 0⟩]
  | f + 1, p, c :: r =>
    if c = 32 ∨ c = 9 ∨ c = 10 ∨ c = 13 then scanN f (p + 1) r
    else if c = 45 ∧ r.head? = some 45 then
      let k := span (fun x => x != 10) (c :: r)
      scanN f (p + k) ((c :: r).drop k)
    else if isLet c then
      let k := span isWrd (c :: r)
      if k ≤ 40 then ⟨keywordN ((c :: r).take k), p, (c :: r).take k, 0, 0⟩ :: scanN f (p + k) ((c :: r).drop k)
      else [badTok p 14]
    else if isDig c then
      let k := numLen (c :: r)
      match parseN ((c :: r).take k) with
      | some b => ⟨3, p, [], b, 0⟩ :: scanN f (p + k) ((c :: r).drop k)
      | none => [badTok p 2]
    else if c = 34 then
      let k := span (fun x => x != 34 && x != 10) r
      if (r.drop k).head? = some 34 ∧ k ≤ 40 then ⟨4, p, r.take k, 0, 0⟩ :: scanN f (p + k + 2) (r.drop (k + 1))
      else [badTok p 14]
    else
      let twin : UInt8 := if c = 46 ∨ c = 47 then c else 61
      let two := (c = 46 ∨ c = 47 ∨ c = 61 ∨ c = 126 ∨ c = 60 ∨ c = 62) ∧ r.head? = some twin
      let t := if two then [c, twin] else [c]
      let q := if two then r.drop 1 else r
      if signN t = 1 ∨ 128 ≤ c.toNat then [badTok p 13]
      else ⟨signN t, p, [], 0, 0⟩ :: scanN f (p + t.length) q
def scanP (s : Bs) : List Tok := scanN (s.length + 1) 0 s

/-! ### the tree, laid flat as it is read -/
structure Nd where
  k : Nat
  a : Nat
  b : Nat
  c : Nat
  next : Nat
  n : Nat
  s : Bs
  p : Nat
def nd0 : Nd := ⟨0, 0, 0, 0, 0, 0, [], 0⟩
structure PSt where
  i : Nat
  alive : Nat
  loops : Nat
  funcs : Nat
  nodes : List Nd
/-- an error and its place, or numbers and the state -/
abbrev PR := Sum (Nat × Nat) (List Nat × PSt)
def PBd (r : PR) (f : List Nat → PSt → PR) : PR := match r with
  | .inl e => .inl e
  | .inr x => f x.1 x.2
def curT (T : List Tok) (s : PSt) : Tok := T.getD s.i tok0
def failP (T : List Tok) (s : PSt) (e : Nat) : PR := .inl (if (curT T s).k = 1 then (curT T s).e else e, (curT T s).p)
def PSt.nxt (s : PSt) : PSt := { s with i := s.i + 1 }
def expectP (T : List Tok) (s : PSt) (k : Nat) (f : PSt → PR) : PR := if (curT T s).k = k then f s.nxt else failP T s 15
def PSt.add (s : PSt) (d : Nd) : PSt := { s with nodes := s.nodes ++ [d] }
def okP (s : PSt) (d : Nd) : PR := .inr ([s.nodes.length], s.add d)
/-- member x comes behind member l -/
def PSt.link (s : PSt) (l x : Nat) : PSt := if l = 0 then s else { s with nodes := s.nodes.set l { s.nodes.getD l nd0 with next := x } }
def nameP (T : List Tok) (s : PSt) (extra : Nat) (f : Tok → PSt → PR) : PR :=
  if (curT T s).k ≠ 2 then failP T s 15
  else if 0 < extra ∧ 12 < s.alive + extra then failP T s 18
  else f (curT T s) s.nxt
def endsB (k : Nat) : Bool := k == 0 || k == 9 || k == 7 || k == 8
/-- rank, kind, operator of the token kOr + j -/
def bindL : List (Nat × Nat × Nat) := [(1, 25, 0), (2, 24, 0), (3, 22, 11), (3, 22, 12), (3, 22, 13), (3, 22, 14), (3, 22, 15), (3, 22, 16), (4, 22, 20), (5, 22, 1), (5, 22, 2), (6, 22, 3), (6, 22, 4), (6, 22, 5), (6, 22, 6)]
/-- the parser: task, room, numbers, the state -/
def parN (T : List Tok) : Nat → Nat → Nat → List Nat → PSt → PR
  | 0, _, _, _, _ => .inl (99, 0)
  | n + 1, task, room, x, s =>
    let t := curT T s
    let x0 := x.getD 0 0
    let x1 := x.getD 1 0
    let x2 := x.getD 2 0
    let x3 := x.getD 3 0
    let x4 := x.getD 4 0
    if task = 0 then PBd (parN T n 2 room [] s) fun v s => parN T n 1 room [x0, v.getD 0 0] s
    else if task = 1 then
      if t.k < 22 ∨ 36 < t.k then .inr ([x1], s)
      else if (bindL.getD (t.k - 22) (0, 0, 0)).1 < x0 then .inr ([x1], s)
      else PBd (if (bindL.getD (t.k - 22) (0, 0, 0)).1 = 4 then parN T n 0 (room - 1) [4] s.nxt else parN T n 0 room [(bindL.getD (t.k - 22) (0, 0, 0)).1 + 1] s.nxt) fun v s =>
        parN T n 1 room [x0, s.nodes.length] (s.add ⟨(bindL.getD (t.k - 22) (0, 0, 0)).2.1, x1, v.getD 0 0, 0, 0, (bindL.getD (t.k - 22) (0, 0, 0)).2.2, [], t.p⟩)
    else if task = 2 then
      if room = 0 then failP T s 16
      else if t.k = 32 ∨ t.k = 17 ∨ t.k = 37 then
        PBd (parN T n 2 (room - 1) [] s.nxt) fun v s => okP s ⟨23, v.getD 0 0, 0, 0, 0, if t.k = 32 then 1 else if t.k = 17 then 2 else 3, [], t.p⟩
      else parN T n 3 room [] s
    else if task = 3 then
      if room = 0 then failP T s 16
      else PBd (parN T n 5 room [] s) fun v s => parN T n 4 room [v.getD 0 0] s
    else if task = 4 then
      if t.k = 46 then nameP T s.nxt 0 fun m s =>
        parN T n 4 room [s.nodes.length + 1] ((s.add ⟨16, 0, 0, 0, 0, 0, m.s, m.p⟩).add ⟨18, x0, s.nodes.length, 0, 0, 0, [], t.p⟩)
      else if t.k = 43 then PBd (parN T n 0 (room - 1) [1] s.nxt) fun v s => expectP T s 44 fun s =>
        parN T n 4 room [s.nodes.length] (s.add ⟨18, x0, v.getD 0 0, 0, 0, 0, [], t.p⟩)
      else if t.k = 39 then PBd (parN T n 6 (room - 1) [40, 4, 0, 0, 0] s.nxt) fun v s =>
        parN T n 4 room [s.nodes.length] (s.add ⟨19, x0, v.getD 0 0, 0, 0, 0, [], t.p⟩)
      else .inr ([x0], s)
    else if task = 5 then
      if t.k = 3 then okP s.nxt ⟨15, 0, 0, 0, 0, t.n, [], t.p⟩
      else if t.k = 4 then okP s.nxt ⟨16, 0, 0, 0, 0, 0, t.s, t.p⟩
      else if t.k = 2 then okP s.nxt ⟨17, 0, 0, 0, 0, 0, t.s, t.p⟩
      else if t.k = 16 then okP s.nxt ⟨12, 0, 0, 0, 0, 0, [], t.p⟩
      else if t.k = 20 then okP s.nxt ⟨13, 0, 0, 0, 0, 0, [], t.p⟩
      else if t.k = 10 then okP s.nxt ⟨14, 0, 0, 0, 0, 0, [], t.p⟩
      else if t.k = 39 then PBd (parN T n 0 (room - 1) [1] s.nxt) fun v s => expectP T s 40 fun s => .inr (v, s)
      else if t.k = 12 then (if 12 ≤ s.funcs then failP T s 20 else parN T n 7 room [t.p] s.nxt)
      else if t.k = 41 then PBd (parN T n 6 (room - 1) [42, 0, 0, 0, 0] s.nxt) fun v s => okP s ⟨21, v.getD 0 0, 0, 0, 0, 0, [], t.p⟩
      else failP T s 15
    else if task = 6 then -- expressions up to the sign x0; x1: 0: no bound, else the most and one; x2 so many, the first x3, the last x4
      if t.k = x0 then .inr ([x3, x2], s.nxt)
      else
        let go := fun s => if x1 ≠ 0 ∧ x2 + 1 = x1 then failP T s 19 else PBd (parN T n 0 room [1] s) fun v s =>
          parN T n 6 room [x0, x1, x2 + 1, if x4 = 0 then v.getD 0 0 else x3, v.getD 0 0] (s.link x4 (v.getD 0 0))
        if 0 < x2 then expectP T s 45 go else go s
    else if task = 7 then -- a literal whose place is x0
      expectP T s 39 fun s => PBd (parN T n 8 room [0, 0, 0] { s with funcs := s.funcs + 1 }) fun v s1 =>
        PBd (parN T n 9 (room - 1) [] { s1 with alive := v.getD 1 0, loops := 0 }) fun u s2 => expectP T s2 9 fun s3 =>
          okP { s3 with alive := s.alive, loops := s.loops } ⟨20, v.getD 0 0, u.getD 0 0, 0, 0, s.funcs + 1, [], x0⟩
    else if task = 8 then -- parameters: x0 so many, the first x1, the last x2
      if t.k = 40 then .inr ([x1, x0], s.nxt)
      else
        let go := fun s => if x0 = 3 then failP T s 19 else nameP T s 0 fun m s =>
          parN T n 8 room [x0 + 1, if x2 = 0 then s.nodes.length else x1, s.nodes.length] ((s.add ⟨17, 0, 0, 0, 0, 0, m.s, m.p⟩).link x2 s.nodes.length)
        if 0 < x0 then expectP T s 45 go else go s
    else if task = 9 then -- a block
      if room = 0 then failP T s 16
      else PBd (parN T n 10 room [0, 0, 0] s) fun v s1 => .inr (v, { s1 with alive := s.alive })
    else if task = 10 then -- its statements: x0: closed; the first x1, the last x2
      if endsB t.k then .inr ([x1], s)
      else if x0 = 1 then failP T s 15
      else PBd (parN T n 11 room [] s) fun v s =>
        let k := (s.nodes.getD (v.getD 0 0) nd0).k
        parN T n 10 room [if k = 10 ∨ k = 11 then 1 else 0, if x2 = 0 then v.getD 0 0 else x1, v.getD 0 0] (s.link x2 (v.getD 0 0))
    else if task = 11 then -- a statement
      if t.k = 15 then parN T n 12 room [] s.nxt
      else if t.k = 13 then parN T n 13 room [] s
      else if t.k = 11 then parN T n 14 room [] s.nxt
      else if t.k = 21 then PBd (parN T n 0 (room - 1) [1] s.nxt) fun v s => PBd (parN T n 15 room [0] s) fun u s => okP s ⟨7, v.getD 0 0, u.getD 0 0, 0, 0, 0, [], t.p⟩
      else if t.k = 5 then (if s.loops = 0 then failP T s 15 else okP s.nxt ⟨11, 0, 0, 0, 0, 0, [], t.p⟩)
      else if t.k = 18 then parN T n 16 room [t.p] s.nxt
      else PBd (parN T n 3 (room - 1) [] s) fun v s =>
        let d := s.nodes.getD (v.getD 0 0) nd0
        if (curT T s).k ≠ 38 then (if d.k = 19 then okP s ⟨5, v.getD 0 0, 0, 0, 0, 0, [], d.p⟩ else failP T s 15)
        else if d.k ≠ 17 ∧ d.k ≠ 18 then failP T s 15
        else PBd (parN T n 0 (room - 1) [1] s.nxt) fun u s2 => okP s2 ⟨4, v.getD 0 0, u.getD 0 0, 0, 0, 0, [], (curT T s).p⟩
    else if task = 12 then -- behind 'local'
      if t.k = 12 then (if 12 ≤ s.funcs then failP T s 20 else nameP T s.nxt 1 fun m s =>
        PBd (parN T n 7 room [m.p] { s with alive := s.alive + 1 }) fun v s => okP s ⟨3, v.getD 0 0, 0, 0, 0, 0, m.s, m.p⟩)
      else nameP T s 1 fun m s =>
        if (curT T s).k = 45 then nameP T s.nxt 2 fun m2 s => expectP T s 38 fun s =>
          let b := s.nodes.length
          PBd (parN T n 0 (room - 1) [1] ((s.add ⟨17, 0, 0, 0, b + 1, 0, m.s, m.p⟩).add ⟨17, 0, 0, 0, 0, 0, m2.s, m2.p⟩)) fun v s =>
            if (s.nodes.getD (v.getD 0 0) nd0).k ≠ 19 then failP T s 15
            else okP { s with alive := s.alive + 2 } ⟨2, b, v.getD 0 0, 0, 0, 0, [], m.p⟩
        else if (curT T s).k = 38 then PBd (parN T n 0 (room - 1) [1] s.nxt) fun v s => okP { s with alive := s.alive + 1 } ⟨1, v.getD 0 0, 0, 0, 0, 0, m.s, m.p⟩
        else okP { s with alive := s.alive + 1 } ⟨1, 0, 0, 0, 0, 0, m.s, m.p⟩
    else if task = 13 then -- 'if' | 'elseif' is at hand
      PBd (parN T n 0 (room - 1) [1] s.nxt) fun v s => expectP T s 19 fun s => PBd (parN T n 9 (room - 1) [] s) fun u s =>
        if (curT T s).k = 8 then PBd (parN T n 13 (room - 1) [] s) fun z s => okP s ⟨6, v.getD 0 0, u.getD 0 0, z.getD 0 0, 0, 0, [], t.p⟩
        else if (curT T s).k = 7 then PBd (parN T n 9 (room - 1) [] s.nxt) fun z s => expectP T s 9 fun s => okP s ⟨6, v.getD 0 0, u.getD 0 0, z.getD 0 0, 0, 0, [], t.p⟩
        else expectP T s 9 fun s => okP s ⟨6, v.getD 0 0, u.getD 0 0, 0, 0, 0, [], t.p⟩
    else if task = 14 then -- behind 'for'
      nameP T s 4 fun m s =>
        if (curT T s).k = 45 then nameP T s.nxt 0 fun m2 s => expectP T s 14 fun s =>
          let b := s.nodes.length
          PBd (parN T n 0 (room - 1) [1] ((s.add ⟨17, 0, 0, 0, b + 1, 0, m.s, m.p⟩).add ⟨17, 0, 0, 0, 0, 0, m2.s, m2.p⟩)) fun v s =>
            PBd (parN T n 15 room [4] s) fun u s => okP s ⟨9, b, v.getD 0 0, u.getD 0 0, 0, 0, [], m.p⟩
        else expectP T s 38 fun s => PBd (parN T n 0 (room - 1) [1] s) fun v s => expectP T s 45 fun s => PBd (parN T n 0 (room - 1) [1] s) fun u s =>
          let s1 := s.link (v.getD 0 0) (u.getD 0 0)
          if (curT T s1).k = 45 then PBd (parN T n 0 (room - 1) [1] s1.nxt) fun z s => PBd (parN T n 15 room [4] (s.link (u.getD 0 0) (z.getD 0 0))) fun q s => okP s ⟨8, v.getD 0 0, q.getD 0 0, 0, 0, 0, m.s, m.p⟩
          else PBd (parN T n 15 room [4] s1) fun q s => okP s ⟨8, v.getD 0 0, q.getD 0 0, 0, 0, 0, m.s, m.p⟩
    else if task = 15 then -- 'do' block 'end'; x0 more locals
      expectP T s 6 fun s => PBd (parN T n 9 (room - 1) [] { s with alive := s.alive + x0, loops := s.loops + 1 }) fun v s => expectP T s 9 fun s =>
        .inr (v, { s with alive := s.alive - x0, loops := s.loops - 1 })
    else -- behind 'return', whose place is x0
      if endsB t.k then okP s ⟨10, 0, 0, 0, 0, 0, [], x0⟩
      else PBd (parN T n 0 (room - 1) [1] s) fun v s =>
        if (curT T s).k = 45 then PBd (parN T n 0 (room - 1) [1] s.nxt) fun u s => okP s ⟨10, v.getD 0 0, u.getD 0 0, 0, 0, 0, [], x0⟩
        else okP s ⟨10, v.getD 0 0, 0, 0, 0, 0, [], x0⟩
/-- the arena and the root -/
def treeP (src : Bs) : Sum (Nat × Nat) (List Nd × Nat) :=
  if 2048 < src.length then .inl (1, 0)
  else
    let T := scanP src
    match parN T (100 * (T.length + 20)) 9 12 [] ⟨0, 0, 0, 0, [nd0]⟩ with
    | .inl e => .inl e
    | .inr x =>
      if (curT T x.2).k ≠ 0 then failP T x.2 15 |>.elim .inl (fun _ => .inl (0, 0))
      else if 300 < x.2.nodes.length - 1 then .inl (17, src.length)
      else .inr (x.2.nodes, x.1.getD 0 0)

/-! ### the compiler -/
structure LpD where
  base : Nat
  breaks : List Nat
structure FnD where
  parent : Option Nat
  np : Nat
  locals : List Bs
  nslots : Nat
  ups : List (Nat × Nat)
  consts : List Vl
  code : List (Nat × Nat)
  loops : List LpD
def fn0 : FnD := ⟨none, 0, [], 0, [], [], [], []⟩
structure CmD where
  fns : List FnD
  np : Nat
def CmD.fn (c : CmD) (f : Nat) : FnD := c.fns.getD f fn0
def CmD.upd (c : CmD) (f : Nat) (g : FnD → FnD) : CmD := { c with fns := c.fns.set f (g (c.fn f)) }
def CmD.emit (c : CmD) (f : Nat) (l : List (Nat × Nat)) : CmD := c.upd f fun d => { d with code := d.code ++ l }
def CmD.here (c : CmD) (f : Nat) : Nat := (c.fn f).code.length
/-- the jump at p lands here -/
def CmD.land (c : CmD) (f p : Nat) : CmD := c.upd f fun d => { d with code := d.code.set p ((d.code.getD p (0, 0)).1, d.code.length % 65536) }
def CmD.declare (c : CmD) (f : Nat) (s : Bs) : CmD := c.upd f fun d => { d with locals := d.locals ++ [s], nslots := max d.nslots (d.locals.length + 1) }
def CmD.bind (c : CmD) (f : Nat) (s : Bs) : CmD := (c.declare f s).emit f [(6, (c.fn f).locals.length % 65536)]
def CmD.leave (c : CmD) (f base : Nat) : CmD := if base < (c.fn f).locals.length then (c.emit f [(29, base % 65536)]).upd f fun d => { d with locals := d.locals.take base } else c
/-- the newest local of that name -/
def slotL (l : List Bs) (s : Bs) : Option Nat := (l.reverse.findIdx? (fun w => w == s)).map fun k => l.length - 1 - k
def upN (c : CmD) (s : Bs) : Nat → Nat → CmD × Option Nat
  | 0, _ => (c, none)
  | n + 1, f =>
    match (c.fn f).parent with
    | none => (c, none)
    | some g =>
      let r : CmD × Option (Nat × Nat) := match slotL (c.fn g).locals s with
        | some k => (c, some (1, k % 256))
        | none => match upN c s n g with
          | (c1, some k) => (c1, some (0, k % 256))
          | (c1, none) => (c1, none)
      match r with
      | (c1, none) => (c1, none)
      | (c1, some d) => match (c1.fn f).ups.findIdx? (fun e => e == d) with
        | some k => (c1, some k)
        | none => (c1.upd f fun x => { x with ups := x.ups ++ [d] }, some (c1.fn f).ups.length)
/-- the place of a constant -/
def CmD.const (c : CmD) (f : Nat) (v : Vl) : CmD × Nat :=
  match (c.fn f).consts.findIdx? (fun e => e.same v) with
  | some k => (c, k)
  | none => (c.upd f fun d => { d with consts := d.consts ++ [v] }, (c.fn f).consts.length % 65536)
def CmD.variable (c : CmD) (f : Nat) (s : Bs) (lo up gl : Nat) : CmD :=
  match slotL (c.fn f).locals s with
  | some k => c.emit f [(lo, k % 65536)]
  | none => match upN c s 20 f with
    | (c1, some k) => c1.emit f [(up, k % 65536)]
    | (c1, none) => let r := c1.const f (strV s); r.1.emit f [(gl, r.2)]
def CmD.jump (c : CmD) (f op : Nat) : CmD := c.emit f [(op, 65535)]
def CmD.open_ (c : CmD) (f base : Nat) : CmD := c.upd f fun d => { d with loops := d.loops ++ [⟨base, []⟩] }
def CmD.shut (c : CmD) (f : Nat) : CmD :=
  let l := (c.fn f).loops.getLastD ⟨0, []⟩
  l.breaks.foldl (fun c p => c.land f p) (c.upd f fun d => { d with loops := d.loops.dropLast })
/-- the members of a list -/
def nextL (N : List Nd) : Nat → Nat → List Nat
  | 0, _ => []
  | k + 1, n => if n = 0 then [] else n :: nextL N k (N.getD n nd0).next
def binI (op : Nat) : Nat × Nat := if op = 20 then (17, 0) else if 10 < op then (16, (op - 10) % 65536) else (15, op % 65536)
def unI (op : Nat) : Nat × Nat := if op = 1 then (19, 0) else if op = 2 then (18, 0) else (20, 0)
def one64 : Nat := 4607182418800017408
def CmD.fresh (c : CmD) (x : Nat) (parent : Option Nat) : CmD := { (c.upd x fun _ => { fn0 with parent := parent }) with np := max c.np (x + 1) }
/-- tasks: 0 a statement, 1 an expression, 2 a call, 3 a block -/
def comN (N : List Nd) : Nat → Nat → Nat → Nat → CmD → CmD
  | 0, _, _, _, c => c
  | k + 1, task, f, n, c =>
    let d := N.getD n nd0
    if task = 0 then
      if d.k = 1 then (comN N k 1 f d.a c).bind f d.s
      else if d.k = 2 then
        let a := N.getD d.a nd0
        let b := N.getD a.next nd0
        let c1 := comN N k 2 f d.b c
        (((c1.declare f a.s).bind f b.s).emit f [(6, (c1.fn f).locals.length % 65536)])
      else if d.k = 3 then ((comN N k 1 f d.a (c.declare f d.s)).emit f [(6, (c.fn f).locals.length % 65536)])
      else if d.k = 4 then
        let g := N.getD d.a nd0
        if g.k = 17 then (comN N k 1 f d.b c).variable f g.s 6 8 10
        else (comN N k 1 f d.b (comN N k 1 f g.b (comN N k 1 f g.a c))).emit f [(12, 0)]
      else if d.k = 5 then (comN N k 2 f d.a c).emit f [(25, 0), (25, 0)]
      else if d.k = 6 then
        let c1 := comN N k 1 f d.a c
        let c2 := comN N k 3 f d.b (c1.jump f 22)
        let c3 := comN N k 3 f d.c ((c2.jump f 21).land f (c1.here f))
        c3.land f (c2.here f)
      else if d.k = 7 then
        let c1 := comN N k 1 f d.a c
        let c2 := (comN N k 3 f d.b ((c1.jump f 22).open_ f (c.fn f).locals.length)).emit f [(21, c.here f % 65536)]
        (c2.land f (c1.here f)).shut f
      else if d.k = 8 then
        let base := (c.fn f).locals.length
        let lim := (N.getD d.a nd0).next
        let step := (N.getD lim nd0).next
        let c1 := (comN N k 1 f d.a c).bind f []
        let c2 := (comN N k 1 f lim c1).bind f []
        let c3 := if step ≠ 0 then comN N k 1 f step c2 else (let r := c2.const f (numV one64); r.1.emit f [(1, r.2)])
        let c4 := (c3.bind f []).emit f [(30, base % 65536)]
        let c5 := c4.emit f [(31, base % 65536)]
        let c6 := (((c5.jump f 22).open_ f base).emit f [(5, base % 65536)]).bind f d.s
        let c7 := ((comN N k 3 f d.b c6).leave f (base + 3)).emit f [(5, base % 65536), (5, (base + 2) % 65536), (15, 1), (6, base % 65536), (21, c4.here f % 65536)]
        ((c7.land f (c5.here f)).shut f).leave f base
      else if d.k = 9 then
        let base := (c.fn f).locals.length
        let kk := N.getD d.a nd0
        let vv := N.getD kk.next nd0
        let c1 := (((comN N k 1 f d.b c).bind f []).emit f [(2, 0)]).bind f []
        let c2 := c1.emit f [(32, base % 65536)]
        let c3 := (((c2.jump f 22).open_ f base).declare f kk.s).declare f vv.s
        let c4 := ((comN N k 3 f d.c c3).leave f (base + 2)).emit f [(21, c1.here f % 65536)]
        ((c4.land f (c2.here f)).shut f).leave f base
      else if d.k = 10 then (comN N k 1 f d.b (comN N k 1 f d.a c)).emit f [(27, 0)]
      else if d.k = 11 then
        let l := (c.fn f).loops.getLastD ⟨0, []⟩
        let c1 := if l.base < (c.fn f).locals.length then c.emit f [(29, l.base % 65536)] else c
        (c1.jump f 21).upd f fun x => { x with loops := x.loops.dropLast ++ [{ l with breaks := l.breaks ++ [c1.here f] }] }
      else c
    else if task = 1 then
      if d.k = 0 ∨ d.k = 12 then c.emit f [(2, 0)]
      else if d.k = 13 then c.emit f [(3, 0)]
      else if d.k = 14 then c.emit f [(4, 0)]
      else if d.k = 15 then (let r := c.const f (numV d.n); r.1.emit f [(1, r.2)])
      else if d.k = 16 then (let r := c.const f (strV d.s); r.1.emit f [(1, r.2)])
      else if d.k = 17 then c.variable f d.s 5 7 9
      else if d.k = 18 then (comN N k 1 f d.b (comN N k 1 f d.a c)).emit f [(11, 0)]
      else if d.k = 19 then (comN N k 2 f n c).emit f [(25, 0)]
      else if d.k = 20 then
        let g := d.n
        let ps := nextL N N.length d.a
        let c1 := ps.foldl (fun c m => c.declare g (N.getD m nd0).s) (c.fresh g (some f))
        let c2 := comN N k 3 g d.b (c1.upd g fun x => { x with np := ps.length })
        (c2.emit g [(2, 0), (2, 0), (27, 0)]).emit f [(28, d.n % 65536)]
      else if d.k = 21 then ((nextL N N.length d.a).foldl (fun (x : CmD × Nat) m => ((comN N k 1 f m x.1).emit f [(13, (x.2 + 1) % 65536)], x.2 + 1)) (c.emit f [(14, 0)], 0)).1
      else if d.k = 22 then (comN N k 1 f d.b (comN N k 1 f d.a c)).emit f [binI d.n]
      else if d.k = 23 then (comN N k 1 f d.a c).emit f [unI d.n]
      else if d.k = 24 ∨ d.k = 25 then
        let c1 := comN N k 1 f d.a c
        (comN N k 1 f d.b (c1.jump f (if d.k = 25 then 24 else 23))).land f (c1.here f)
      else c
    else if task = 2 then
      let l := nextL N N.length d.b
      (l.foldl (fun c m => comN N k 1 f m c) (comN N k 1 f d.a c)).emit f [(26, l.length % 65536)]
    else
      ((nextL N N.length n).foldl (fun c m => comN N k 0 f m c) c).leave f (c.fn f).locals.length
/-! ### the image -/
def byteN (x : Nat) : UInt8 := UInt8.ofNat (x % 256)
def put16 (x : Nat) : Bs := [byteN x, byteN (x / 256)]
def put64 (x : Nat) : Bs := (List.range 8).map fun i => byteN (x / 256 ^ i)
def layC (v : Vl) : Bs := if v.t = 2 then 1 :: put64 v.n else [2, byteN v.s.length] ++ v.s
def layF (f : FnD) : Bs := [byteN f.np, byteN f.nslots, byteN f.ups.length] ++ f.ups.flatMap (fun d => [byteN d.1, byteN d.2]) ++ put16 f.consts.length ++ f.consts.flatMap layC ++ put16 f.code.length ++ f.code.flatMap (fun i => byteN i.1 :: put16 i.2)
def layP (c : CmD) : Bs := byteN c.np :: (c.fns.take c.np).flatMap layF
def cm00 : CmD := ⟨List.replicate 13 fn0, 0⟩
def comP (N : List Nd) (root : Nat) : CmD := (comN N (2 * N.length + 5) 3 0 root (cm00.fresh 0 none)).emit 0 [(2, 0), (2, 0), (27, 0)]
def imageP (src : Bs) : Sum (Nat × Nat) Bs := match treeP src with
  | .inl e => .inl e
  | .inr x => .inr (layP (comP x.1 x.2))
end Go.Proofs.Qxb6500574aGreatDoor
