import Derived.Test.Qxb6500575aGreatDoorClos
namespace Go.Proofs.Qxb6500575aGreatDoor
open Go Go.RowKit
set_option linter.unusedVariables false
set_option linter.unusedSimpArgs false

/-- what a body is checked against: all the signatures, and its own -/
structure Env where
  funs : List FunD
  me : FunD
structure EnvOk (E : Env) : Prop where
  len : E.funs.length ≤ 900
  ps : ∀ u ∈ E.funs, u.params.length ≤ 400
  rs : ∀ u ∈ E.funs, u.results.length ≤ 400
  ls : ∀ u ∈ E.funs, u.locals.length ≤ 400
structure EnvAt (B : Nat) (w : World) (bk : Nat) (fx : CkF) (E : Env) (bp : Nat) (n1 n2 n3 n4 : Value) (g fc f : Nat) (cvs : List Value) (bA b3 : Nat) : Prop where
  funs : FunsAt w bp n1 n2 n3 n4 (some ⟨g, 0, none⟩) fc E.funs cvs
  p : fx.p = .pointer (some ⟨bp, 0, none⟩)
  u : fx.u = .pointer (some ⟨g, f * 4, none⟩)
  at_ : E.funs[f]? = some E.me
  on : OnAt w fx.on bk fx.u bA b3
  bpB : bp < B
  gB : g < B
section
variable {B : Nat} {w w1 : World} {bk : Nat} {fx : CkF} {E : Env} {bp : Nat} {n1 n2 n3 n4 : Value} {g fc f : Nat} {cvs : List Value} {bA b3 : Nat} {L L1 : CkL} {s : Ck}
theorem EnvAt.step (h : EnvAt B w bk fx E bp n1 n2 n3 n4 g fc f cvs bA b3) (hr : CkRep B w bk fx L s) (hs : CkStep w w1 bk L L1) : EnvAt B w1 bk fx E bp n1 n2 n3 n4 g fc f cvs bA b3 :=
  { h with
    funs := h.funs.fr hs.fr (fun hk => by have := hr.ge hk; have := h.bpB; omega) (fun k hk hS => by
      simp [Value.ownBlock] at hk
      subst hk
      have := hr.ge hS
      have := h.gB
      omega)
    on := h.on.step hr hs }
theorem EnvAt.alloc (h : EnvAt B w bk fx E bp n1 n2 n3 n4 g fc f cvs bA b3) (o : Obj) : EnvAt B (w.alloc o) bk fx E bp n1 n2 n3 n4 g fc f cvs bA b3 :=
  { h with funs := h.funs.fr (S := fun _ => False) ((Fr.refl _ w).alloc o) id (fun _ _ => id), on := h.on.alloc o }
theorem EnvAt.drewN (h : EnvAt B w bk fx E bp n1 n2 n3 n4 g fc f cvs bA b3) (n : Nat) : EnvAt B (w.drewN n) bk fx E bp n1 n2 n3 n4 g fc f cvs bA b3 :=
  { h with funs := h.funs.fr (S := fun _ => False) ((Fr.refl _ w).drewN n) id (fun _ _ => id), on := h.on.drewN n }
theorem EnvAt.drew (h : EnvAt B w bk fx E bp n1 n2 n3 n4 g fc f cvs bA b3) : EnvAt B w.drew bk fx E bp n1 n2 n3 n4 g fc f cvs bA b3 :=
  { h with funs := h.funs.fr (S := fun _ => False) ((Fr.refl _ w).drew) id (fun _ _ => id), on := h.on.drew }
theorem EnvAt.me_mem (h : EnvAt B w bk fx E bp n1 n2 n3 n4 g fc f cvs bA b3) : E.me ∈ E.funs := List.mem_of_getElem? h.at_
end

/-- the checker's bounds -/
structure Ck.Fit (s : Ck) : Prop where
  st : s.st.length ≤ 800
  code : s.code.length ≤ 800
  opn : s.opn.length ≤ 800
  wait : ∀ b ∈ s.opn, b.wait.length ≤ 800
  res : ∀ b ∈ s.opn, b.res.length ≤ 800
  carry : ∀ b ∈ s.opn, b.carry.length ≤ 800
  holes : ∀ b ∈ s.opn, ∀ p ∈ b.wait ++ b.alt.toList, p < s.code.length

/-- the handlers -/
def Ck.handle (s : Ck) (E : Env) (c : Ins) : Option (Ck × Int) :=
  if c.op = 0 then some (s.leaves [])
  else if c.op = 9 then some (s.leaves E.me.results)
  else if c.op = 11 then some (s.pops [0])
  else if c.op = 10 then some (s.call E.funs c.imm.toNat)
  else if c.op = 12 then some s.sel
  else if c.op = 13 ∨ c.op = 14 then some (s.local (E.me.params ++ E.me.locals) c.op c.imm.toNat)
  else none
def Ck.plainOne (s : Ck) (E : Env) (c : Ins) : Ck × Int :=
  match s.handle E c with
  | some p => p
  | none => if (sigsP c.op).2.2 then s.swap (sigsP c.op).1 (sigsP c.op).2.1 else (s, 3)
def Ck.one (s : Ck) (E : Env) (c : Ins) : Ck × Int :=
  if c.op = 1 ∨ c.op = 2 ∨ c.op = 3 then s.enter c
  else if c.op = 4 then s.turn
  else if c.op = 5 then s.leave
  else if c.op = 6 ∨ c.op = 7 then s.branch c.op c.imm.toNat
  else if c.op = 8 then s.table c.tab
  else ({ (s.plainOne E c).1 with code := (s.plainOne E c).1.code ++ [{ op := c.op, imm := c.imm, keep := 0, cut := 0 }] }, (s.plainOne E c).2)
end Go.Proofs.Qxb6500575aGreatDoor
