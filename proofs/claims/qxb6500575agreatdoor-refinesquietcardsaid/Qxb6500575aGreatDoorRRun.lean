/-
  run: THE WORLD DURING A CALL: the machine, the program, the memory and the host, each in blocks of its own types. No walk.
-/
import Derived.Test.Qxb6500575aGreatDoorREnter
import Derived.Test.Qxb6500575aGreatDoorKMem
namespace Go.Proofs.Qxb6500575aGreatDoor
open Go Go.RowKit
set_option linter.unusedVariables false
set_option linter.unusedSimpArgs false

/-- the blocks of a Prog -/
def PS (bp : Nat) (L : ProgL) (k : Nat) : Prop := k = bp ∨ (Value.slice L.fa 0 0).ownBlock = some k ∨ ∃ (f : Nat) (v : Value), L.cvs[f]? = some v ∧ v.ownBlock = some k
abbrev tsI : List TypeId := [62, 150, 213]
abbrev tsP : List TypeId := [101, 105, 176]
abbrev tsK : List TypeId := [96, 223, 5]
abbrev tsH : List TypeId := [88, 37, 70]
section
variable {w w' : World} {bp : Nat} {LP : ProgL} {p : ProgD} {S : Nat → Prop}
theorem ProgRep.self (h : ProgRep S w bp LP p) : ProgRep (PS bp LP) w bp LP p :=
  { h with own := .inl rfl, ownF := fun g hg => .inr (.inl hg), ownC := fun f v hv g hg => .inr (.inr ⟨f, v, hv, hg⟩) }
theorem ProgRep.typed (h : ProgRep S w bp LP p) : Typed w (PS bp LP) tsP := by
  rintro k (rfl | hk | ⟨f, v, hv, hk⟩)
  · exact ⟨_, _, h.funs.here, by simp⟩
  · obtain ⟨cs, hcs⟩ := owns_typed h.funs.row (by rw [ownBlock_any _ _ _ 0 0]; exact hk)
    exact ⟨cs, _, hcs, by simp⟩
  · have hl : f < p.codes.length := by rw [h.clen, ← h.funs.len]; exact (List.getElem?_eq_some_iff.1 hv).1
    obtain ⟨cs, hcs⟩ := owns_typed (h.codes f v p.codes[f] hv (List.getElem?_eq_getElem hl)) hk
    exact ⟨cs, _, hcs, by simp⟩
theorem ProgRep.kept (h : ProgRep (PS bp LP) w bp LP p) {S' : Nat → Prop} (hf : Fr S' w w') (hd : ∀ k, PS bp LP k → ¬ S' k) : ProgRep (PS bp LP) w' bp LP p := h.fr hf (fun k _ => hd k)
end
theorem InRep.typed {w : World} {bx : Nat} {p k : Value} {L : InL} {x : InD} (h : InRep w bx p k L x) : Typed w (InS bx L) tsI := by
  rintro j (rfl | hj | hj)
  · exact ⟨_, _, h.here, by simp⟩
  · obtain ⟨cs, hcs⟩ := owns_typed h.st (by rw [ownBlock_any]; exact hj)
    exact ⟨cs, _, hcs, by simp⟩
  · obtain ⟨cs, hcs⟩ := owns_typed h.fr (by rw [ownBlock_any]; exact hj)
    exact ⟨cs, _, hcs, by simp⟩

/-- a host: its state s lies in memory, in blocks HS s of its own types -/
structure HostL (σ : Type) where
  Rep : World → σ → Prop
  S : σ → Nat → Prop
  typed : ∀ {w s}, Rep w s → Typed w (S s) tsH
  fr : ∀ {w w' s} {S' : Nat → Prop}, Rep w s → Fr S' w w' → (∀ k, S s k → ¬ S' k) → Rep w' s
/-- a call under way: what does not change -/
structure RP (σ : Type) where
  bx : Nat
  bp : Nat
  bk : Nat
  LP : ProgL
  P : ProgD
  H : HostL σ
  w0 : World
  L0 : InL
  K0 : KL
  d0 : KD
  s0 : σ
variable {σ : Type}
/-- the blocks that the call may turn -/
def RP.S (R : RP σ) (k : Nat) : Prop := InS R.bx R.L0 k ∨ k = R.bp ∨ KS R.bk R.K0 k ∨ R.H.S R.s0 k
structure RunW (R : RP σ) (w : World) (L : InL) (K : KL) (x : InD) (n : Int) (d : KD) (s : σ) : Prop where
  inst : InRep w R.bx (.pointer (some ⟨R.bp, 0, none⟩)) (.pointer (some ⟨R.bk, 0, none⟩)) L x
  prog : ProgRep (PS R.bp R.LP) w R.bp R.LP { R.P with steps := n }
  mach : KRep w R.bk K d
  host : R.H.Rep w s
  fr : Fr R.S R.w0 w
  subI : ∀ k, k < R.w0.heap.size → InS R.bx L k → InS R.bx R.L0 k
  subK : ∀ k, k < R.w0.heap.size → KS R.bk K k → KS R.bk R.K0 k
  subH : ∀ k, k < R.w0.heap.size → R.H.S s k → R.H.S R.s0 k
section
variable {R : RP σ} {w w' : World} {L L' : InL} {K K' : KL} {x x' : InD} {n n' : Int} {d d' : KD} {s s' : σ}
/-- a step of the machine -/
theorem RunW.step (h : RunW R w L K x n d s) (h1 : InRep w' R.bx (.pointer (some ⟨R.bp, 0, none⟩)) (.pointer (some ⟨R.bk, 0, none⟩)) L' x') (h2 : InStep w w' R.bx L L') : RunW R w' L' K x' n d s :=
  { inst := h1
    prog := h.prog.kept h2.fr (h.prog.typed.apart h.inst.typed (by decide))
    mach := h.mach.fr h2.fr (h.mach.typed.apart h.inst.typed (by decide))
    host := h.host |> fun q => R.H.fr q h2.fr ((R.H.typed q).apart h.inst.typed (by decide))
    fr := h.fr.trans h2.fr (fun j hj hS => .inl (h.subI j hj hS))
    subI := fun j hj hS => h.subI j hj (h2.sub j (Nat.lt_of_lt_of_le hj h.fr.size) hS)
    subK := h.subK
    subH := h.subH }
/-- a step of the program -/
theorem RunW.fetch (h : RunW R w L K x n d s) (h1 : ProgRep (PS R.bp R.LP) w' R.bp R.LP { R.P with steps := n' }) (h2 : Fr (fun k => k = R.bp) w w') : RunW R w' L K x n' d s := by
  have hb : Typed w (fun k => k = R.bp) tsP := fun k e => by subst e; exact ⟨_, _, h.prog.funs.here, by simp⟩
  exact { inst := h.inst.fr' h2 (h.inst.typed.apart hb (by decide))
          prog := h1
          mach := h.mach.fr h2 (h.mach.typed.apart hb (by decide))
          host := R.H.fr h.host h2 ((R.H.typed h.host).apart hb (by decide))
          fr := h.fr.trans h2 (fun j hj hS => .inr (.inl hS))
          subI := h.subI
          subK := h.subK
          subH := h.subH }
/-- a step of the memory -/
theorem RunW.mem (h : RunW R w L K x n d s) (h1 : KRep w' R.bk K' d') (h2 : KStep w w' R.bk K K') : RunW R w' L K' x n d' s :=
  { inst := h.inst.fr' h2.fr (h.inst.typed.apart h.mach.typed (by decide))
    prog := h.prog.kept h2.fr (h.prog.typed.apart h.mach.typed (by decide))
    mach := h1
    host := R.H.fr h.host h2.fr ((R.H.typed h.host).apart h.mach.typed (by decide))
    fr := h.fr.trans h2.fr (fun j hj hS => .inr (.inr (.inl (h.subK j hj hS))))
    subI := h.subI
    subK := fun j hj hS => h.subK j hj (h2.sub j (Nat.lt_of_lt_of_le hj h.fr.size) hS)
    subH := h.subH }
/-- a step of the host -/
theorem RunW.ask (h : RunW R w L K x n d s) (h1 : R.H.Rep w' s') (h2 : Fr (R.H.S s) w w') (h3 : ∀ k, k < w.heap.size → R.H.S s' k → R.H.S s k) : RunW R w' L K x n d s' :=
  { inst := h.inst.fr' h2 (h.inst.typed.apart (R.H.typed h.host) (by decide))
    prog := h.prog.kept h2 (h.prog.typed.apart (R.H.typed h.host) (by decide))
    mach := h.mach.fr h2 (h.mach.typed.apart (R.H.typed h.host) (by decide))
    host := h1
    fr := h.fr.trans h2 (fun j hj hS => .inr (.inr (.inr (h.subH j hj hS))))
    subI := h.subI
    subK := h.subK
    subH := fun j hj hS => h.subH j hj (h3 j (Nat.lt_of_lt_of_le hj h.fr.size) hS) }
theorem RunW.fresh (h : RunW R w L K x n d s) (h2 : Fr (fun _ => False) w w') : RunW R w' L K x n d s :=
  { inst := h.inst.fresh h2
    prog := h.prog.fresh h2
    mach := h.mach.fresh h2
    host := R.H.fr h.host h2 (fun _ _ h => h)
    fr := h.fr.trans h2 (fun j hj hS => hS.elim)
    subI := h.subI
    subK := h.subK
    subH := h.subH }
/-- a block of the loop's own is written -/
theorem RunW.scratch (h : RunW R w L K x n d s) {bf : Nat} {cs : Array Value} (hb : Has w bf cs 176) (hp : ¬ PS R.bp R.LP bf) (h0 : R.w0.heap.size ≤ bf) (h2 : Fr (fun k => k = bf) w w') : RunW R w' L K x n d s :=
  { inst := h.inst.fr' h2 (fun j hj e => h.inst.typed.has hb (by decide) (e ▸ hj))
    prog := h.prog.kept h2 (fun j hj e => hp (e ▸ hj))
    mach := h.mach.fr h2 (fun j hj e => h.mach.typed.has hb (by decide) (e ▸ hj))
    host := R.H.fr h.host h2 (fun j hj e => (R.H.typed h.host).has hb (by decide) (e ▸ hj))
    fr := h.fr.trans h2 (fun j hj e => by omega)
    subI := h.subI
    subK := h.subK
    subH := h.subH }
theorem RunW.drew (h : RunW R w L K x n d s) : RunW R w.drew L K x n d s := h.fresh (Fr.refl _ w).drew
theorem RunW.drewN (h : RunW R w L K x n d s) (m : Nat) : RunW R (w.drewN m) L K x n d s := h.fresh ((Fr.refl _ w).drewN m)
theorem RunW.alloc (h : RunW R w L K x n d s) (o : Obj) : RunW R (w.alloc o) L K x n d s := h.fresh ((Fr.refl _ w).alloc o)
end
end Go.Proofs.Qxb6500575aGreatDoor
