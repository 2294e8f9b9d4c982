/-
  THE WORLD DURING A RUN OF THE MODEL: runm.Inst, prepm.Prog, the sources, the memory, a frame's locals. No walk.
-/
import Derived.Test.Qxb6500575aGreatDoorYAsk
import Derived.Test.Qxb6500575aGreatDoorYCut2
import Derived.Test.Qxb6500575aGreatDoorYGrow
namespace Go.Proofs.Qxb6500575aGreatDoor
open Go Go.RowKit
set_option linter.unusedVariables false
set_option linter.unusedSimpArgs false

abbrev tsN : List TypeId := [171, 70]
abbrev tsMK : List TypeId := [146, 5]
abbrev tsMP : List TypeId := [120, 125, 67, 176]
abbrev tsS : List TypeId := [30, 67]
/-- the blocks of a prepm.Prog -/
def MPS (bp : Nat) (L : MPL) (k : Nat) : Prop := k = bp ∨ (Value.slice L.fa 0 0).ownBlock = some k ∨ ∃ (f : Nat) (v : Value × Value), L.vs[f]? = some v ∧ (v.1.ownBlock = some k ∨ v.2.ownBlock = some k)
section
variable {S : Nat → Prop} {w w' : World} {bp : Nat} {L : MPL} {p : ProgD} {srcs : List (List Ins)}
theorem MProg.self (h : MProg S w bp L p srcs) : MProg (MPS bp L) w bp L p srcs :=
  { h with own := .inl rfl, ownF := fun g hg => .inr (.inl hg), ownV := fun f v hv k hk => .inr (.inr ⟨f, v, hv, hk⟩) }
theorem MProg.typed (h : MProg S w bp L p srcs) : Typed w (MPS bp L) tsMP := by
  rintro k (rfl | hk | ⟨f, v, hv, hk⟩)
  · exact ⟨_, _, h.here, by simp⟩
  · obtain ⟨cs, hcs⟩ := owns_typed h.row (by rw [ownBlock_any _ _ _ 0 0]; exact hk)
    exact ⟨cs, _, hcs, by simp⟩
  · obtain ⟨s, hs⟩ := h.has_src hv
    obtain ⟨c, hc⟩ := h.has_code hv
    rcases hk with hk | hk
    · obtain ⟨cs, hcs⟩ := owns_typed (h.src f v s hv hs) hk
      exact ⟨cs, _, hcs, by simp⟩
    · obtain ⟨cs, hcs⟩ := owns_typed (h.code f v c hv hc) hk
      exact ⟨cs, _, hcs, by simp⟩
end
/-- the sources of runm.Inst -/
structure SL where
  sa : Option Addr
  sc : Nat
  vs : List Value
structure SrcRep (w : World) (L : SL) (srcs : List (List Ins)) : Prop where
  row : w.ownsRow 0 30 1 (.slice L.sa srcs.length L.sc) srcs.length L.vs
  len : L.vs.length = srcs.length
  src : ∀ (f : Nat) v s, L.vs[f]? = some v → srcs[f]? = some s → (∃ a cap, v = .slice a s.length cap) ∧ w.ownsRow 0 67 3 v s.length (insCells s)
def SrcS (L : SL) (k : Nat) : Prop := (Value.slice L.sa 0 0).ownBlock = some k ∨ ∃ (f : Nat) (v : Value), L.vs[f]? = some v ∧ v.ownBlock = some k
section
variable {w w' : World} {L : SL} {srcs : List (List Ins)}
theorem SrcRep.typed (h : SrcRep w L srcs) : Typed w (SrcS L) tsS := by
  rintro k (hk | ⟨f, v, hv, hk⟩)
  · obtain ⟨cs, hcs⟩ := owns_typed h.row (by rw [ownBlock_any _ _ _ 0 0]; exact hk)
    exact ⟨cs, _, hcs, by simp⟩
  · have hl : f < srcs.length := by rw [← h.len]; exact (List.getElem?_eq_some_iff.1 hv).1
    obtain ⟨cs, hcs⟩ := owns_typed (h.src f v srcs[f] hv (List.getElem?_eq_getElem hl)).2 hk
    exact ⟨cs, _, hcs, by simp⟩
theorem SrcRep.fr (h : SrcRep w L srcs) {S' : Nat → Prop} (hf : Fr S' w w') (hd : ∀ k, SrcS L k → ¬ S' k) : SrcRep w' L srcs :=
  { row := owns_fr h.row hf (fun g hg => hd g (.inl (by rw [ownBlock_any]; exact hg)))
    len := h.len
    src := fun f v s hv hs => ⟨(h.src f v s hv hs).1, owns_fr (h.src f v s hv hs).2 hf (fun g hg => hd g (.inr ⟨f, v, hv, hg⟩))⟩ }
end
theorem NRep.typed {w : World} {bn : Nat} {q : NF} {L : NL} {x : ND} (h : NRep w bn q L x) : Typed w (NS bn L) tsN := by
  rintro k (rfl | hk)
  · exact ⟨_, _, h.here, by simp⟩
  · obtain ⟨cs, hcs⟩ := owns_typed h.st (by rw [ownBlock_any]; exact hk)
    exact ⟨cs, _, hcs, by simp⟩
theorem MKRep.typed {w : World} {bm : Nat} {L : ML} {mem : List UInt8} {max : Nat} (h : MKRep w bm L mem max) : Typed w (MKS bm L) tsMK := by
  rintro k (rfl | hk)
  · exact ⟨_, _, h.here, by simp⟩
  · obtain ⟨cs, hcs⟩ := owns_typed h.row (by rw [ownBlock_any]; exact hk)
    exact ⟨cs, _, hcs, by simp⟩
/-- what does not change during a run -/
structure MP where
  bn : Nat
  bpm : Nat
  bm : Nat
  LP : MPL
  P : ProgD
  psrcs : List (List Ins)
  LS : SL
  srcs : List (List Ins)
  max : Nat
abbrev MP.q (R : MP) : NF := ⟨.pointer (some ⟨R.bpm, 0, none⟩), .slice R.LS.sa R.srcs.length R.LS.sc, .pointer (some ⟨R.bm, 0, none⟩)⟩
structure MW (R : MP) (w : World) (L : NL) (K : ML) (m : MS) : Prop where
  inst : NRep w R.bn R.q L m.x
  prog : MProg (MPS R.bpm R.LP) w R.bpm R.LP R.P R.psrcs
  src : SrcRep w R.LS R.srcs
  mem : MKRep w R.bm K m.mem R.max
def MWS (R : MP) (L : NL) (K : ML) (k : Nat) : Prop := NS R.bn L k ∨ MKS R.bm K k
structure MStep (R : MP) (lv : Value) (w w' : World) (L L' : NL) (K K' : ML) : Prop where
  fr : Fr (fun k => MWS R L K k ∨ lv.ownBlock = some k) w w'
  subN : ∀ k, k < w.heap.size → NS R.bn L' k → NS R.bn L k
  subK : ∀ k, k < w.heap.size → MKS R.bm K' k → MKS R.bm K k
/-- a frame's locals -/
structure LocAt (R : MP) (w : World) (L : NL) (lv : Value) (loc : List V) : Prop where
  own : w.ownsRow 0 70 2 lv loc.length (stCells loc)
  ap : ∀ k, lv.ownBlock = some k → ¬ NS R.bn L k
section
variable {R : MP} {lv : Value} {w w1 w2 : World} {L L1 L2 : NL} {K K1 K2 : ML} {m : MS} {loc : List V}
theorem MStep.refl : MStep R lv w w L L K K := ⟨Fr.refl _ _, fun _ _ h => h, fun _ _ h => h⟩
theorem MStep.trans (h : MStep R lv w w1 L L1 K K1) (h' : MStep R lv w1 w2 L1 L2 K1 K2) : MStep R lv w w2 L L2 K K2 :=
  ⟨h.fr.trans h'.fr (fun k hk hS => by
    rcases hS with (hS | hS) | hS
    · exact .inl (.inl (h.subN k hk hS))
    · exact .inl (.inr (h.subK k hk hS))
    · exact .inr hS), fun k hk hS => h.subN k hk (h'.subN k (Nat.lt_of_lt_of_le hk h.fr.size) hS), fun k hk hS => h.subK k hk (h'.subK k (Nat.lt_of_lt_of_le hk h.fr.size) hS)⟩
theorem MStep.ofN (h : NStep w w1 R.bn L L1) : MStep R lv w w1 L L1 K K := ⟨h.fr.weaken (fun _ _ h => .inl (.inl h)), h.sub, fun _ _ h => h⟩
theorem MStep.ofK (h : MKStep w w1 R.bm K K1) : MStep R lv w w1 L L K K1 := ⟨h.fr.weaken (fun _ _ h => .inl (.inr h)), fun _ _ h => h, h.sub⟩
theorem MStep.fresh (h : Fr (fun _ => False) w w1) : MStep R lv w w1 L L K K := ⟨h.weaken (fun _ _ h => h.elim), fun _ _ h => h, fun _ _ h => h⟩
theorem MStep.any (h : MStep R (.slice none 0 0) w w1 L L1 K K1) : MStep R lv w w1 L L1 K K1 := ⟨h.fr.weaken (fun _ _ h => by
  rcases h with h | h
  · exact .inl h
  · simp [Value.ownBlock] at h), h.subN, h.subK⟩
theorem MW.stepN (h : MW R w L K m) {x' : ND} (h1 : NRep w1 R.bn R.q L1 x') (h2 : NStep w w1 R.bn L L1) : MW R w1 L1 K { m with x := x' } :=
  { inst := h1
    prog := h.prog.fr h2.fr (fun k _ hk => h.prog.typed.apart h.inst.typed (by decide) k hk)
    src := h.src.fr h2.fr (h.src.typed.apart h.inst.typed (by decide))
    mem := h.mem.fr h2.fr (h.mem.typed.apart h.inst.typed (by decide)) }
theorem MW.stepK (h : MW R w L K m) {mem' : List UInt8} (h1 : MKRep w1 R.bm K1 mem' R.max) (h2 : MKStep w w1 R.bm K K1) : MW R w1 L K1 { m with mem := mem' } :=
  { inst := h.inst.fr h2.fr (h.inst.typed.apart h.mem.typed (by decide))
    prog := h.prog.fr h2.fr (fun k _ hk => h.prog.typed.apart h.mem.typed (by decide) k hk)
    src := h.src.fr h2.fr (h.src.typed.apart h.mem.typed (by decide))
    mem := h1 }
theorem MW.fresh (h : MW R w L K m) (hf : Fr (fun _ => False) w w1) : MW R w1 L K m :=
  { inst := h.inst.fresh hf
    prog := h.prog.fresh hf
    src := h.src.fr hf (fun _ _ h => h)
    mem := h.mem.fresh hf }
/-- the locals' row is written -/
theorem MW.setLoc (h : MW R w L K m) (hl : LocAt R w L lv loc) (hf : Fr (fun k => lv.ownBlock = some k) w w1) : MW R w1 L K m := by
  have ht : Typed w (fun k => lv.ownBlock = some k) [70] := fun k hk => by
    obtain ⟨cs, hcs⟩ := owns_typed hl.own hk
    exact ⟨cs, _, hcs, by simp⟩
  exact { inst := h.inst.fr hf (fun j hj e => hl.ap j e hj)
          prog := h.prog.fr hf (fun k _ hk => h.prog.typed.apart ht (by decide) k hk)
          src := h.src.fr hf (h.src.typed.apart ht (by decide))
          mem := h.mem.fr hf (h.mem.typed.apart ht (by decide)) }
theorem LocAt.stepN (hl : LocAt R w L lv loc) (h2 : NStep w w1 R.bn L L1) : LocAt R w1 L1 lv loc :=
  ⟨owns_fr hl.own h2.fr (fun g hg => hl.ap g hg), fun k hk hS => hl.ap k hk (h2.sub k (owns_lt hl.own k hk) hS)⟩
theorem LocAt.step (hl : LocAt R w L lv loc) (h : MW R w L K m) (h2 : MStep R (.slice none 0 0) w w1 L L1 K K1) : LocAt R w1 L1 lv loc :=
  ⟨owns_fr hl.own h2.fr (fun g hg hS => by
    rcases hS with (hS | hS) | hS
    · exact hl.ap g hg hS
    · exact h.mem.typed.owns hl.own (by decide) g hg hS
    · simp [Value.ownBlock] at hS), fun k hk hS => hl.ap k hk (h2.subN k (owns_lt hl.own k hk) hS)⟩
theorem LocAt.stepK (hl : LocAt R w L lv loc) (h : MW R w L K m) (h2 : MKStep w w1 R.bm K K1) : LocAt R w1 L lv loc :=
  ⟨owns_fr hl.own h2.fr (fun g hg => h.mem.typed.owns hl.own (by decide) g hg), hl.ap⟩
theorem LocAt.fresh (hl : LocAt R w L lv loc) (hf : Fr (fun _ => False) w w1) : LocAt R w1 L lv loc := ⟨owns_fr hl.own hf (fun _ _ h => h), hl.ap⟩
end
/-- what the run leans on of the program -/
structure MOk (R : MP) : Prop where
  plen : R.P.funs.length ≤ 1000
  nimp : 0 ≤ R.P.nimp ∧ R.P.nimp ≤ 1000
  ps : ∀ u ∈ R.P.funs, u.params.length ≤ 3 ∧ u.results.length ≤ 1 ∧ u.locals.length ≤ 4 ∧ TyL u.results ∧ TyL u.locals
  slen : R.srcs.length ≤ 1000
  src : ∀ s ∈ R.srcs, s.length ≤ 1000
def HostOk (R : MP) (H : HF HS) (m : MS) : Prop := (m.x.host = false ∧ H = noHost) ∨ (m.x.host = true ∧ H = hostF R.P tapeAsk)
/-- what a run of the model comes to; lv: the frame's locals -/
def RunPost (R : MP) (H : HF HS) (lv : Value) (o : Ot) (w : World) (L : NL) (K : ML) (e : Ending) (w' : World) : Prop :=
  ∃ L' K', e = .returned (.tuple #[.int .i64 o.br, .int .i64 o.e]) ∧ (-9223372036854775808 ≤ o.br ∧ o.br < 9223372036854775808) ∧ HostOk R H o.m ∧ MW R w' L' K' o.m ∧ LocAt R w' L' lv o.loc ∧ MStep R lv w w' L L' K K'
/-- invoke -/
def InvPost (R : MP) (H : HF HS) (o : Ot) (w : World) (L : NL) (K : ML) (e : Ending) (w' : World) : Prop :=
  ∃ L' K', e = .returned (.int .i64 o.e) ∧ HostOk R H o.m ∧ MW R w' L' K' o.m ∧ MStep R (.slice none 0 0) w w' L L' K K'
end Go.Proofs.Qxb6500575aGreatDoor
