/-
  What lies between two operations of a script, both sides.
-/
import Derived.Test.Qxb6500575aGreatDoorSDo
import Derived.Test.Qxb6500575aGreatDoorSArgs
import Derived.Test.Qxb6500575aGreatDoorSCopy
import Derived.Test.Qxb6500575aGreatDoorSGround
namespace Go.Proofs.Qxb6500575aGreatDoor
open Go Go.RowKit
set_option linter.unusedVariables false
set_option linter.unusedSimpArgs false

/-- the model's side, beside a RX -/
structure MX (w0 w : World) (Y : LayR) (M : MP) (L : NL) (K : ML) (mm : MS) : Prop where
  mw : MW M w L K mm
  newN : ∀ k, NS M.bn L k → w0.heap.size ≤ k ∧ ¬ Y.S k
  newQ : ∀ k, MPS M.bpm M.LP k → w0.heap.size ≤ k ∧ ¬ Y.S k
  newC : ∀ k, SrcS M.LS k → w0.heap.size ≤ k ∧ ¬ Y.S k
  newM : ∀ k, MKS M.bm K k → w0.heap.size ≤ k ∧ ¬ Y.S k
  apK : ∀ k, MKS M.bm K k → ¬ KS Y.bk Y.KK k
  apA : ∀ k, (Value.slice Y.aa 0 0).ownBlock = some k → ¬ NS M.bn L k
section
variable {w0 w w' : World} {Y : LayR} {M : MP} {L : NL} {K : ML} {mm : MS} {x : BelD} {m : ModD} {n : Int} {d : KD} {hi : Int} {args : List BV}
theorem MX.ltN (h : MX w0 w Y M L K mm) {k : Nat} (hk : NS M.bn L k) : k < w.heap.size := h.mw.inst.lt hk
theorem MX.ltQ (h : MX w0 w Y M L K mm) {k : Nat} (hk : MPS M.bpm M.LP k) : k < w.heap.size := by
  obtain ⟨cs, t, h1, _⟩ := h.mw.prog.typed k hk
  exact h1.lt
theorem MX.ltC (h : MX w0 w Y M L K mm) {k : Nat} (hk : SrcS M.LS k) : k < w.heap.size := by
  obtain ⟨cs, t, h1, _⟩ := h.mw.src.typed k hk
  exact h1.lt
theorem MX.ltM (h : MX w0 w Y M L K mm) {k : Nat} (hk : MKS M.bm K k) : k < w.heap.size := by
  obtain ⟨cs, t, h1, _⟩ := h.mw.mem.typed k hk
  exact h1.lt
/-- a world in which none of the model's blocks has changed -/
theorem MX.fr (h : MX w0 w Y M L K mm) {S : Nat → Prop} (hf : Fr S w w') (h1 : ∀ k, NS M.bn L k → ¬ S k) (h2 : ∀ k, MPS M.bpm M.LP k → ¬ S k) (h3 : ∀ k, SrcS M.LS k → ¬ S k) (h4 : ∀ k, MKS M.bm K k → ¬ S k) : MW M w' L K mm :=
  ⟨h.mw.inst.fr hf h1, h.mw.prog.fr hf (fun k _ hk => h2 k hk), h.mw.src.fr hf h3, h.mw.mem.fr hf h4⟩
theorem MX.fresh (h : MX w0 w Y M L K mm) (hf : Fr (fun _ => False) w w') : MX w0 w' Y M L K mm := { h with mw := h.mw.fresh hf }
/-- Build -/
theorem MX.built (h : MX w0 w Y M L K mm) (hx : RX w0 w Y x m n d hi args) {r : BelD × Int} {e : Ending} (hb : BuildPost Y.q Y.S w Y.bb r e w') {Kb : BelL} : MX w0 w' { Y with S := Own Y.S w w', Kb := Kb } M L K mm := by
  obtain ⟨_, _, b2⟩ := hb
  have key : ∀ k, k < w.heap.size → ¬ Y.S k → ¬ Own Y.S w w' k := fun k hk hS hO => by
    rcases hO with hO | hO
    · exact hS hO
    · omega
  exact ⟨h.fr b2 (fun k hk => (h.newN k hk).2) (fun k hk => (h.newQ k hk).2) (fun k hk => (h.newC k hk).2) (fun k hk => (h.newM k hk).2),
    fun k hk => ⟨(h.newN k hk).1, key k (h.ltN hk) (h.newN k hk).2⟩, fun k hk => ⟨(h.newQ k hk).1, key k (h.ltQ hk) (h.newQ k hk).2⟩, fun k hk => ⟨(h.newC k hk).1, key k (h.ltC hk) (h.newC k hk).2⟩, fun k hk => ⟨(h.newM k hk).1, key k (h.ltM hk) (h.newM k hk).2⟩, h.apK, h.apA⟩
/-- the real program's counter is written -/
theorem MX.steps (h : MX w0 w Y M L K mm) (hx : RX w0 w Y x m n d hi args) (h2 : Fr (fun k => k = Y.bp) w w') : MX w0 w' Y M L K mm := by
  have hb : Typed w (fun k => k = Y.bp) [101] := fun k e => by subst e; exact ⟨_, _, hx.prog.funs.here, by simp⟩
  exact { h with mw := h.fr h2 (h.mw.inst.typed.apart hb (by decide)) (h.mw.prog.typed.apart hb (by decide)) (h.mw.src.typed.apart hb (by decide)) (h.mw.mem.typed.apart hb (by decide)) }
/-- an answer is written -/
theorem MX.ansPut (h : MX w0 w Y M L K mm) {b : Nat} {cs : Array Value} (hb : Has w b cs 46) (hf : Fr (fun k => k = b) w w') : MX w0 w' Y M L K mm := by
  have ht : Typed w (fun k => k = b) [46] := fun k e => by subst e; exact ⟨_, _, hb, by simp⟩
  exact { h with mw := h.fr hf (h.mw.inst.typed.apart ht (by decide)) (h.mw.prog.typed.apart ht (by decide)) (h.mw.src.typed.apart ht (by decide)) (h.mw.mem.typed.apart ht (by decide)) }
theorem MX.argsNil (h : MX w0 w Y M L K mm) : MX w0 w { Y with aa := none, ac := 0 } M L K mm := { h with apA := fun k hk => by cases hk }
theorem MX.argsTo (h : MX w0 w Y M L K mm) (hx : RX w0 w Y x m n d hi args) {aa' : Option Addr} {ac' : Nat} (hf : Fr (fun k => (Value.slice Y.aa 0 0).ownBlock = some k) w w')
    (ha : ∀ k, (Value.slice aa' 0 0).ownBlock = some k → (Value.slice Y.aa 0 0).ownBlock = some k ∨ w.heap.size ≤ k) : MX w0 w' { Y with aa := aa', ac := ac' } M L K mm := by
  have ht : Typed w (fun k => (Value.slice Y.aa 0 0).ownBlock = some k) [70] := fun k hk => by
    obtain ⟨cs, hcs⟩ := owns_typed hx.row (by rw [ownBlock_any _ _ _ 0 0]; exact hk)
    exact ⟨cs, _, hcs, by simp⟩
  exact { h with
    mw := h.fr hf (fun k hk e => h.apA k e hk) (h.mw.prog.typed.apart ht (by decide)) (h.mw.src.typed.apart ht (by decide)) (h.mw.mem.typed.apart ht (by decide))
    apA := fun k hk hS => by
      rcases ha k hk with h1 | h1
      · exact h.apA k h1 hS
      · have := h.ltN hS; omega }
/-- a call of the real side -/
theorem MX.called (h : MX w0 w Y M L K mm) (hx : RX w0 w Y x m n d hi args) {L' : InL} {K' : KL} (hf : Fr (fun k => InS Y.bx Y.L k ∨ k = Y.bp ∨ KS Y.bk Y.KK k) w w') (hk : ∀ k, k < w.heap.size → KS Y.bk K' k → KS Y.bk Y.KK k) : MX w0 w' { Y with L := L', KK := K' } M L K mm := by
  have hb : Typed w (fun k => k = Y.bp) [101] := fun k e => by subst e; exact ⟨_, _, hx.prog.funs.here, by simp⟩
  refine { h with
    mw := h.fr hf (fun k hS e => ?_) (fun k hS e => ?_) (fun k hS e => ?_) (fun k hS e => ?_)
    apK := fun k hS hK => h.apK k hS (hk k (h.ltM hS) hK) }
  · rcases e with e | e | e
    · exact h.mw.inst.typed.apart hx.inst.typed (by decide) k hS e
    · exact h.mw.inst.typed.apart hb (by decide) k hS e
    · exact h.mw.inst.typed.apart hx.mach.typed (by decide) k hS e
  · rcases e with e | e | e
    · exact h.mw.prog.typed.apart hx.inst.typed (by decide) k hS e
    · exact h.mw.prog.typed.apart hb (by decide) k hS e
    · exact h.mw.prog.typed.apart hx.mach.typed (by decide) k hS e
  · rcases e with e | e | e
    · exact h.mw.src.typed.apart hx.inst.typed (by decide) k hS e
    · exact h.mw.src.typed.apart hb (by decide) k hS e
    · exact h.mw.src.typed.apart hx.mach.typed (by decide) k hS e
  · rcases e with e | e | e
    · exact h.mw.mem.typed.apart hx.inst.typed (by decide) k hS e
    · exact h.mw.mem.typed.apart hb (by decide) k hS e
    · exact h.apK k hS e
/-- the real side, over a step of the model -/
theorem RX.model (hx : RX w0 w Y x m n d hi args) (h : MX w0 w Y M L K mm) {L' : NL} {K' : ML} (hs : MStep M (.slice none 0 0) w w' L L' K K') : RX w0 w' Y x m n d hi args := by
  have hf : Fr (fun k => NS M.bn L k ∨ MKS M.bm K k) w w' := hs.fr.weaken (fun k _ hS => by
    rcases hS with (hS | hS) | hS
    · exact .inl hS
    · exact .inr hS
    · cases hS)
  exact
    { hx with
      bel := hx.bel.fr hf (fun k hk e => by
        rcases e with e | e
        · exact (h.newN k e).2 hk
        · exact (h.newM k e).2 hk)
      prog := hx.prog.kept hf (fun k hk e => by
        rcases e with e | e
        · exact hx.prog.typed.apart h.mw.inst.typed (by decide) k hk e
        · exact hx.prog.typed.apart h.mw.mem.typed (by decide) k hk e)
      mach := hx.mach.fr hf (fun k hk e => by
        rcases e with e | e
        · exact hx.mach.typed.apart h.mw.inst.typed (by decide) k hk e
        · exact h.apK k e hk)
      inst := hx.inst.fr' hf (fun k hk e => by
        rcases e with e | e
        · exact hx.inst.typed.apart h.mw.inst.typed (by decide) k hk e
        · exact hx.inst.typed.apart h.mw.mem.typed (by decide) k hk e)
      row := owns_fr hx.row hf (fun k hk e => by
        rcases e with e | e
        · exact h.apA k (by rw [ownBlock_any _ _ _ args.length Y.ac]; exact hk) e
        · exact h.mw.mem.typed.owns hx.row (by decide) k hk e)
      newS := fun k hk => ⟨(hx.newS k hk).1, by have := (hx.newS k hk).2; have := hf.size; omega⟩
      side := fun p hp => ⟨(hx.side p hp).1.fr hf (fun e => by
        rcases e with e | e
        · exact hx.sideOff hp h.mw.inst.typed (by decide) (by decide) e
        · exact hx.sideOff hp h.mw.mem.typed (by decide) (by decide) e), (hx.side p hp).2⟩
      fr := hx.fr.trans hf (fun k hk e => by
        rcases e with e | e
        · have := (h.newN k e).1; omega
        · have := (h.newM k e).1; omega) }
/-- the model's side, over its own step -/
theorem MX.stepped (h : MX w0 w Y M L K mm) (hx : RX w0 w Y x m n d hi args) {L' : NL} {K' : ML} {mm' : MS} (hm : MW M w' L' K' mm') (hs : MStep M (.slice none 0 0) w w' L L' K K') : MX w0 w' Y M L' K' mm' := by
  have q0 := hx.fr.size
  refine ⟨hm, fun k hk => ?_, h.newQ, h.newC, fun k hk => ?_, fun k hk hK => ?_, fun k hk hS => ?_⟩
  · by_cases hlt : k < w.heap.size
    · exact h.newN k (hs.subN k hlt hk)
    · exact ⟨by omega, fun hS => by have := (hx.newS k hS).2; omega⟩
  · by_cases hlt : k < w.heap.size
    · exact h.newM k (hs.subK k hlt hk)
    · exact ⟨by omega, fun hS => by have := (hx.newS k hS).2; omega⟩
  · have hlt := hx.ltK hK
    exact h.apK k (hs.subK k hlt hk) hK
  · have hlt := hx.ltA hk
    exact h.apA k hk (hs.subN k hlt hS)
end
end Go.Proofs.Qxb6500575aGreatDoor
