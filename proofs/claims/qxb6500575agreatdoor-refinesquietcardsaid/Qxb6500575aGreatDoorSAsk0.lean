/-
  run.ask: what it leans on. No walk.
-/
import Derived.Test.Qxb6500575aGreatDoorSLoopK
import Derived.Test.Qxb6500575aGreatDoorRFits
import Derived.Test.Qxb6500575aGreatDoorRVals
namespace Go.Proofs.Qxb6500575aGreatDoor
open Go Go.RowKit
set_option linter.unusedVariables false
set_option linter.unusedSimpArgs false

variable {σ : Type}
section
variable {R : RP σ} {w w' : World} {L : InL} {K : KL} {x : InD} {n : Int} {d : KD} {s s' : σ}
theorem HostL.lt (H : HostL σ) (h : H.Rep w s) {k : Nat} (hk : H.S s k) : k < w.heap.size := by
  obtain ⟨cs, t, h1, _⟩ := H.typed h k hk
  exact h1.lt
/-- a row of arguments, which is nobody's yet, is written -/
theorem RunW.args (h : RunW R w L K x n d s) {g : Nat} {cs : Array Value} (hb : Has w g cs 70) (hs : ¬ R.H.S s g) (h0 : R.w0.heap.size ≤ g) (h2 : Fr (fun k => k = g) w w') : RunW R w' L K x n d s :=
  { inst := h.inst.fr' h2 (fun j hj e => h.inst.typed.has hb (by decide) (e ▸ hj))
    prog := h.prog.kept h2 (fun j hj e => h.prog.typed.has hb (by decide) (e ▸ hj))
    mach := h.mach.fr h2 (fun j hj e => h.mach.typed.has hb (by decide) (e ▸ hj))
    host := R.H.fr h.host h2 (fun j hj e => hs (e ▸ hj))
    fr := h.fr.trans h2 (fun j hj e => by omega)
    subI := h.subI
    subK := h.subK
    subH := h.subH }
/-- the host has been asked: it keeps the arguments -/
theorem RunW.asked (h : RunW R w L K x n d s) (h1 : R.H.Rep w' s') {va : Value} {m : Nat} {xs : List Value} (hv : w.ownsRow 0 70 2 va m xs) (h0 : ∀ g, va.ownBlock = some g → R.w0.heap.size ≤ g)
    (h2 : Fr (fun k => R.H.S s k ∨ va.ownBlock = some k) w w') (h3 : ∀ k, k < w.heap.size → R.H.S s' k → R.H.S s k ∨ va.ownBlock = some k) : RunW R w' L K x n d s' := by
  have ht : Typed w (fun k => R.H.S s k ∨ va.ownBlock = some k) tsH := by
    rintro k (hk | hk)
    · exact R.H.typed h.host k hk
    · obtain ⟨cs, hcs⟩ := owns_typed hv hk
      exact ⟨cs, _, hcs, by simp⟩
  exact { inst := h.inst.fr' h2 (h.inst.typed.apart ht (by decide))
          prog := h.prog.kept h2 (h.prog.typed.apart ht (by decide))
          mach := h.mach.fr h2 (h.mach.typed.apart ht (by decide))
          host := h1
          fr := h.fr.trans h2 (fun j hj hS => by
            rcases hS with hS | hS
            · exact .inr (.inr (.inr (h.subH j hj hS)))
            · have := h0 j hS
              omega)
          subI := h.subI
          subK := h.subK
          subH := fun j hj hS => by
            rcases h3 j (Nat.lt_of_lt_of_le hj h.fr.size) hS with h4 | h4
            · exact h.subH j hj h4
            · have := h0 j h4
              omega }
/-- an error of a host -/
def ErrV (er : Value) : Prop := (∃ n, er = .iface 40 (.int .i64 n)) ∨ er = .iface 286 (.agg #[]) ∨ er = .iface 288 (.agg #[.iface 40 (.int .i64 11)])
/-- .. and the trap that it is to come to -/
def ErrX (er : Value) (t : Int) : Prop := (∃ n, er = .iface 40 (.int .i64 n) ∧ ((11 ≤ n ∧ n < 18 ∧ t = n) ∨ (¬ (11 ≤ n ∧ n < 18) ∧ t = 15))) ∨ ((er = .iface 286 (.agg #[]) ∨ er = .iface 288 (.agg #[.iface 40 (.int .i64 11)])) ∧ t = 15)
/-- what a host answers: values, or an error -/
def HostX (a : List BV × Int) (e : Ending) (w' : World) : Prop :=
  (a.2 = 0 ∧ ∃ v, e = .returned (.tuple #[v, .nilIface]) ∧ a.1.length ≤ 2 ∧ (∀ b ∈ a.1, I64 b.v) ∧ w'.ownsRow 0 70 2 v a.1.length (bvCells a.1)) ∨ (a.2 ≠ 0 ∧ ∃ er, e = .returned (.tuple #[.slice none 0 0, er]) ∧ ErrX er a.2)
theorem HostX.val {a : List BV × Int} {bs : List BV} {v : Value} {w' : World} (h : a = (bs, 0)) (h1 : bs.length ≤ 2) (h2 : ∀ b ∈ bs, I64 b.v) (h3 : w'.ownsRow 0 70 2 v bs.length (bvCells bs)) : HostX a (.returned (.tuple #[v, .nilIface])) w' := by
  subst h
  exact .inl ⟨rfl, v, rfl, h1, h2, h3⟩
theorem HostX.err {a : List BV × Int} {bs : List BV} {t : Int} {er : Value} {w' : World} (h : a = (bs, t)) (h0 : t ≠ 0) (hx : ErrX er t) : HostX a (.returned (.tuple #[.slice none 0 0, er])) w' := by
  subst h
  exact .inr ⟨h0, er, rfl, hx⟩
/-- what a host answers -/
def HostAns (e : Ending) (w' : World) : Prop :=
  (∃ v bs, e = .returned (.tuple #[v, .nilIface]) ∧ bs.length ≤ 2 ∧ (∀ b ∈ bs, I64 b.v) ∧ w'.ownsRow 0 70 2 v bs.length (bvCells bs)) ∨ (∃ er, e = .returned (.tuple #[.slice none 0 0, er]) ∧ ErrV er)
/-- the host: a *Tape, asked: as ask says -/
def AnswX {τ : Type} (sem : σ → τ) (ask : τ → Int → List BV → τ × (List BV × Int)) (R : RP σ) (hv : Value) : Prop := ∀ {w : World} {L : InL} {K : KL} {x : InD} {n : Int} {d : KD} {s : σ} (imp : Int) (args : List BV) (aa : Option Addr) (ac : Nat), RunW R w L K x n d s → args.length ≤ 3 → w.ownsRow 0 70 2 (.slice aa args.length ac) args.length (bvCells args) → (∀ g, (Value.slice aa args.length ac).ownBlock = some g → R.w0.heap.size ≤ g ∧ ¬ R.H.S s g) →
  Calls Tryz.prog 180 #[hv, .int .i64 imp, .slice aa args.length ac] w fun e w' => ∃ s', RunW R w' L K x n d s' ∧ sem s' = (ask (sem s) imp args).1 ∧ HostX (ask (sem s) imp args).2 e w'
end
end Go.Proofs.Qxb6500575aGreatDoor
