/-
  THE STATE of preplaw.walk between its steps: real and model, the two grounds, apart from each other, all of them new.
-/
import Derived.Test.Qxb6500576aGreatDoorLawM6
import Derived.Test.Qxb6500576aGreatDoorKeepsS0
namespace Go.Proofs.Qxb6500576aGreatDoor
open Go Go.RowKit
set_option linter.unusedVariables false
set_option linter.unusedSimpArgs false

structure RX (w0 wr : World) (bp bq bb bc : Nat) (p q : ProgD) (Xb Xc : BelD) (Sp : Nat → Prop) (Lp : ProgL) (Sb : Nat → Prop) (Kb : BelL) (Sc : Nat → Prop) (Kc : BelL) (Sm : Nat → Prop) (Lm : MPL) (srcs : List (List Ins)) : Prop where
  kx : KX w0 wr bp bb bc p Xb Xc Sp Lp Sb Kb Sc Kc
  mp : MProg Sm wr bq Lm q srcs
  rm : ∀ k, Sm k → w0.heap.size ≤ k ∧ k < wr.heap.size
  md : ∀ k, Sm k → ¬ Sp k
  mb : ∀ k, Sm k → ¬ Sb k
  mc : ∀ k, Sm k → ¬ Sc k
section
variable {w0 wr w' : World} {bp bq bb bc : Nat} {p q : ProgD} {Xb Xc : BelD} {Sp : Nat → Prop} {Lp : ProgL} {Sb : Nat → Prop} {Kb : BelL} {Sc : Nat → Prop} {Kc : BelL} {Sm : Nat → Prop} {Lm : MPL} {srcs : List (List Ins)}
theorem RX.fresh (h : RX w0 wr bp bq bb bc p q Xb Xc Sp Lp Sb Kb Sc Kc Sm Lm srcs) (hf : Fr (fun _ => False) wr w') : RX w0 w' bp bq bb bc p q Xb Xc Sp Lp Sb Kb Sc Kc Sm Lm srcs :=
  ⟨h.kx.fresh hf, h.mp.fresh hf, fun k hk => ⟨(h.rm k hk).1, by have := (h.rm k hk).2; have := hf.size; omega⟩, h.md, h.mb, h.mc⟩
theorem RX.bldB (h : RX w0 wr bp bq bb bc p q Xb Xc Sp Lp Sb Kb Sc Kc Sm Lm srcs) {r : BelD × Int} {e : Ending} (hp : BuildPost Sb wr bb r e w') : ∃ Sb' Kb', RX w0 w' bp bq bb bc p q r.1 Xc Sp Lp Sb' Kb' Sc Kc Sm Lm srcs ∧ (∀ k, Sb' k → Sb k ∨ wr.heap.size ≤ k) := by
  obtain ⟨_, ⟨K', hK⟩, hF⟩ := hp
  have hs := hF.size
  have h0 := h.kx.fr.size
  refine ⟨Own Sb wr w', K', ⟨?_, h.mp.fr hF (fun k _ hk => h.mb k hk), fun k hk => ⟨(h.rm k hk).1, by have := (h.rm k hk).2; omega⟩, h.md, ?_, h.mc⟩, ?_⟩
  · exact {
      prog := h.kx.prog.fr hF (fun k _ hk => h.kx.pb k hk)
      b := hK
      c := h.kx.c.fr hF (fun k hk hk' => h.kx.bc k hk' hk)
      rp := fun k hk => ⟨(h.kx.rp k hk).1, by have := (h.kx.rp k hk).2; omega⟩
      rb := fun k hk => by
        rcases hk with hk | ⟨a, b⟩
        · exact ⟨(h.kx.rb k hk).1, by have := (h.kx.rb k hk).2; omega⟩
        · exact ⟨by omega, b⟩
      rc := fun k hk => ⟨(h.kx.rc k hk).1, by have := (h.kx.rc k hk).2; omega⟩
      pb := fun k hk hk' => by
        rcases hk' with hk' | ⟨a, b⟩
        · exact h.kx.pb k hk hk'
        · have := (h.kx.rp k hk).2; omega
      pc := h.kx.pc
      bc := fun k hk hk' => by
        rcases hk with hk | ⟨a, b⟩
        · exact h.kx.bc k hk hk'
        · have := (h.kx.rc k hk').2; omega
      fr := h.kx.fr.trans hF (fun j hj hk => by have := (h.kx.rb j hk).1; omega) }
  · intro k hk hk'
    rcases hk' with hk' | ⟨a, b⟩
    · exact h.mb k hk hk'
    · have := (h.rm k hk).2; omega
  · rintro k (hk | ⟨a, b⟩)
    · exact .inl hk
    · exact .inr a
theorem RX.bldC (h : RX w0 wr bp bq bb bc p q Xb Xc Sp Lp Sb Kb Sc Kc Sm Lm srcs) {r : BelD × Int} {e : Ending} (hp : BuildPost Sc wr bc r e w') : ∃ Sc' Kc', RX w0 w' bp bq bb bc p q Xb r.1 Sp Lp Sb Kb Sc' Kc' Sm Lm srcs ∧ (∀ k, Sc' k → Sc k ∨ wr.heap.size ≤ k) := by
  obtain ⟨_, ⟨K', hK⟩, hF⟩ := hp
  have hs := hF.size
  have h0 := h.kx.fr.size
  refine ⟨Own Sc wr w', K', ⟨?_, h.mp.fr hF (fun k _ hk => h.mc k hk), fun k hk => ⟨(h.rm k hk).1, by have := (h.rm k hk).2; omega⟩, h.md, h.mb, ?_⟩, ?_⟩
  · exact {
      prog := h.kx.prog.fr hF (fun k _ hk => h.kx.pc k hk)
      b := h.kx.b.fr hF (fun k hk hk' => h.kx.bc k hk hk')
      c := hK
      rp := fun k hk => ⟨(h.kx.rp k hk).1, by have := (h.kx.rp k hk).2; omega⟩
      rb := fun k hk => ⟨(h.kx.rb k hk).1, by have := (h.kx.rb k hk).2; omega⟩
      rc := fun k hk => by
        rcases hk with hk | ⟨a, b⟩
        · exact ⟨(h.kx.rc k hk).1, by have := (h.kx.rc k hk).2; omega⟩
        · exact ⟨by omega, b⟩
      pb := h.kx.pb
      pc := fun k hk hk' => by
        rcases hk' with hk' | ⟨a, b⟩
        · exact h.kx.pc k hk hk'
        · have := (h.kx.rp k hk).2; omega
      bc := fun k hk hk' => by
        rcases hk' with hk' | ⟨a, b⟩
        · exact h.kx.bc k hk hk'
        · have := (h.kx.rb k hk).2; omega
      fr := h.kx.fr.trans hF (fun j hj hk => by have := (h.kx.rc j hk).1; omega) }
  · intro k hk hk'
    rcases hk' with hk' | ⟨a, b⟩
    · exact h.mc k hk hk'
    · have := (h.rm k hk).2; omega
  · rintro k (hk | ⟨a, b⟩)
    · exact .inl hk
    · exact .inr a
theorem RX.doo (h : RX w0 wr bp bq bb bc p q Xb Xc Sp Lp Sb Kb Sc Kc Sm Lm srcs) {r : ProgD × AnsD} {e : Ending} (hp : DoPost Sp wr bp r e w') : ∃ bp' Lp' Sp', e = .returned (.tuple #[.pointer (some ⟨bp', 0, none⟩), r.2.val]) ∧ RX w0 w' bp' bq bb bc r.1 q Xb Xc Sp' Lp' Sb Kb Sc Kc Sm Lm srcs ∧ (∀ k, Sp' k → Sp k ∨ wr.heap.size ≤ k) := by
  have hF := hp.fr
  obtain ⟨bp', Lp', Sp', he, hK, hS⟩ := h.kx.doo hp
  have hs := hF.size
  refine ⟨bp', Lp', Sp', he, ⟨hK, h.mp.fr hF (fun k _ hk e => by subst e; exact h.md _ hk h.kx.prog.own), fun k hk => ⟨(h.rm k hk).1, by have := (h.rm k hk).2; omega⟩, ?_, h.mb, h.mc⟩, hS⟩
  intro k hk hk'
  rcases hS k hk' with h1 | h1
  · exact h.md k hk h1
  · have := (h.rm k hk).2; omega
theorem RX.dom (h : RX w0 wr bp bq bb bc p q Xb Xc Sp Lp Sb Kb Sc Kc Sm Lm srcs) {r : ProgD × AnsD} {e : Ending} (hp : DoMPost Sm wr bq r e w') : ∃ bq' Lm' Sm' srcs', e = .returned (.tuple #[.pointer (some ⟨bq', 0, none⟩), r.2.val]) ∧ RX w0 w' bp bq' bb bc p r.1 Xb Xc Sp Lp Sb Kb Sc Kc Sm' Lm' srcs' ∧ (∀ k, Sm' k → Sm k ∨ wr.heap.size ≤ k) := by
  obtain ⟨bq', Lm', Sm', srcs', he, hM, hS⟩ := hp.out
  have hF := hp.fr
  have hs := hF.size
  have h0 := h.kx.fr.size
  have hq := h.mp.own
  have kx : KX w0 w' bp bb bc p Xb Xc Sp Lp Sb Kb Sc Kc := h.kx.other hF (h.rm bq hq).1 (h.md bq hq) (h.mb bq hq) (h.mc bq hq)
  refine ⟨bq', Lm', Sm', srcs', he, ⟨kx, hM, fun k hk => ?_, ?_, ?_, ?_⟩, fun k hk => (hS k hk).1⟩
  · obtain ⟨a, b⟩ := hS k hk
    rcases a with a | a
    · exact ⟨(h.rm k a).1, b⟩
    · exact ⟨by omega, b⟩
  · intro k hk hk'
    rcases (hS k hk).1 with a | a
    · exact h.md k a hk'
    · have := (h.kx.rp k hk').2; omega
  · intro k hk hk'
    rcases (hS k hk).1 with a | a
    · exact h.mb k a hk'
    · have := (h.kx.rb k hk').2; omega
  · intro k hk hk'
    rcases (hS k hk).1 with a | a
    · exact h.mc k a hk'
    · have := (h.kx.rc k hk').2; omega
/-- a block that is none of theirs -/
theorem RX.other (h : RX w0 wr bp bq bb bc p q Xb Xc Sp Lp Sb Kb Sc Kc Sm Lm srcs) {x : Nat} (hf : Fr (fun k => k = x) wr w') (hx0 : w0.heap.size ≤ x) (hp : ¬ Sp x) (hb : ¬ Sb x) (hc : ¬ Sc x) (hm : ¬ Sm x) : RX w0 w' bp bq bb bc p q Xb Xc Sp Lp Sb Kb Sc Kc Sm Lm srcs :=
  ⟨h.kx.other hf hx0 hp hb hc, h.mp.fr hf (fun k _ hk e => by subst e; exact hm hk), fun k hk => ⟨(h.rm k hk).1, by have := (h.rm k hk).2; have := hf.size; omega⟩, h.md, h.mb, h.mc⟩
end
/-- between two steps -/
structure RS (w0 wr : World) (bp bq bb bc : Nat) (p : ProgD) (X : BelD) (i : Nat) : Prop where
  ex : ∃ Sp Lp Sb Kb Sc Kc Sm Lm srcs, RX w0 wr bp bq bb bc p p X X Sp Lp Sb Kb Sc Kc Sm Lm srcs
  ok : ProgOk p
  st : p.steps ≤ 1000 + i
  good : BelGood X
  typ : ModTyped X.m
theorem ProgOk.set {p : ProgD} (h : ProgOk p) {s : Int} (h0 : 0 ≤ s) (h1 : s ≤ 1000000000000000) : ProgOk { p with steps := s } := by
  obtain ⟨k, hk⟩ := h.ck
  exact ⟨⟨h.sh.nf, h.sh.nc, h.sh.np⟩, ⟨k, ⟨hk.1, hk.2, hk.3, hk.4, hk.5, hk.6⟩⟩, h0, h1⟩
theorem doP_ok {p : ProgD} {m : ModD} {o : OpD} (h : ProgOk p) (hm : ModGood m) {i : Nat} (hst : p.steps ≤ 1000 + i) (hi : (i : Int) ≤ 4398046511104) : ProgOk (doP p m o).1 ∧ (doP p m o).1.steps ≤ 1000 + ((i + 1 : Nat) : Int) := by
  have hs0 := h.s0
  have same : ProgOk p ∧ p.steps ≤ 1000 + ((i + 1 : Nat) : Int) := ⟨h, by omega⟩
  unfold doP
  split
  · split
    · rename_i hl
      refine ⟨prog_ok hm hl 0 (by decide) (by decide), ?_⟩
      show (0 : Int) ≤ _
      omega
    · exact same
  split
  · exact same
  split
  · exact same
  split
  · exact ⟨h.set (by omega) (by omega), by show p.steps + 1 ≤ _; omega⟩
  split
  · exact same
  split
  · exact ⟨h.set (by omega) (by omega), by show (0 : Int) ≤ _; omega⟩
  split
  · exact same
  split
  · exact same
  · exact same
end Go.Proofs.Qxb6500576aGreatDoor
