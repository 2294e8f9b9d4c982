/-
  THE Prog and the two grounds, apart from each other, all of them new; the script.
-/
import Derived.Test.Qxb6500576aGreatDoorLaw5
import Derived.Test.Qxb6500576aGreatDoorBuild
namespace Go.Proofs.Qxb6500576aGreatDoor
open Go Go.RowKit
set_option linter.unusedVariables false
set_option linter.unusedSimpArgs false

structure KX (w0 wr : World) (bp bb bc : Nat) (p : ProgD) (Xb Xc : BelD) (Sp : Nat → Prop) (Lp : ProgL) (Sb : Nat → Prop) (Kb : BelL) (Sc : Nat → Prop) (Kc : BelL) : Prop where
  prog : ProgRep Sp wr bp Lp p
  b : BelRep Sb wr bb Kb Xb
  c : BelRep Sc wr bc Kc Xc
  rp : ∀ k, Sp k → w0.heap.size ≤ k ∧ k < wr.heap.size
  rb : ∀ k, Sb k → w0.heap.size ≤ k ∧ k < wr.heap.size
  rc : ∀ k, Sc k → w0.heap.size ≤ k ∧ k < wr.heap.size
  pb : ∀ k, Sp k → ¬ Sb k
  pc : ∀ k, Sp k → ¬ Sc k
  bc : ∀ k, Sb k → ¬ Sc k
  fr : Fr (fun _ => False) w0 wr
section
variable {w0 wr w' : World} {bp bb bc : Nat} {p : ProgD} {Xb Xc : BelD} {Sp : Nat → Prop} {Lp : ProgL} {Sb : Nat → Prop} {Kb : BelL} {Sc : Nat → Prop} {Kc : BelL}
theorem KX.fresh (h : KX w0 wr bp bb bc p Xb Xc Sp Lp Sb Kb Sc Kc) (hf : Fr (fun _ => False) wr w') : KX w0 w' bp bb bc p Xb Xc Sp Lp Sb Kb Sc Kc := by
  have hs := hf.size
  exact { prog := h.prog.fresh hf, b := h.b.newer hf, c := h.c.newer hf, rp := fun k hk => ⟨(h.rp k hk).1, by have := (h.rp k hk).2; omega⟩, rb := fun k hk => ⟨(h.rb k hk).1, by have := (h.rb k hk).2; omega⟩, rc := fun k hk => ⟨(h.rc k hk).1, by have := (h.rc k hk).2; omega⟩, pb := h.pb, pc := h.pc, bc := h.bc, fr := h.fr.trans hf (fun _ _ h => h) }
theorem KX.bldB (h : KX w0 wr bp bb bc p Xb Xc Sp Lp Sb Kb Sc Kc) {r : BelD × Int} {e : Ending} (hp : BuildPost Sb wr bb r e w') : ∃ Sb' Kb', KX w0 w' bp bb bc p r.1 Xc Sp Lp Sb' Kb' Sc Kc := by
  obtain ⟨_, ⟨K', hK⟩, hF⟩ := hp
  have hs := hF.size
  have h0 := h.fr.size
  refine ⟨Own Sb wr w', K', ?_⟩
  exact {
    prog := h.prog.fr hF (fun k _ hk => h.pb k hk)
    b := hK
    c := h.c.fr hF (fun k hk hk' => h.bc k hk' hk)
    rp := fun k hk => ⟨(h.rp k hk).1, by have := (h.rp k hk).2; omega⟩
    rb := fun k hk => by
      rcases hk with hk | ⟨a, b⟩
      · exact ⟨(h.rb k hk).1, by have := (h.rb k hk).2; omega⟩
      · exact ⟨by omega, b⟩
    rc := fun k hk => ⟨(h.rc k hk).1, by have := (h.rc k hk).2; omega⟩
    pb := fun k hk hk' => by
      rcases hk' with hk' | ⟨a, b⟩
      · exact h.pb k hk hk'
      · have := (h.rp k hk).2; omega
    pc := h.pc
    bc := fun k hk hk' => by
      rcases hk with hk | ⟨a, b⟩
      · exact h.bc k hk hk'
      · have := (h.rc k hk').2; omega
    fr := h.fr.trans hF (fun j hj hk => by have := (h.rb j hk).1; omega) }
theorem KX.bldC (h : KX w0 wr bp bb bc p Xb Xc Sp Lp Sb Kb Sc Kc) {r : BelD × Int} {e : Ending} (hp : BuildPost Sc wr bc r e w') : ∃ Sc' Kc', KX w0 w' bp bb bc p Xb r.1 Sp Lp Sb Kb Sc' Kc' := by
  obtain ⟨_, ⟨K', hK⟩, hF⟩ := hp
  have hs := hF.size
  have h0 := h.fr.size
  refine ⟨Own Sc wr w', K', ?_⟩
  exact {
    prog := h.prog.fr hF (fun k _ hk => h.pc k hk)
    b := h.b.fr hF (fun k hk hk' => h.bc k hk hk')
    c := hK
    rp := fun k hk => ⟨(h.rp k hk).1, by have := (h.rp k hk).2; omega⟩
    rb := fun k hk => ⟨(h.rb k hk).1, by have := (h.rb k hk).2; omega⟩
    rc := fun k hk => by
      rcases hk with hk | ⟨a, b⟩
      · exact ⟨(h.rc k hk).1, by have := (h.rc k hk).2; omega⟩
      · exact ⟨by omega, b⟩
    pb := h.pb
    pc := fun k hk hk' => by
      rcases hk' with hk' | ⟨a, b⟩
      · exact h.pc k hk hk'
      · have := (h.rp k hk).2; omega
    bc := fun k hk hk' => by
      rcases hk' with hk' | ⟨a, b⟩
      · exact h.bc k hk hk'
      · have := (h.rb k hk).2; omega
    fr := h.fr.trans hF (fun j hj hk => by have := (h.rc j hk).1; omega) }
theorem KX.doo (h : KX w0 wr bp bb bc p Xb Xc Sp Lp Sb Kb Sc Kc) {r : ProgD × AnsD} {e : Ending} (hp : DoPost Sp wr bp r e w') : ∃ bp' Lp' Sp', e = .returned (.tuple #[.pointer (some ⟨bp', 0, none⟩), r.2.val]) ∧ KX w0 w' bp' bb bc r.1 Xb Xc Sp' Lp' Sb Kb Sc Kc ∧ (∀ k, Sp' k → Sp k ∨ wr.heap.size ≤ k) := by
  obtain ⟨bp', Lp', Sp', he, hP, hS⟩ := hp.out
  have hF := hp.fr
  have hs := hF.size
  have h0 := h.fr.size
  refine ⟨bp', Lp', Sp', he, ?_, fun k hk => (hS k hk).1⟩
  exact {
    prog := hP
    b := h.b.fr hF (fun k hk e => by subst e; exact h.pb _ h.prog.own hk)
    c := h.c.fr hF (fun k hk e => by subst e; exact h.pc _ h.prog.own hk)
    rp := fun k hk => by
      obtain ⟨a, b⟩ := hS k hk
      rcases a with a | a
      · exact ⟨(h.rp k a).1, b⟩
      · exact ⟨by omega, b⟩
    rb := fun k hk => ⟨(h.rb k hk).1, by have := (h.rb k hk).2; omega⟩
    rc := fun k hk => ⟨(h.rc k hk).1, by have := (h.rc k hk).2; omega⟩
    pb := fun k hk hk' => by
      obtain ⟨a, b⟩ := hS k hk
      rcases a with a | a
      · exact h.pb k a hk'
      · have := (h.rb k hk').2; omega
    pc := fun k hk hk' => by
      obtain ⟨a, b⟩ := hS k hk
      rcases a with a | a
      · exact h.pc k a hk'
      · have := (h.rc k hk').2; omega
    bc := h.bc
    fr := h.fr.trans hF (fun j hj e => by subst e; have := (h.rp _ h.prog.own).1; omega) }
/-- a block that is none of theirs -/
theorem KX.other (h : KX w0 wr bp bb bc p Xb Xc Sp Lp Sb Kb Sc Kc) {x : Nat} (hf : Fr (fun k => k = x) wr w') (hx0 : w0.heap.size ≤ x) (hp : ¬ Sp x) (hb : ¬ Sb x) (hc : ¬ Sc x) : KX w0 w' bp bb bc p Xb Xc Sp Lp Sb Kb Sc Kc := by
  have hs := hf.size
  exact { prog := h.prog.fr hf (fun k _ hk e => hp (by rw [← e]; exact hk)), b := h.b.fr hf (fun k hk e => hb (by rw [← e]; exact hk)), c := h.c.fr hf (fun k hk e => hc (by rw [← e]; exact hk)), rp := fun k hk => ⟨(h.rp k hk).1, by have := (h.rp k hk).2; omega⟩, rb := fun k hk => ⟨(h.rb k hk).1, by have := (h.rb k hk).2; omega⟩, rc := fun k hk => ⟨(h.rc k hk).1, by have := (h.rc k hk).2; omega⟩, pb := h.pb, pc := h.pc, bc := h.bc, fr := h.fr.trans hf (fun j hj e => by omega) }
end
/-- the script, where it lies -/
structure ScriptAt (w : World) (a : Option Addr) (n : Nat) (os : Nat → OpD) : Prop where
  at_ : ∀ i, i < n → ∃ b o, a = some ⟨b, o, none⟩ ∧ b < w.heap.size ∧ w.cell? ⟨b, o + i * 6, none⟩ = some (.int .i64 (os i).kind) ∧ w.cell? ⟨b, o + i * 6 + 1, none⟩ = some (.int .i64 (os i).a) ∧ w.cell? ⟨b, o + i * 6 + 2, none⟩ = some (.int .i64 (os i).b) ∧ w.cell? ⟨b, o + i * 6 + 3, none⟩ = some (.int .i64 (os i).c) ∧ w.cell? ⟨b, o + i * 6 + 4, none⟩ = some (sv (os i).s) ∧ w.cell? ⟨b, o + i * 6 + 5, none⟩ = some (sv (os i).t)
theorem Fr.cell {S : Nat → Prop} {w w' : World} (h : Fr S w w') {b o : Nat} (hb : b < w.heap.size) (hS : ¬ S b) : w'.cell? ⟨b, o, none⟩ = w.cell? ⟨b, o, none⟩ := by
  unfold World.cell?
  simp only [h.block b hb hS]
theorem ScriptAt.fr {w w' : World} {a : Option Addr} {n : Nat} {os : Nat → OpD} (h : ScriptAt w a n os) (hf : Fr (fun _ => False) w w') : ScriptAt w' a n os := by
  refine ⟨fun i hi => ?_⟩
  obtain ⟨b, o, ha, hb, h0, h1, h2, h3, h4, h5⟩ := h.at_ i hi
  have hs := hf.size
  refine ⟨b, o, ha, by omega, ?_, ?_, ?_, ?_, ?_, ?_⟩
  · rw [hf.cell hb (fun h => h)]; exact h0
  · rw [hf.cell hb (fun h => h)]; exact h1
  · rw [hf.cell hb (fun h => h)]; exact h2
  · rw [hf.cell hb (fun h => h)]; exact h3
  · rw [hf.cell hb (fun h => h)]; exact h4
  · rw [hf.cell hb (fun h => h)]; exact h5
/-- what Do does to the count -/
theorem doP_steps {p : ProgD} {m : ModD} {o : OpD} (h7 : o.kind ≠ 7) (h13 : o.kind ≠ 13) (h15 : o.kind ≠ 15) : (doP p m o).1 = p := by
  unfold doP
  rw [if_neg h7]
  repeat' split
  all_goals first | rfl | contradiction
end Go.Proofs.Qxb6500576aGreatDoor
