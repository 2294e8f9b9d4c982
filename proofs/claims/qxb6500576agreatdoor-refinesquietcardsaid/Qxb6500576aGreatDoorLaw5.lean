/-
  THE PLAIN LAWS that KeepsUpTo leans on: the Prog of an accepted module is sound, and of the shape that the law asks.
-/
import Derived.Test.Qxb6500576aGreatDoorLaw4
import Derived.Test.Qxb6500576aGreatDoorDo
namespace Go.Proofs.Qxb6500576aGreatDoor
open Go Go.RowKit
set_option linter.unusedVariables false
set_option linter.unusedSimpArgs false

theorem prog_code (m : ModD) (f : Nat) : m.prog.codes[f]? = if f < m.nall then some (m.code f) else none := by
  unfold ModD.prog
  simp only [List.getElem?_map]
  by_cases h : f < m.nall
  · simp [h]
  · simp [h]
theorem prog_funs (m : ModD) : m.prog.funs.length = m.nall := by simp [ModD.prog, ModD.sigs]
theorem code_len {m : ModD} (h : ModGood m) (hl : m.load.2.2 = 0) (f : Nat) (h1 : m.imports.length ≤ f) (h2 : f < m.nall) : FinalOk (m.code f) (emitsTo (m.body f) (m.body f).length) ∧ nestR (m.body f) [] = 0 ∧ (m.body f).length ≤ 24 := by
  obtain ⟨fn, _, e, hm⟩ := ModD.body_at f h1 h2
  refine ⟨h.final f h1 h2 ((load_good hl h).2 f h1 h2), by rw [e]; exact h.nest fn hm, by rw [e]; exact h.ok.fc fn hm⟩
theorem code_le {m : ModD} (h : ModGood m) (hl : m.load.2.2 = 0) (f : Nat) (h2 : f < m.nall) : (m.code f).length ≤ 144 := by
  by_cases h1 : m.imports.length ≤ f
  · obtain ⟨a, b, c⟩ := code_len h hl f h1 h2
    rw [← a.klen]
    have := emitsTo_len_le (m.body f) (nest_well _ _ b) (m.body f).length
    omega
  · unfold ModD.code
    rw [if_pos (by omega)]; simp
theorem prog_show {m : ModD} (h : ModGood m) (hl : m.load.2.2 = 0) (s : Int) : ShowOk { m.prog with steps := s } := by
  have h1 := h.ok.ni
  have h2 := h.ok.nf
  refine ⟨?_, fun c hc => ?_, fun u hu => ?_⟩
  · show m.prog.funs.length ≤ 10
    rw [prog_funs]; unfold ModD.nall; omega
  · obtain ⟨f, hf⟩ := List.mem_iff_getElem?.1 (show c ∈ m.prog.codes from hc)
    rw [prog_code] at hf
    split at hf
    · rename_i hlt
      have := Option.some.inj hf
      subst this
      have := code_le h hl f hlt
      omega
    · cases hf
  · have hu' : u ∈ m.sigs := hu
    simp only [ModD.sigs, List.mem_map] at hu'
    obtain ⟨g, _, rfl⟩ := hu'
    have := h.ok.funD g
    omega
theorem prog_check {m : ModD} (h : ModGood m) (hl : m.load.2.2 = 0) (s : Int) : CheckOk { m.prog with steps := s } m.imports.length := by
  have h1 := h.ok.ni
  have h2 := h.ok.nf
  refine ⟨rfl, ?_, ?_, fun c hc => ?_, fun f c hc => ?_, fun f c hc => ?_⟩
  · show m.imports.length ≤ m.prog.funs.length
    rw [prog_funs]; unfold ModD.nall; omega
  · show m.prog.funs.length ≤ 1000
    rw [prog_funs]; unfold ModD.nall; omega
  · have := (prog_show h hl s).nc c hc
    omega
  · have hf : m.prog.codes[f]? = some c := hc
    rw [prog_code] at hf
    split at hf
    · rename_i hlt
      have := Option.some.inj hf
      subst this
      by_cases hi : f < m.imports.length
      · unfold ModD.code
        rw [if_pos hi]
        simp [hi]
      · obtain ⟨a, b, _⟩ := code_len h hl f (by omega) hlt
        obtain ⟨k, hk, he⟩ := emits_last _ b
        have : (m.code f).length = (emitsTo (m.body f) k).length + 1 := by rw [← a.klen, he]; simp
        constructor
        · intro h; exact absurd h hi
        · intro h; omega
    · cases hf
  · have hf : m.prog.codes[f]? = some c := hc
    rw [prog_code] at hf
    split at hf
    · rename_i hlt
      have := Option.some.inj hf
      subst this
      by_cases hi : f < m.imports.length
      · intro a x hx
        unfold ModD.code at hx
        rw [if_pos hi] at hx
        simp at hx
      · obtain ⟨a, b, _⟩ := code_len h hl f (by omega) hlt
        exact a.sound b
    · cases hf
theorem prog_ok {m : ModD} (h : ModGood m) (hl : m.load.2.2 = 0) (s : Int) (h0 : 0 ≤ s) (h1 : s ≤ 1000000000000000) : ProgOk { m.prog with steps := s } := ⟨prog_show h hl s, ⟨_, prog_check h hl s⟩, h0, h1⟩
theorem ProgOk.steps {p : ProgD} (h : ProgOk p) (s : Int) (h0 : 0 ≤ s) (h1 : s ≤ 1000000000000000) : ProgOk { p with steps := s } := by
  obtain ⟨k, hk⟩ := h.ck
  exact ⟨⟨h.sh.nf, h.sh.nc, h.sh.np⟩, ⟨k, ⟨hk.nimp, hk.le, hk.nf, hk.nc, hk.imp, hk.ok⟩⟩, h0, h1⟩

def ModD.src (m : ModD) (f : Nat) : List Ins := ((m.funcs[f]?).map (·.code)).getD []
end Go.Proofs.Qxb6500576aGreatDoor
