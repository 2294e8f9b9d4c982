/-
  THE PLAIN LAWS, model and real: the module. No program.
-/
import Derived.Test.Qxb6500575aGreatDoorModMS
import Derived.Test.Qxb6500575aGreatDoorLaw5a
import Derived.Test.Qxb6500575aGreatDoorLawM5
namespace Go.Proofs.Qxb6500575aGreatDoor
open Go Go.RowKit
set_option linter.unusedVariables false
set_option linter.unusedSimpArgs false

theorem kill_cs (s : Mk) : ∀ c' ∈ s.kill.cs, ∃ c1 ∈ s.cs, c'.bt = c1.bt ∧ c'.at_ = c1.at_ := by
  intro c' hc
  unfold Mk.kill at hc
  cases hs : s.cs with
  | nil => rw [hs] at hc; simp only at hc; rw [hs] at hc; cases hc
  | cons c r =>
    rw [hs] at hc
    simp only [List.mem_cons] at hc
    rcases hc with rfl | hc
    · exact ⟨c, by simp, rfl, rfl⟩
    · exact ⟨c', by simp [hc], rfl, rfl⟩
theorem one_cs (s : Mk) (E : Env) (src : List Ins) (k : Nat) (c : Ins) : ∀ c' ∈ (s.one E src k c).1.cs, (∃ c1 ∈ s.cs, c'.bt = c1.bt ∧ c'.at_ = c1.at_) ∨ (c'.bt = c.imm ∧ c'.at_ = k ∧ (c.op = 1 ∨ c.op = 2 ∨ c.op = 3)) := by
  intro c' hc
  have same : c' ∈ s.cs → (∃ c1 ∈ s.cs, c'.bt = c1.bt ∧ c'.at_ = c1.at_) ∨ (c'.bt = c.imm ∧ c'.at_ = k ∧ (c.op = 1 ∨ c.op = 2 ∨ c.op = 3)) := fun h => .inl ⟨c', h, rfl, rfl⟩
  unfold Mk.one at hc
  by_cases h1 : c.op = 1 ∨ c.op = 2
  · rw [if_pos h1] at hc
    simp only [List.mem_cons] at hc
    rcases hc with rfl | hc
    · exact .inr ⟨rfl, rfl, by omega⟩
    · exact same hc
  rw [if_neg h1] at hc
  by_cases h3 : c.op = 3
  · rw [if_pos h3] at hc
    simp only [List.mem_cons] at hc
    rcases hc with rfl | hc
    · exact .inr ⟨rfl, rfl, by omega⟩
    · exact same hc
  rw [if_neg h3] at hc
  by_cases h4 : c.op = 4
  · rw [if_pos h4] at hc
    cases hs : s.cs with
    | nil => rw [hs] at hc; simp only at hc; rw [hs] at hc; cases hc
    | cons t r =>
      rw [hs] at hc
      simp only [List.mem_cons] at hc
      rcases hc with rfl | hc
      · exact .inl ⟨t, by simp, rfl, rfl⟩
      · exact .inl ⟨c', by simp [hc], rfl, rfl⟩
  rw [if_neg h4] at hc
  by_cases h5 : c.op = 5
  · rw [if_pos h5] at hc
    cases hs : s.cs with
    | nil => rw [hs] at hc; simp only at hc; rw [hs] at hc; cases hc
    | cons t r =>
      rw [hs] at hc
      simp only at hc
      exact .inl ⟨c', by simp [hc], rfl, rfl⟩
  rw [if_neg h5] at hc
  by_cases h6 : c.op = 6
  · rw [if_pos h6] at hc
    split at hc
    · exact same hc
    · exact .inl (kill_cs (s.pops (s.label c.imm.toNat)).1 c' hc)
  rw [if_neg h6] at hc
  by_cases h7 : c.op = 7
  · rw [if_pos h7] at hc
    split at hc
    · exact same hc
    · exact same hc
  rw [if_neg h7] at hc
  by_cases h8 : c.op = 8
  · rw [if_pos h8] at hc
    split at hc
    · exact same hc
    · exact .inl (kill_cs (s.pops (s.lastLab c.tab ++ [105])).1 c' hc)
  rw [if_neg h8] at hc
  cases hp : s.plain E c with
  | none => rw [hp] at hc; exact same hc
  | some p =>
    rw [hp] at hc
    simp only at hc
    unfold Mk.plain at hp
    split at hp
    · cases hp; exact .inl (kill_cs s c' hc)
    split at hp
    · cases hp; exact .inl (kill_cs (s.pops E.me.results).1 c' hc)
    split at hp
    · split at hp
      · cases hp
      · cases hp; exact same hc
    split at hp
    · cases hp; exact same hc
    split at hp
    · cases hp; exact same hc
    split at hp
    · split at hp
      · cases hp
      · cases hp; exact same hc
    split at hp
    · split at hp
      · cases hp
      · cases hp; exact same hc
    cases hp; exact same hc
theorem well_block {c : Ins} (h : well c = true) (ho : c.op = 1 ∨ c.op = 2 ∨ c.op = 3) : 0 ≤ c.imm ∧ c.imm ≤ 255 := by
  unfold well at h
  rw [if_neg (show ¬ c.op = 8 by omega)] at h
  by_cases ht : ¬ c.tab.isEmpty = true
  · rw [if_pos ht] at h; cases h
  rw [if_neg ht, if_pos ho] at h
  simp at h
  omega
theorem stateM_cs {E : Env} {src : List Ins} (hw : ∀ c ∈ src, well c = true) : ∀ (k : Nat) (s : Mk), stateM E src k = some s → ∀ c ∈ s.cs, (0 ≤ c.bt ∧ c.bt ≤ 255) ∧ (c.at_ = -1 ∨ (0 ≤ c.at_ ∧ c.at_ < src.length))
  | 0, s, h, c, hc => by
    simp [stateM] at h
    subst h
    simp [Mk.start] at hc
    subst hc
    refine ⟨?_, .inl rfl⟩
    show 0 ≤ bt0 _ ∧ bt0 _ ≤ 255
    unfold bt0
    split
    · omega
    · rename_i x _ _
      have := x.toNat_lt
      omega
  | k + 1, s, h, c, hc => by
    simp only [stateM] at h
    split at h
    · rename_i s0 i0 hs hi
      split at h
      · simp at h
        subst h
        have hk : k < src.length := (List.getElem?_eq_some_iff.1 hi).1
        rcases one_cs s0 E src k i0 c hc with ⟨c1, h1, h2, h3⟩ | ⟨h1, h2, h3⟩
        · have := stateM_cs hw k s0 hs c1 h1
          rw [h2, h3]; exact this
        · have := well_block (hw i0 (List.mem_of_getElem? hi)) h3
          rw [h1, h2]
          exact ⟨this, .inr ⟨by omega, by omega⟩⟩
      · cases h
    · cases h
theorem mbody_ok {E : Env} (hr : ∀ u ∈ E.funs, u.results.length ≤ 1) (hm : E.me.results.length ≤ 1) (hz : ∀ x ∈ E.me.results, x ≠ 0) (src : List Ins) (hl : src.length ≤ 24) (hn : nestR src [] = 0) : MBodyOk E src := by
  intro k s c hs hc
  have hlt : k < src.length := (List.getElem?_eq_some_iff.1 hc).1
  rcases rel_at hr hm hz src hl hn k (by omega) with ⟨_, h2⟩ | ⟨s0, m0, h1, h2, h3, _⟩
  · rw [h2] at hs; cases hs
  rw [h2] at hs
  cases hs
  obtain ⟨hrel, hpos⟩ := h3 hlt
  obtain ⟨opn, i1, i2, i3⟩ := (inv_at hr hm src hl hn k s0 h1).1 hlt
  obtain ⟨hw, hfit, b, r, htop, hal⟩ := body_ok hr hm src hl hn k s0 c h1 hc
  obtain ⟨c0, q, hcs, e1, e2⟩ := fg_cons hrel.ck htop.opn
  have hst : s0.st = s.st := fg_st hrel.ck
  have hlen := fg_len hrel.ck
  have hol := i3.j.c.len
  have hist := i3.st
  have hicl := i3.cl
  have hcl := hrel.len
  have hws := nest_well _ _ hn
  have hcsf := stateM_cs (E := E) hws k s h2
  refine ⟨c0, q, ⟨hw, ⟨hcs, ?_⟩, fun h4 => ?_, by rw [← hst]; omega, by omega, by omega, fun c' hc' => ?_⟩⟩
  · have : b.height = c0.height := congrArg Blk.height e1
    rw [← this, ← hst]; exact htop.fl
  · obtain ⟨al, hal⟩ := hal h4
    exact ((hrel.blk 0 b c0 (by rw [htop.opn]; rfl) (by rw [hcs]; rfl)).alt al hal).2.1
  · obtain ⟨a1, a2⟩ := hcsf c' hc'
    obtain ⟨i, hi⟩ := List.mem_iff_getElem?.1 hc'
    have hib : i < s0.opn.length := by rw [hlen]; exact (List.getElem?_eq_some_iff.1 hi).1
    have hb' : s0.opn[i]? = some s0.opn[i] := List.getElem?_eq_getElem hib
    have hd := hrel.hd hb' hi
    have hht : s0.opn[i].height ≤ s0.st.length := Hts.le i3.j.h _ (List.getElem_mem hib)
    refine ⟨a1.1, a1.2, ?_, a2, fun h2' => ((hrel.blk i _ c' hb' hi).loop h2').2⟩
    rw [← hd.2.2.1]; omega
/-- no result type is the byte 0 -/
def ModTyped (m : ModD) : Prop := ∀ p ∈ m.results, ∀ x ∈ p, x ≠ 0
theorem ModTyped.funD {m : ModD} (h : ModTyped m) (f : Nat) : ∀ x ∈ (m.funD f).results, x ≠ 0 := by
  intro x hx
  unfold ModD.funD ModD.typeAt at hx
  simp only at hx
  split at hx
  · cases hx
  · cases hr : m.results[(m.typOf f).toNat]? with
    | none => rw [hr] at hx; cases hx
    | some p => rw [hr] at hx; exact h p (List.mem_of_getElem? hr) x hx
theorem modM_of {m : ModD} (h : ModGood m) (ht : ModTyped m) : ModM m := by
  refine ⟨h.ok, fun f h1 h2 => ?_, fun fn hfn c hc => ?_⟩
  · obtain ⟨fn, _, e, hmem⟩ := ModD.body_at f h1 h2
    rw [e]
    exact mbody_ok (h.env f).1 (h.env f).2 (ht.funD f) fn.code (h.ok.fc fn hmem) (h.nest fn hmem)
  · have hw := nest_well _ _ (h.nest fn hfn) c hc
    by_cases h8 : c.op = 8
    · have := well_tab hw h8; omega
    · unfold well at hw
      rw [if_neg h8] at hw
      by_cases hte : ¬ c.tab.isEmpty = true
      · rw [if_pos hte] at hw; cases hw
      · have : c.tab = [] := by
          have : c.tab.isEmpty = true := by simpa using hte
          exact List.isEmpty_iff.1 this
        rw [this]; simp
theorem chk_same {m : ModD} (h : ModGood m) (ht : ModTyped m) (f : Nat) (h1 : m.imports.length ≤ f) (h2 : f < m.nall) : (m.chk f).1 = (m.chkM f).1 ∧ ((m.chk f).1 = none → (m.chk f).2.code = (m.chkM f).2.code) := by
  obtain ⟨fn, _, e, hmem⟩ := ModD.body_at f h1 h2
  unfold ModD.chk ModD.chkM
  rw [e]
  exact run_same (E := m.env f) (h.env f).1 (h.env f).2 (ht.funD f) fn.code (h.ok.fc fn hmem) (h.nest fn hmem)
theorem badBody_same {m : ModD} (h : ModGood m) (ht : ModTyped m) : ∀ (k f : Nat), m.imports.length ≤ f → f + k ≤ m.nall → m.badBody f k = m.badBodyM f k
  | 0, _, _, _ => rfl
  | k + 1, f, h1, h2 => by
    unfold ModD.badBody ModD.badBodyM
    rw [(chk_same h ht f h1 (by omega)).1, badBody_same h ht k (f + 1) (by omega) (by omega)]
    cases (m.chkM f).1 with
    | none => rfl
    | some p => rfl
theorem load_same {m : ModD} (h : ModGood m) (ht : ModTyped m) : m.loadM = m.load := by
  unfold ModD.load ModD.loadM
  rw [badBody_same h ht m.funcs.length m.imports.length (Nat.le_refl _) (by unfold ModD.nall; omega)]
  cases m.badSig 0 m.nall with
  | some f => rfl
  | none =>
    simp only
    cases m.badBodyM m.imports.length m.funcs.length with
    | none => rfl
    | some p => rfl
theorem prog_same {m : ModD} (h : ModGood m) (ht : ModTyped m) (hl : m.load.2.2 = 0) : m.progM = m.prog := by
  have hc := (load_good hl h).2
  unfold ModD.progM ModD.prog
  congr 1
  apply List.map_congr_left
  intro f hf
  have hf2 := List.mem_range.1 hf
  unfold ModD.codeM ModD.code
  by_cases h1 : f < m.imports.length
  · rw [if_pos h1, if_pos h1]
  · rw [if_neg h1, if_neg h1]
    exact ((chk_same h ht f (by omega) hf2).2 (hc f (by omega) hf2)).symm
theorem ModTyped.empty : ModTyped ModD.empty := fun p hp => by cases hp
theorem ModTyped.build {x : BelD} (h : ModTyped x.m) (o : OpD) : ModTyped (x.build o).1.m := by
  unfold BelD.build
  split
  · show ModTyped (x.m.addType o.s o.t).1
    unfold ModD.addType
    split
    · exact h
    split
    · exact h
    split
    · exact h
    · rename_i h3
      have h3 : typesOk (o.s ++ o.t) = true := by simpa using h3
      intro p hp y hy
      rcases List.mem_append.1 hp with hp | hp
      · exact h p hp y hy
      · simp at hp
        subst hp
        unfold typesOk at h3
        rw [List.all_eq_true] at h3
        have := h3 y (List.mem_append_right _ hy)
        intro e
        subst e
        simp at this
  split
  · show ModTyped (x.m.addImport o.a).1
    unfold ModD.addImport
    repeat' split
    all_goals exact h
  split
  · show ModTyped (x.m.setMem o.a o.b).1
    unfold ModD.setMem
    repeat' split
    all_goals exact h
  split
  · split <;> exact h
  split
  · show ModTyped (x.m.addFunc o.a o.s x.code).1
    unfold ModD.addFunc
    repeat' split
    all_goals exact h
  split
  · exact ModTyped.empty
  · exact h

end Go.Proofs.Qxb6500575aGreatDoor
