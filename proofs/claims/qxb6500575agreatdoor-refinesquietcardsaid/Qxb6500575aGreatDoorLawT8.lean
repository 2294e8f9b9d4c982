/-
  THE TYPING of the flat code: the Prog of an accepted module is typed; the builder keeps the types. No program.
-/
import Derived.Test.Qxb6500575aGreatDoorRInv
import Derived.Test.Qxb6500575aGreatDoorLaw5a
import Derived.Test.Qxb6500575aGreatDoorLawM6a
namespace Go.Proofs.Qxb6500575aGreatDoor
open Go Go.RowKit
set_option linter.unusedVariables false
set_option linter.unusedSimpArgs false

/-- all types named by the module are I32 or I64 -/
structure ModTy (m : ModD) : Prop where
  ps : ∀ p ∈ m.params, TyL p
  rs : ∀ p ∈ m.results, TyL p
  ls : ∀ f ∈ m.funcs, TyL f.locals
theorem ModTy.typed {m : ModD} (h : ModTy m) : ModTyped m := fun p hp x hx e => by
  rcases h.rs p hp x hx with h1 | h1 <;> rw [e] at h1 <;> exact absurd h1 (by decide)
theorem ModTy.funD {m : ModD} (h : ModTy m) (f : Nat) : TyL (m.funD f).params ∧ TyL (m.funD f).results ∧ TyL (m.funD f).locals := by
  have key : ∀ (l : List (List UInt8)), (∀ p ∈ l, TyL p) → ∀ i : Nat, TyL (l[i]?.getD []) := by
    intro l hl i
    cases hi : l[i]? with
    | none => intro x hx; cases hx
    | some p => exact hl p (List.mem_of_getElem? hi)
  have nil : TyL [] := fun x hx => by cases hx
  refine ⟨?_, ?_, ?_⟩
  · unfold ModD.funD ModD.typeAt
    simp only
    split
    · exact nil
    · exact key _ h.ps _
  · unfold ModD.funD ModD.typeAt
    simp only
    split
    · exact nil
    · exact key _ h.rs _
  · unfold ModD.funD ModD.locOf
    simp only
    split
    · exact nil
    · unfold ModD.funcAt
      split
      · exact nil
      · split
        · exact nil
        · rename_i fn hi
          exact h.ls fn (List.mem_of_getElem? hi)
theorem ModTy.env {m : ModD} (h : ModTy m) (f : Nat) : EnvTy (m.env f) := by
  have hm : ∀ u ∈ (m.env f).funs, ∃ g, u = m.funD g := fun u hu => by
    simp only [ModD.env, ModD.sigs, List.mem_map] at hu
    obtain ⟨g, _, rfl⟩ := hu
    exact ⟨g, rfl⟩
  refine ⟨fun u hu => ?_, fun u hu => ?_, ?_, (h.funD f).2.1⟩
  · obtain ⟨g, rfl⟩ := hm u hu; exact (h.funD g).1
  · obtain ⟨g, rfl⟩ := hm u hu; exact (h.funD g).2.1
  · intro t ht
    rcases List.mem_append.1 ht with ht | ht
    · exact (h.funD f).1 t ht
    · exact (h.funD f).2.2 t ht
theorem prog_typed {m : ModD} (h : ModGood m) (ht : ModTy m) (hl : m.load.2.2 = 0) (s : Int) : ∃ T, ProgT { m.prog with steps := s } T := by
  have hfun : ∀ f, m.prog.funs[f]? = if f < m.nall then some (m.funD f) else none := fun f => by
    unfold ModD.prog ModD.sigs
    simp only [List.getElem?_map]
    by_cases hf : f < m.nall <;> simp [hf]
  have key : ∀ f : Nat, ∃ T : Typing, m.imports.length ≤ f → f < m.nall → FinT (m.env f) (m.code f) T := by
    intro f
    by_cases h1 : m.imports.length ≤ f ∧ f < m.nall
    · obtain ⟨h1, h2⟩ := h1
      obtain ⟨_, a2, a3⟩ := code_len h hl f h1 h2
      have hc := (load_good hl h).2 f h1 h2
      have hs : stateAt (m.env f) (m.body f) 0 = some (Ck.start (m.funD f).results) := rfl
      have hlast := runCk_none (E := m.env f) (m.body f) _ 0 _ rfl (Nat.zero_le _) hs (by simpa [ModD.chk] using hc)
      rw [List.drop_zero] at hlast
      obtain ⟨T, hT⟩ := (typed_at (ht.env f) (h.env f).1 (h.env f).2 (m.body f) a3 a2 _ _ hlast).2 rfl
      refine ⟨T, fun _ _ => ?_⟩
      unfold ModD.code
      rw [if_neg (by omega)]
      exact hT
    · exact ⟨fun _ => none, fun h2 h3 => absurd ⟨h2, h3⟩ h1⟩
  obtain ⟨T, hT⟩ := Classical.axiomOfChoice key
  refine ⟨T, ⟨?_, ?_, ?_, ?_, ?_, ?_⟩⟩
  · simp [ModD.prog, ModD.sigs]
  · simp only [prog_funs]
    have h1 := h.ok.ni
    have h2 := h.ok.nf
    unfold ModD.nall; omega
  · have h1 := h.ok.ni
    simp [ModD.prog]
    omega
  · intro f u c h1 h2 h3
    simp only at h1 h2 h3
    rw [hfun] at h2
    rw [prog_code] at h3
    split at h2
    · rename_i hf
      rw [if_pos hf] at h3
      simp at h2 h3
      subst h2; subst h3
      refine ⟨hT f (by simp [ModD.prog] at h1; omega) hf, code_le h hl f hf⟩
    · cases h2
  · intro f c h1 i hi
    simp only at h1
    rw [prog_code] at h1
    split at h1
    · rename_i hf
      simp at h1
      subst h1
      by_cases hn : m.imports.length ≤ f
      · obtain ⟨a1, a2, _⟩ := code_len h hl f hn hf
        obtain ⟨a, ha⟩ := List.getElem?_of_mem hi
        exact (FinalOk.sound a2 a1 a i ha).keep
      · unfold ModD.code at hi
        rw [if_pos (by omega)] at hi
        cases hi
    · cases h1
  · intro u hu
    obtain ⟨f, hf⟩ := List.getElem?_of_mem hu
    simp only at hf
    rw [hfun] at hf
    split at hf
    · simp at hf
      subst hf
      have h1 := h.ok.funD f
      exact ⟨h1.1, h1.2.1, h1.2.2, ht.funD f⟩
    · cases hf
theorem types_ty {l : List UInt8} (h : typesOk l = true) : TyL l := fun t ht => by
  unfold typesOk at h
  rw [List.all_eq_true] at h
  have := h t ht
  simp at this
  rcases this with e | e
  · exact .inl e
  · exact .inr e
theorem ModTy.empty : ModTy ModD.empty := ⟨fun p hp => (by cases hp), fun p hp => (by cases hp), fun p hp => (by cases hp)⟩
theorem ModTy.addType {m : ModD} (h : ModTy m) (s t : List UInt8) : ModTy (m.addType s t).1 := by
  unfold ModD.addType
  split
  · exact h
  split
  · exact h
  split
  · exact h
  · rename_i h3
    have h3 := types_ty (l := s ++ t) (by simpa using h3)
    refine ⟨fun p hp => ?_, fun p hp => ?_, h.ls⟩
    · rcases List.mem_append.1 hp with hp | hp
      · exact h.ps p hp
      · simp at hp; subst hp; exact fun x hx => h3 x (by simp [hx])
    · rcases List.mem_append.1 hp with hp | hp
      · exact h.rs p hp
      · simp at hp; subst hp; exact fun x hx => h3 x (by simp [hx])
theorem ModTy.addImport {m : ModD} (h : ModTy m) (a : Int) : ModTy (m.addImport a).1 := by
  unfold ModD.addImport
  repeat' split
  all_goals first | exact h | exact ⟨h.ps, h.rs, h.ls⟩
theorem ModTy.setMem {m : ModD} (h : ModTy m) (a b : Int) : ModTy (m.setMem a b).1 := by
  unfold ModD.setMem
  repeat' split
  all_goals first | exact h | exact ⟨h.ps, h.rs, h.ls⟩
theorem ModTy.addFunc {m : ModD} (h : ModTy m) (a : Int) (s : List UInt8) (code : List Ins) : ModTy (m.addFunc a s code).1 := by
  unfold ModD.addFunc
  split
  · exact h
  split
  · exact h
  split
  · exact h
  split
  · exact h
  · rename_i h3 _
    have h3 : typesOk s = true := by
      simp only [not_or] at h3
      exact Decidable.not_not.1 h3.2.2
    refine ⟨h.ps, h.rs, fun f hf => ?_⟩
    rcases List.mem_append.1 hf with hf | hf
    · exact h.ls f hf
    · simp at hf; subst hf; exact types_ty h3
end Go.Proofs.Qxb6500575aGreatDoor
