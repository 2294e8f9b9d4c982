/-
  moon: ROUNDS IN WHICH TEXTS ARE NOT MEASURED but logged. Plain; no memory, no walk.
-/
import Derived.Test.Qxb6500574aGreatDoorVLawF
namespace Go.Proofs.Qxb6500574aGreatDoor
set_option linter.unusedVariables false
set_option linter.unusedSimpArgs false
def txtF (F : Nat → Bs) (v : Vl) : Bs := if v.t = 2 then F v.n else textV v
theorem txtF_fmt (v : Vl) : txtF fmtN v = textV v := by
  unfold txtF
  split
  · rename_i h
    unfold textV
    rw [h]
    rfl
  · rfl
/-- the head of a round: at this instruction, with operands enough -/
def headR (m : VMD) (i : Nat) (op : Nat) : Bool :=
  let f := topF m i
  let p := m.proto f.clo
  let c := m.code.getD (p.code + f.pc) (0, 0)
  let n : Int := (m.th i).stack.length - f.base - p.ns
  c.1 == op && decide (f.pc < p.nc) && soundP m i op c.2 && !decide (n < needX op c.2 ∨ n + growX op c.2 > 128)
def opdX (m : VMD) (i : Nat) : Nat := (m.code.getD ((m.proto (topF m i).clo).code + (topF m i).pc) (0, 0)).2
def strNum (v : Vl) : Bool := v.t == 3 || v.t == 2
/-- is it a call of print, at hand? -/
def prB (m : VMD) (i : Nat) : Bool :=
  headR m i 26 && (let st := (m.th i).stack; let v := st.getD (st.length - opdX m i - 1) nilV; v.t == 6 && v.n == 1)
def caB (m : VMD) (i : Nat) : Bool := headR m i 17 && strNum (topV m i 0) && strNum (topV m i 1)
def caM (F : Nat → Bs) (m : VMD) (i : Nat) : VMD :=
  let m3 := push (pops m i 2) i [strV (txtF F (topV m i 1) ++ txtF F (topV m i 0))]
  setPc m3 i ((topF m3 i).pc + 1)
def prA (m : VMD) (i : Nat) : Vl := ((m.th i).stack.drop ((m.th i).stack.length - opdX m i - 1 + 1)).getD 0 nilV
def prM (F : Nat → Bs) (m0 : VMD) (i : Nat) : VMD :=
  let m := setPc m0 i ((topF m0 i).pc + 1)
  push (cut { m with out := m.out ++ txtF F (prA m0 i) ++ [10] } i ((m0.th i).stack.length - opdX m0 i - 1)) i [nilV, nilV]
def rnd (F : Nat → Bs) (fu : Nat) (m : VMD) (i : Nat) : Sum (Nat × VMD) (EvD × Nat × VMD) × List (Bs × Nat) :=
  if caB m i then (.inl (fu, caM F m i), [(txtF F (topV m i 1) ++ txtF F (topV m i 0), 40)])
  else if prB m i && fu != 0 then (.inl (fu - 1, prM F m i), [(m.out ++ txtF F (prA m i) ++ [10], 200)])
  else (roundP fu m i, [])
def rnds (F : Nat → Bs) : Nat → Nat → VMD → Nat → List (Bs × Nat) → Option ((EvD × Nat × VMD) × List (Bs × Nat))
  | 0, _, _, _, _ => none
  | n + 1, fu, m, i, lg => match rnd F fu m i with
    | (.inr r, l) => some (r, lg ++ l)
    | (.inl r, l) => rnds F n r.1 r.2 i (lg ++ l)
def LogOk (l : List (Bs × Nat)) : Prop := ∀ a ∈ l, a.1.length ≤ a.2
theorem head_out {m : VMD} {i op : Nat} (h : headR m i op = true) : ¬ ((topF m i).pc ≥ (m.proto (topF m i).clo).nc) ∧ (m.code.getD ((m.proto (topF m i).clo).code + (topF m i).pc) (0, 0)).1 = op ∧ soundP m i op (opdX m i) = true ∧
    ¬ (((m.th i).stack.length : Int) - (topF m i).base - (m.proto (topF m i).clo).ns < needX op (opdX m i) ∨ ((m.th i).stack.length : Int) - (topF m i).base - (m.proto (topF m i).clo).ns + growX op (opdX m i) > 128) := by
  unfold headR at h
  simp only [Bool.and_eq_true, beq_iff_eq, decide_eq_true_iff, Bool.not_eq_true', decide_eq_false_iff_not] at h
  obtain ⟨⟨⟨h1, h2⟩, h3⟩, h4⟩ := h
  exact ⟨by omega, h1, h3, h4⟩
theorem instr_ca {m : VMD} {i : Nat} (h : caB m i = true) (hl : (txtF fmtN (topV m i 1) ++ txtF fmtN (topV m i 0)).length ≤ 40) : instrP m i = (false, (.inr ev0, caM fmtN m i)) := by
  unfold caB at h
  rw [Bool.and_eq_true, Bool.and_eq_true] at h
  obtain ⟨⟨h1, h2⟩, h3⟩ := h
  obtain ⟨a1, a2, a3, a4⟩ := head_out h1
  have hx : (m.code.getD ((m.proto (topF m i).clo).code + (topF m i).pc) (0, 0)).2 = opdX m i := rfl
  rw [txtF_fmt, txtF_fmt, List.length_append] at hl
  unfold strNum at h2 h3
  simp only [Bool.or_eq_true, beq_iff_eq] at h2 h3
  unfold instrP
  simp only [hx, a2]
  rw [if_neg a1, a3, if_neg (by simp), if_neg a4]
  simp (config := {decide := true}) only [if_false]
  have hp : plainP m i 17 (opdX m i) = (.inr (), push (pops m i 2) i [strV (textV (topV m i 1) ++ textV (topV m i 0))]) := by
    unfold plainP
    simp (config := {decide := true}) only [if_false]
    unfold operP
    simp (config := {decide := true}) only [if_false, if_true]
    rw [if_neg (by omega), if_neg (by omega)]
  rw [hp]
  unfold bump caM
  simp only [txtF_fmt]
theorem instr_pr {m : VMD} {i : Nat} (h : prB m i = true) (hl : (m.out ++ txtF fmtN (prA m i) ++ [10]).length ≤ 200) : instrP m i = (true, (.inr ev0, prM fmtN m i)) := by
  unfold prB at h
  simp only [Bool.and_eq_true, beq_iff_eq] at h
  obtain ⟨h1, h2, h3⟩ := h
  obtain ⟨a1, a2, a3, a4⟩ := head_out h1
  have hx : (m.code.getD ((m.proto (topF m i).clo).code + (topF m i).pc) (0, 0)).2 = opdX m i := rfl
  rw [txtF_fmt, List.length_append, List.length_append, List.length_singleton] at hl
  unfold instrP
  simp only [hx, a2]
  rw [if_neg a1, a3, if_neg (by simp), if_neg a4]
  simp (config := {decide := true}) only [if_false, if_true]
  congr 1
  have hi : i < m.ths.length := by
    rcases Nat.lt_or_ge i m.ths.length with h | h
    · exact h
    · exfalso
      have e : m.th i = th0 := by
        unfold VMD.th
        rw [List.getD_eq_getElem?_getD, List.getElem?_eq_none h]
        rfl
      rw [e] at h2
      exact absurd h2 (by simp [th0, nilV])
  have hs : ((setPc m i ((topF m i).pc + 1)).th i).stack = (m.th i).stack := by
    unfold setPc VMD.setTh VMD.th
    simp only
    rw [List.getD_eq_getElem?_getD, List.getElem?_set_self hi]
    rfl
  unfold callP
  simp only [hs]
  rw [if_neg (by rw [h2]; decide), if_neg (by rw [h2]; decide), h3]
  simp (config := {decide := true}) only [if_false]
  unfold builtinP
  rw [if_pos rfl]
  have ha : ((m.th i).stack.drop ((m.th i).stack.length - opdX m i - 1 + 1)).getD 0 nilV = prA m i := rfl
  rw [ha]
  have hc : ¬ ((setPc m i ((topF m i).pc + 1)).out.length + (textV (prA m i)).length + 1 > 200) := by rw [setPc_out]; omega
  simp only [if_neg hc]
  unfold prM
  simp only [txtF_fmt, setPc_out]
theorem rnd_ok {fu : Nat} {m : VMD} {i : Nat} (h : LogOk (rnd fmtN fu m i).2) : (rnd fmtN fu m i).1 = roundP fu m i := by
  unfold rnd at h ⊢
  split
  · rename_i hc
    rw [if_pos hc] at h
    have := instr_ca hc (h (_, 40) List.mem_cons_self)
    unfold roundP
    rw [this]
    rfl
  · rename_i hc
    rw [if_neg hc] at h
    split
    · rename_i hp
      rw [if_pos hp] at h
      rw [Bool.and_eq_true, bne_iff_ne] at hp
      have := instr_pr hp.1 (h (_, 200) List.mem_cons_self)
      unfold roundP
      rw [this]
      simp only
      rw [if_neg (by simp; exact hp.2)]
      rfl
    · rfl
theorem rnds_log (F : Nat → Bs) : ∀ (n fu : Nat) (m : VMD) (i : Nat) (lg : List (Bs × Nat)) r lg', rnds F n fu m i lg = some (r, lg') → ∀ a ∈ lg, a ∈ lg' := by
  intro n
  induction n with
  | zero => intro fu m i lg r lg' h; cases h
  | succ n ih =>
    intro fu m i lg r lg' h a ha
    unfold rnds at h
    split at h
    · cases h; exact List.mem_append_left _ ha
    · exact ih _ _ _ _ _ _ h a (List.mem_append_left _ ha)
theorem rnds_ok : ∀ (n fu : Nat) (m : VMD) (i : Nat) (lg : List (Bs × Nat)) r lg', rnds fmtN n fu m i lg = some (r, lg') → LogOk lg' → roundsP n fu m i = some r := by
  intro n
  induction n with
  | zero => intro fu m i lg r lg' h _; cases h
  | succ n ih =>
    intro fu m i lg r lg' h hl
    have hk : LogOk (rnd fmtN fu m i).2 := by
      intro a ha
      refine hl a ?_
      unfold rnds at h
      split at h
      · rename_i r0 l e
        cases h
        rw [e] at ha
        exact List.mem_append_right _ ha
      · rename_i r0 l e
        rw [e] at ha
        exact rnds_log _ _ _ _ _ _ _ _ h a (List.mem_append_right _ ha)
    have e := rnd_ok hk
    unfold rnds at h
    unfold roundsP
    rw [← e]
    split at h
    · rename_i r0 l e2
      cases h
      rw [e2]
    · rename_i r0 l e2
      rw [e2]
      exact ih _ _ _ _ _ _ h hl
/-- what is told of a run: its event, the fuel, the output, the log -/
def tellR (o : Option ((EvD × Nat × VMD) × List (Bs × Nat))) : Option (Nat × Nat × Vl × Nat × Bs × List (Bs × Nat)) := o.map fun r => (r.1.1.k, r.1.1.e, r.1.1.v, r.1.2.1, r.1.2.2.out, r.2)
/-- a whole run, with no other thread -/
theorem run_end {img : Bs} {im : ImD} {n : Nat} {fuel : Int} {out : Bs} {lg : List (Bs × Nat)} (hl : img.length ≤ 32768) (hd : decodeP img = some im) (h : tellR (rnds fmtN n fuel.toNat (startP (loadM im) 0 nilV nilV) 0 []) = some (1, 0, nilV, 0, out, lg)) (hg : LogOk lg) : runN (n + 1) img fuel = some ⟨0, 0, 0, out, showV nilV⟩ := by
  unfold tellR at h
  cases hr : rnds fmtN n fuel.toNat (startP (loadM im) 0 nilV nilV) 0 [] with
  | none => rw [hr] at h; cases h
  | some r =>
    obtain ⟨⟨ev, fu, m⟩, lg'⟩ := r
    rw [hr] at h
    simp only [Option.map_some, Option.some.injEq, Prod.mk.injEq] at h
    obtain ⟨h1, h2, h3, h4, h5, h6⟩ := h
    subst h6
    have := rnds_ok _ _ _ _ _ _ _ hr hg
    unfold runN loadP
    rw [if_neg (by omega), hd]
    simp only
    unfold coP
    rw [this]
    simp only [h1]
    simp (config := {decide := true}) only [if_true, if_false, h3, h4, h5]
theorem run_fuel {img : Bs} {im : ImD} {n : Nat} {fuel : Int} {out : Bs} {lg : List (Bs × Nat)} {v : Vl} (hl : img.length ≤ 32768) (hd : decodeP img = some im) (h : tellR (rnds fmtN n fuel.toNat (startP (loadM im) 0 nilV nilV) 0 []) = some (5, 9, v, 0, out, lg)) (hg : LogOk lg) : runN (n + 1) img fuel = some ⟨9, 0, 0, out, [45]⟩ := by
  unfold tellR at h
  cases hr : rnds fmtN n fuel.toNat (startP (loadM im) 0 nilV nilV) 0 [] with
  | none => rw [hr] at h; cases h
  | some r =>
    obtain ⟨⟨ev, fu, m⟩, lg'⟩ := r
    rw [hr] at h
    simp only [Option.map_some, Option.some.injEq, Prod.mk.injEq] at h
    obtain ⟨h1, h2, h3, h4, h5, h6⟩ := h
    subst h6
    have := rnds_ok _ _ _ _ _ _ _ hr hg
    unfold runN loadP
    rw [if_neg (by omega), hd]
    simp only
    unfold coP
    rw [this]
    simp only [h1]
    simp (config := {decide := true}) only [if_true, if_false, h2, h4, h5]
end Go.Proofs.Qxb6500574aGreatDoor
