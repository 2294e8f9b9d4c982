/-
  THE TYPING of the flat code: the plain instructions. No program.
-/
import Derived.Test.Qxb6500575aGreatDoorLawT2
namespace Go.Proofs.Qxb6500575aGreatDoor
open Go Go.RowKit
set_option linter.unusedVariables false
set_option linter.unusedSimpArgs false

variable {E : Env} {s : Ck} {T : Typing} {opn : List Int} {ks : List Kd}
structure EnvTy (E : Env) : Prop where
  ps : ∀ u ∈ E.funs, TyL u.params
  rs : ∀ u ∈ E.funs, TyL u.results
  loc : TyL (E.me.params ++ E.me.locals)
  res : TyL E.me.results
theorem pops_floors (hj : J opn s ks) (l z : List UInt8) : Floors s (z ++ (s.pops l).1.st) := by
  obtain ⟨b, r, ho, hb⟩ := hj.cons
  obtain ⟨x, hx⟩ := pops_suffix s l
  exact floors_of hj ho hx (Ck.pops_top ⟨ho, hb⟩ l).fl
theorem leaves_form {b : Blk} {r : List Blk} (ho : s.opn = b :: r) (hb : b.height ≤ s.st.length) (l : List UInt8) :
    s.leaves l = ({ st := cut b.height s.st, opn := { b with dead := true } :: r, code := s.code }, (s.pops l).2) := by
  unfold Ck.leaves
  rw [s.pops_opn, ho]
  simp only
  obtain ⟨x, hx⟩ := pops_suffix s l
  have h2 := (Ck.pops_top ⟨ho, hb⟩ l).fl
  have : cut b.height (s.pops l).1.st = cut b.height s.st := by
    conv => rhs; rw [hx]
    rw [cut_app h2]
  rw [this, s.pops_code]
theorem cut_floors (hj : J opn s ks) {b : Blk} {r : List Blk} (ho : s.opn = b :: r) (hb : b.height ≤ s.st.length) : Floors s (cut b.height s.st) := by
  obtain ⟨x, hx⟩ := cut_suffix b.height s.st
  have := floors_of (z := []) hj ho hx (by rw [cut_len hb]; exact Nat.le_refl _)
  simpa using this
theorem alive_top {b : Blk} {r : List Blk} (ho : s.opn = b :: r) (ha : alive s.opn = true) : b.dead = false := by
  rw [ho, alive_cons] at ha
  simp at ha
  exact ha.1
theorem well_imm {c : Ins} (hw : well c = true) (h : c.op = 6 ∨ c.op = 7 ∨ c.op = 10 ∨ c.op = 13 ∨ c.op = 14) : 0 ≤ c.imm := by
  unfold well at hw
  rw [if_neg (by omega)] at hw
  split at hw
  · cases hw
  · rw [if_neg (by omega)] at hw
    simp at hw
    exact hw.1
theorem sigs_ty (op : Int) : TyL (sigsP op).1 ∧ TyL (sigsP op).2.1 := by
  unfold sigsP
  repeat' split
  all_goals refine ⟨fun x hx => ?_, fun x hx => ?_⟩
  all_goals simp only [List.mem_cons, List.not_mem_nil, or_false, or_self] at hx
  all_goals first | exact hx | exact .inl hx | exact .inr hx
theorem sigs_known' {op : Int} (h : (sigsP op).2.2 = true) : 15 ≤ op := by
  unfold sigsP at h
  split at h
  · omega
  split at h
  · omega
  split at h
  · omega
  split at h
  · omega
  split at h
  · omega
  split at h
  · omega
  split at h
  · omega
  split at h
  · omega
  split at h
  · omega
  · cases h

theorem TN.plain (hE : EnvTy E) (hj : J opn s ks) (h : TN E s T) (c : Ins) (hw : well c = true) (hlen : (s.plainOne E c).1.st.length ≤ 24) (hz : (s.plainOne E c).2 = 0) :
    ∃ T', TN E { (s.plainOne E c).1 with code := (s.plainOne E c).1.code ++ [{ op := c.op, imm := c.imm, keep := 0, cut := 0 }] } T' := by
  obtain ⟨b, r, ho, hb⟩ := hj.cons
  have hlv : alive s.opn = true → b.dead = false ∧ TyL s.st := fun ha => ⟨alive_top ho ha, (h.live ha).2.1⟩
  unfold Ck.plainOne Ck.handle at hz hlen ⊢
  by_cases h0 : c.op = 0
  · simp only [h0, if_true] at hz hlen ⊢
    rw [leaves_form ho hb] at hz ⊢
    refine h.emit hj { st := cut b.height s.st, opn := { b with dead := true } :: r, code := s.code } rfl (cut_floors hj ho hb) (.inr ⟨b, r, ho, rfl⟩) _ (fun _ ha => by simp [alive_cons] at ha) (fun G T' code' ha ht => ?_)
    refine ⟨?_, ?_, ?_, ?_, ?_, ?_, ?_, ?_, ?_, ?_, ?_, ?_, ?_, ?_⟩ <;> simp only <;> intro e <;> omega
  rw [if_neg h0] at hz hlen ⊢
  by_cases h9 : c.op = 9
  · simp only [h9, if_true] at hz hlen ⊢
    rw [leaves_form ho hb] at hz ⊢
    refine h.emit hj { st := cut b.height s.st, opn := { b with dead := true } :: r, code := s.code } rfl (cut_floors hj ho hb) (.inr ⟨b, r, ho, rfl⟩) _ (fun _ ha => by simp [alive_cons] at ha) (fun G T' code' ha ht => ?_)
    have := pops_live ho (hlv ha).1 (hlv ha).2 hE.res hz
    refine ⟨?_, ?_, ?_, ?_, ?_, ?_, ?_, fun _ => ⟨_, this⟩, ?_, ?_, ?_, ?_, ?_, ?_⟩ <;> simp only <;> intro e <;> omega
  rw [if_neg h9] at hz hlen ⊢
  by_cases h11 : c.op = 11
  · simp only [h11, if_true] at hz hlen ⊢
    have hf := pops_floors hj [0] []
    refine h.emit hj _ (s.pops_code _) (by simpa using hf) (.inl (s.pops_opn _)) _ (fun ha _ => ?_) (fun G T' code' ha ht => ?_)
    · obtain ⟨x, hx⟩ := pops_suffix s [0]
      have := (hlv ha).2
      rw [hx] at this
      exact ⟨this.right, hlen⟩
    · have e : ∃ u, s.st = u :: (s.pops [0]).1.st := by
        unfold Ck.pops at hz ⊢
        simp only [List.reverse_cons, List.reverse_nil, List.nil_append] at hz ⊢
        unfold Ck.popsR at hz ⊢
        split
        · rename_i hp
          obtain ⟨u, e1, _⟩ := pop_live ho (hlv ha).1 (hlv ha).2 0 hp
          exact ⟨u, e1⟩
        · rename_i hp
          rw [if_neg hp] at hz; cases hz
      obtain ⟨u, hu⟩ := e
      refine ⟨?_, ?_, ?_, ?_, ?_, ?_, ?_, ?_, ?_, fun _ => ⟨u, _, hu, ht (by rw [s.pops_opn]; exact ha)⟩, ?_, ?_, ?_, ?_⟩ <;> simp only <;> intro e <;> omega
  rw [if_neg h11] at hz hlen ⊢
  by_cases h10 : c.op = 10
  · simp only [h10, if_true] at hz hlen ⊢
    have hi := well_imm hw (by omega)
    unfold Ck.call at hz hlen ⊢
    cases hu : E.funs[c.imm.toNat]? with
    | none => rw [hu] at hz; cases hz
    | some u =>
      rw [hu] at hz hlen
      simp only at hz hlen ⊢
      have hum := List.mem_of_getElem? hu
      refine h.emit hj (s.swap u.params u.results).1 (s.pops_code _) (pops_floors hj _ _) (.inl (s.pops_opn _)) _ (fun ha _ => ?_) (fun G T' code' ha ht => ?_)
      · have e := pops_live ho (hlv ha).1 (hlv ha).2 (hE.ps u hum) hz
        have := (hlv ha).2
        rw [e] at this
        exact ⟨(hE.rs u hum).reverse.append this.right, hlen⟩
      · have e := pops_live ho (hlv ha).1 (hlv ha).2 (hE.ps u hum) hz
        refine ⟨?_, ?_, ?_, ?_, ?_, ?_, ?_, ?_, fun _ => ⟨u, _, hi, hu, e, ht (by simp only [Ck.swap, s.pops_opn]; exact ha)⟩, ?_, ?_, ?_, ?_, ?_⟩ <;> simp only <;> intro e <;> omega
  rw [if_neg h10] at hz hlen ⊢
  by_cases h12 : c.op = 12
  · simp only [h12, if_true] at hz hlen ⊢
    unfold Ck.sel at hz hlen ⊢
    simp only at hz hlen ⊢
    have ht1 := Ck.pops_top ⟨ho, hb⟩ [105]
    obtain ⟨x1, hx1⟩ := pops_suffix s [105]
    have hc1 := s.pops_code [105]
    have key : alive s.opn = true → (s.pops [105]).2 = 0 → s.st = 105 :: (s.pops [105]).1.st := fun ha hz => by
      have := pops_live (l := [105]) ho (hlv ha).1 (hlv ha).2 (by intro x hx; simp at hx; subst hx; exact .inl rfl) hz
      simpa using this
    have ho1 := s.pops_opn [105]
    generalize s.pops [105] = p1 at *
    obtain ⟨s1, e1⟩ := p1
    simp only at *
    have ht2 := Ck.pop_top ht1 0
    obtain ⟨x2, hx2⟩ := pop_suffix s1 0
    have hc2 := s1.pop_code 0
    have ho2 := s1.pop_opn 0
    have key2 := fun hd ht hp => pop_live (s := s1) ht1.opn hd ht 0 hp
    generalize s1.pop 0 = p2 at *
    obtain ⟨s2, a2, q2⟩ := p2
    simp only at *
    have ht3 := Ck.pop_top ht2 a2
    obtain ⟨x3, hx3⟩ := pop_suffix s2 a2
    have hc3 := s2.pop_code a2
    have ho3 := s2.pop_opn a2
    have key3 := fun hd ht hp => pop_live (s := s2) ht2.opn hd ht a2 hp
    generalize s2.pop a2 = p3 at *
    obtain ⟨s3, a3, q3⟩ := p3
    simp only at *
    have hq : q2 = true ∧ q3 = true ∧ e1 = 0 := by
      cases q2 <;> cases q3 <;> simp at hz ⊢
      exact hz
    obtain ⟨hq2, hq3, he1⟩ := hq
    have hx : s.st = (x1 ++ (x2 ++ x3)) ++ s3.st := by rw [hx1, hx2, hx3]; simp
    have fin : alive s.opn = true → ∃ t, s.st = 105 :: t :: t :: s3.st ∧ a3 = t ∧ Ty t := fun ha => by
      have k1 := key ha he1
      have ty1 : TyL s1.st := fun x hx => (hlv ha).2 x (by rw [k1]; simp [hx])
      obtain ⟨u, k2, k2', _, tu⟩ := key2 (hlv ha).1 ty1 hq2
      have ty2 : TyL s2.st := fun x hx => ty1 x (by rw [k2]; simp [hx])
      obtain ⟨v, k3, k3', k3'', tv⟩ := key3 (hlv ha).1 ty2 hq3
      have : v = u := by
        rcases k3'' with e | e
        · rw [e] at k2'; exact absurd k2'.symm tu.ne0
        · rw [e, k2']
      exact ⟨u, by rw [k1, k2, k3, this], by rw [k3', this], tu⟩
    have hopn3 : s3.opn = s.opn := by rw [ho3, ho2, ho1]
    refine h.emit hj { st := a3 :: s3.st, opn := s3.opn, code := s3.code } (by simp only; rw [hc3, hc2, hc1]) (floors_of (z := [a3]) hj ho hx ht3.fl) (.inl hopn3) _ (fun ha _ => ?_) (fun G T' code' ha ht => ?_)
    · obtain ⟨t, e1, e2, e3⟩ := fin ha
      refine ⟨fun x hx => ?_, hlen⟩
      rcases List.mem_cons.1 hx with h | h
      · rw [h, e2]; exact e3
      · exact (hlv ha).2 x (by rw [e1]; simp [h])
    · obtain ⟨t, e1, e2, e3⟩ := fin ha
      refine ⟨?_, ?_, ?_, ?_, ?_, ?_, ?_, ?_, ?_, ?_, fun _ => ⟨t, _, e1, by rw [ht (by rw [hopn3]; exact ha)]; simp only [e2]⟩, ?_, ?_, ?_⟩ <;> simp only <;> intro e <;> omega
  rw [if_neg h12] at hz hlen ⊢
  by_cases h13 : c.op = 13 ∨ c.op = 14
  · simp only [h13, if_true] at hz hlen ⊢
    have hi := well_imm hw (by omega)
    unfold Ck.local at hz hlen ⊢
    cases hu : (E.me.params ++ E.me.locals)[c.imm.toNat]? with
    | none => rw [hu] at hz; cases hz
    | some t =>
      rw [hu] at hz hlen
      simp only at hz hlen ⊢
      have htt : Ty t := hE.loc t (List.mem_of_getElem? hu)
      by_cases h14 : c.op = 14
      · simp only [h14, if_true] at hz hlen ⊢
        have hf := pops_floors hj [t] []
        have key : alive s.opn = true → s.st = t :: (s.pops [t]).1.st := fun ha => by
          have := pops_live (l := [t]) ho (hlv ha).1 (hlv ha).2 (by intro x hx; simp at hx; subst hx; exact htt) hz
          simpa using this
        refine h.emit hj _ (s.pops_code _) (by simpa using hf) (.inl (s.pops_opn _)) _ (fun ha _ => ?_) (fun G T' code' ha ht => ?_)
        · exact ⟨fun x hx => (hlv ha).2 x (by rw [key ha]; simp [hx]), hlen⟩
        · refine ⟨?_, ?_, ?_, ?_, ?_, ?_, ?_, ?_, ?_, ?_, ?_, ?_, fun _ => ⟨t, _, hi, hu, key ha, ht (by rw [s.pops_opn]; exact ha)⟩, ?_⟩ <;> simp only <;> intro e <;> omega
      · rw [if_neg h14] at hz hlen ⊢
        have e0 : (s.swap [] [t]).1 = { s with st := t :: s.st } := by simp [Ck.swap, Ck.pops, Ck.popsR]
        rw [e0] at hlen ⊢
        refine h.emit hj { s with st := t :: s.st } rfl (by have := pops_floors hj [] [t]; simpa [Ck.pops, Ck.popsR] using this) (.inl rfl) _ (fun ha _ => ?_) (fun G T' code' ha ht => ?_)
        · refine ⟨fun x hx => ?_, hlen⟩
          rcases List.mem_cons.1 hx with h | h
          · rw [h]; exact htt
          · exact (hlv ha).2 x h
        · refine ⟨?_, ?_, ?_, ?_, ?_, ?_, ?_, ?_, ?_, ?_, ?_, fun _ => ⟨t, hi, hu, ht ha⟩, ?_, ?_⟩ <;> simp only <;> intro e <;> omega
  simp only [if_neg h13] at hz hlen ⊢
  by_cases hp : (sigsP c.op).2.2 = true
  · rw [if_pos hp] at hz hlen ⊢
    have h15 := sigs_known' hp
    refine h.emit hj (s.swap (sigsP c.op).1 (sigsP c.op).2.1).1 (s.pops_code _) (pops_floors hj _ _) (.inl (s.pops_opn _)) _ (fun ha _ => ?_) (fun G T' code' ha ht => ?_)
    · have e := pops_live ho (hlv ha).1 (hlv ha).2 (sigs_ty c.op).1 hz
      have := (hlv ha).2
      rw [e] at this
      exact ⟨(sigs_ty c.op).2.reverse.append this.right, hlen⟩
    · have e := pops_live ho (hlv ha).1 (hlv ha).2 (sigs_ty c.op).1 hz
      refine ⟨?_, ?_, ?_, ?_, ?_, ?_, ?_, ?_, ?_, ?_, ?_, ?_, ?_, fun _ => ⟨hp, _, e, ht (by simp only [Ck.swap, s.pops_opn]; exact ha)⟩⟩ <;> simp only <;> intro e <;> omega
  · rw [if_neg hp] at hz
    cases hz
end Go.Proofs.Qxb6500575aGreatDoor
