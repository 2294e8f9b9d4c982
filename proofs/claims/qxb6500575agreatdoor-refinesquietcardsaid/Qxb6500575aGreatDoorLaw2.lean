/-
  THE PLAIN LAW: nest OK: every state of the walk fits (body_ok); an accepted body is final (inv_at). No program.
-/
import Derived.Test.Qxb6500575aGreatDoorLaw1
namespace Go.Proofs.Qxb6500575aGreatDoor
open Go Go.RowKit
set_option linter.unusedVariables false
set_option linter.unusedSimpArgs false
def Hts : List Blk → Nat → Prop
  | [], _ => True
  | b :: r, n => b.height ≤ n ∧ Hts r b.height
theorem Hts.mono : ∀ {bs : List Blk} {n n' : Nat}, Hts bs n → n ≤ n' → Hts bs n'
  | [], _, _, _, _ => trivial
  | _ :: _, _, _, h, hl => ⟨Nat.le_trans h.1 hl, h.2⟩
theorem Hts.le : ∀ {bs : List Blk} {n : Nat}, Hts bs n → ∀ b ∈ bs, b.height ≤ n
  | [], _, _, b, hb => by cases hb
  | b :: r, n, h, x, hx => by
    rcases List.mem_cons.1 hx with rfl | h1
    · exact h.1
    · exact Nat.le_trans (Hts.le h.2 x h1) h.1
theorem Hts.congr : ∀ {bs bs' : List Blk} {n : Nat}, bs.map (·.height) = bs'.map (·.height) → Hts bs n → Hts bs' n
  | [], [], _, _, _ => trivial
  | [], _ :: _, _, e, _ => by cases e
  | _ :: _, [], _, e, _ => by cases e
  | b :: r, b' :: r', n, e, h => by
    simp at e
    exact ⟨by rw [← e.1]; exact h.1, Hts.congr e.2 (by rw [← e.1]; exact h.2)⟩

/-- the same blocks, the top one's flag aside; the stack at most one higher; the floor stays -/
structure StOk (s s' : Ck) : Prop where
  opn : s'.opn = s.opn ∨ ∃ b r, s.opn = b :: r ∧ s'.opn = { b with dead := true } :: r
  code : s'.code = s.code
  st : s'.st.length ≤ s.st.length + 1
  fl : ∀ b r, s.opn = b :: r → b.height ≤ s.st.length → b.height ≤ s'.st.length
structure J (opn : List Int) (s : Ck) (ks : List Kd) : Prop where
  c : InvC opn s.opn s.code ks
  h : Hts s.opn s.st.length
theorem J.cons {opn : List Int} {s : Ck} {ks : List Kd} (h : J opn s ks) : ∃ b r, s.opn = b :: r ∧ b.height ≤ s.st.length := by
  have hl := h.c.len
  cases ho : s.opn with
  | nil => rw [ho] at hl; simp at hl
  | cons b r => exact ⟨b, r, rfl, by have := h.h; rw [ho] at this; exact this.1⟩
theorem J.stOk {opn : List Int} {s s' : Ck} {ks : List Kd} (h : J opn s ks) (hs : StOk s s') : J opn s' ks := by
  obtain ⟨b, r, ho, hb⟩ := h.cons
  have hf := hs.fl b r ho hb
  have hc := h.c
  have hh := h.h
  rw [ho] at hc hh
  rcases hs.opn with e | ⟨b', r', e1, e2⟩
  · rw [ho] at e
    exact ⟨by rw [e, hs.code]; exact hc, by rw [e]; exact ⟨hf, hh.2⟩⟩
  · rw [ho] at e1
    simp at e1
    obtain ⟨rfl, rfl⟩ := e1
    exact ⟨by rw [e2, hs.code]; exact hc.dead true, by rw [e2]; exact ⟨hf, hh.2⟩⟩
theorem StOk.pops (s : Ck) (l : List UInt8) : StOk s (s.pops l).1 :=
  ⟨.inl (s.pops_opn l), s.pops_code l, Nat.le_succ_of_le (s.pops_len l), fun _ _ ho hb => (Ck.pops_top ⟨ho, hb⟩ l).fl⟩
theorem StOk.pops' (s : Ck) (l : List UInt8) : (s.pops l).1.st.length ≤ s.st.length := s.pops_len l
theorem StOk.pop (s : Ck) (t : UInt8) : StOk s (s.pop t).1 :=
  ⟨.inl (s.pop_opn t), s.pop_code t, Nat.le_succ_of_le (s.pop_len t), fun _ _ ho hb => (Ck.pop_top ⟨ho, hb⟩ t).fl⟩
theorem StOk.swap (s : Ck) (i o : List UInt8) (ho : o.length ≤ 1) : StOk s (s.swap i o).1 := by
  refine ⟨.inl (s.pops_opn i), s.pops_code i, ?_, fun b r hb hl => ?_⟩
  · have := s.pops_len i
    simp [Ck.swap]; omega
  · have := (Ck.pops_top ⟨hb, hl⟩ i).fl
    simp [Ck.swap]; omega
theorem StOk.leaves {opn : List Int} {s : Ck} {ks : List Kd} (h : J opn s ks) (l : List UInt8) : StOk s (s.leaves l).1 ∧ (s.leaves l).1.st.length ≤ s.st.length := by
  obtain ⟨b, r, ho, hb⟩ := h.cons
  have h1 := s.pops_len l
  have h2 := (Ck.pops_top ⟨ho, hb⟩ l).fl
  have h3 : (s.pops l).1.opn = b :: r := by rw [s.pops_opn]; exact ho
  have h4 := s.pops_code l
  have e : s.leaves l = ({ (s.pops l).1 with st := cut b.height (s.pops l).1.st, opn := { b with dead := true } :: r }, (s.pops l).2) := by
    unfold Ck.leaves
    rw [h3]
  rw [e]
  have hc := cut_len h2
  refine ⟨⟨.inr ⟨b, r, ho, rfl⟩, h4, by simp only; omega, fun b' r' hb' hl => ?_⟩, by simp only; omega⟩
  rw [ho] at hb'
  simp at hb'
  obtain ⟨rfl, rfl⟩ := hb'
  simp only; omega
theorem J.emit {opn : List Int} {s : Ck} {ks : List Kd} (h : J opn s ks) (op imm : Int) : J opn { s with code := s.code ++ [⟨op, imm, 0, 0⟩] } (ks ++ [⟨0, op, imm⟩]) := ⟨h.c.emit op imm, h.h⟩
theorem map_set_same {α β : Type} (f : α → β) : ∀ (l : List α) (i : Nat) (x y : α), l[i]? = some x → f y = f x → (l.set i y).map f = l.map f
  | [], _, _, _, h, _ => by cases h
  | a :: l, 0, x, y, h, e => by simp at h; subst h; simp [e]
  | a :: l, i + 1, x, y, h, e => by simp at h; simp [map_set_same f l i x y h e]
theorem J.jump {opn : List Int} {s : Ck} {ks : List Kd} (h : J opn s ks) (hs : s.st.length ≤ 24) (op : Int) (l : Nat) (hl : l < s.opn.length) :
    J opn (s.jump op l).1 (ks ++ [⟨2, op, 0⟩]) ∧ (s.jump op l).1.st = s.st ∧ (s.jump op l).1.opn.length = s.opn.length ∧ (s.jump op l).1.code.length = s.code.length + 1 ∧ (s.jump op l).2.length ≤ 1 := by
  have hb : s.opn[l]? = some s.opn[l] := List.getElem?_eq_getElem hl
  have hh := h.h.le _ (List.getElem_mem hl)
  unfold Ck.jump
  rw [hb]
  refine ⟨⟨h.c.jump op l _ hb (by omega), ?_⟩, rfl, ?_, by simp, (h.c.res _ (List.getElem_mem hl)).2⟩
  · refine Hts.congr ?_ h.h
    simp only
    split
    · exact (map_set_same (fun x : Blk => x.height) s.opn l _ { s.opn[l] with wait := s.opn[l].wait ++ [s.code.length] } hb rfl).symm
    · rfl
  · simp only
    split <;> simp
theorem J.jumps {opn : List Int} (d : List UInt8) : ∀ (tab : List UInt8) (s : Ck) (ks : List Kd) (q : Bool), J opn s ks → s.st.length ≤ 24 → (∀ t ∈ tab, t.toNat < s.opn.length) →
    J opn (tab.foldl (fun p t => ((p.1.jump 6 t.toNat).1, p.2 && (p.1.jump 6 t.toNat).2 == d)) (s, q)).1 (ks ++ List.replicate tab.length ⟨2, 6, 0⟩) ∧ (tab.foldl (fun p t => ((p.1.jump 6 t.toNat).1, p.2 && (p.1.jump 6 t.toNat).2 == d)) (s, q)).1.st = s.st ∧
      (tab.foldl (fun p t => ((p.1.jump 6 t.toNat).1, p.2 && (p.1.jump 6 t.toNat).2 == d)) (s, q)).1.code.length = s.code.length + tab.length
  | [], s, ks, q, h, _, _ => by simpa using h
  | t :: tab, s, ks, q, h, hs, ht => by
    obtain ⟨h1, h2, h3, h4, _⟩ := h.jump hs 6 t.toNat (ht t (by simp))
    have ih := J.jumps d tab (s.jump 6 t.toNat).1 (ks ++ [⟨2, 6, 0⟩]) (q && (s.jump 6 t.toNat).2 == d) h1 (by rw [h2]; exact hs) (fun x hx => by rw [h3]; exact ht x (by simp [hx]))
    simp only [List.foldl_cons]
    refine ⟨?_, by rw [ih.2.1, h2], by rw [ih.2.2, h4]; simp; omega⟩
    have := ih.1
    simpa [List.replicate_succ] using this

/-- the invariant ahead of instruction k -/
structure Inv (opn : List Int) (s : Ck) (ks : List Kd) (k : Nat) : Prop where
  j : J opn s ks
  st : s.st.length ≤ k
  cl : s.code.length ≤ 6 * k

theorem resOf_len (imm : Int) : (resOf imm).length ≤ 1 := by unfold resOf; split <;> simp
theorem Ck.closes_ok {s : Ck} {b : Blk} {r : List Blk} (ho : s.opn = b :: r) (hz : s.closes.2 = 0) : s.closes.1 = (s.pops b.res).1 ∧ (s.pops b.res).1.st.length = b.height ∧ (s.pops b.res).2 = 0 := by
  have e : s.closes = ((s.pops b.res).1, if (s.pops b.res).1.st.length ≠ b.height then 6 else (s.pops b.res).2) := by
    unfold Ck.closes
    rw [ho]
  rw [e] at hz ⊢
  simp only at hz
  split at hz
  · cases hz
  · rename_i h1
    exact ⟨rfl, by omega, hz⟩

variable {opn : List Int} {s : Ck} {ks : List Kd} {k : Nat}
theorem Inv.enter (h : Inv opn s ks k) (c : Ins) (hc : c.op = 1 ∨ c.op = 2 ∨ c.op = 3) : Inv (c.op :: opn) (s.enter c).1 (ks ++ emitK c false) (k + 1) := by
  have hst := h.st
  have hcl := h.cl
  unfold Ck.enter emitK
  by_cases h2 : c.op = 2
  · rw [if_pos h2, if_pos (.inr h2), h2]
    simp only [List.append_nil]
    refine ⟨⟨h.j.c.open _ 2 (by decide) rfl rfl ⟨resOf_len _, by simp⟩ (.inr ⟨by simp, by simp, rfl⟩), ⟨Nat.le_refl _, h.j.h⟩⟩, by simp only; omega, by simp only; omega⟩
  · rw [if_neg h2]
    by_cases h3 : c.op = 3
    · rw [if_pos h3, if_neg (by omega), if_pos (.inl h3), h3]
      have h1 := h.j.stOk (StOk.pops s [105])
      have h4 := s.pops_len [105]
      have h5 := s.pops_opn [105]
      have h6 := s.pops_code [105]
      have hc1 := h1.c
      rw [h5, h6] at hc1
      refine ⟨⟨hc1.openIf _ rfl rfl ⟨resOf_len _, resOf_len _⟩ rfl, ⟨Nat.le_refl _, ?_⟩⟩, by simp only; omega, by simp only [List.length_append, List.length_singleton]; omega⟩
      have := h1.h
      rw [h5] at this
      exact this
    · have h1 : c.op = 1 := by omega
      rw [if_neg h3, if_pos (.inl h1), h1]
      simp only [List.append_nil]
      refine ⟨⟨h.j.c.open _ 1 (by decide) rfl rfl ⟨resOf_len _, resOf_len _⟩ (.inl rfl), ⟨Nat.le_refl _, h.j.h⟩⟩, by simp only; omega, by simp only; omega⟩
theorem Inv.turn {o : Int} (h : Inv (o :: opn) s ks k) (ho : o = 3) (hz : s.turn.2 = 0) : Inv (4 :: opn) s.turn.1 (ks ++ [⟨1, 4, 0⟩]) (k + 1) := by
  have hst := h.st
  have hcl := h.cl
  obtain ⟨b, r, hop, hb⟩ := h.j.cons
  have hal : b.alt.isSome = true := by
    have := h.j.c.alts 0 b (by rw [hop]; rfl)
    rw [this, ho]; rfl
  obtain ⟨al, hal⟩ := Option.isSome_iff_exists.1 hal
  have hco : s.closes.1.opn = b :: r := by
    unfold Ck.closes
    rw [hop]
    simp only
    rw [s.pops_opn]; exact hop
  have e : s.turn = ({ s.closes.1 with
        code := patchAt (s.closes.1.code ++ [{ op := 4, imm := -1, keep := 0, cut := 0 }]) (b.alt.getD 0) ((s.closes.1.code.length : Int) + 1),
        opn := { b with wait := b.wait ++ [s.closes.1.code.length], alt := none, dead := false } :: r }, s.closes.2) := by
    unfold Ck.turn
    rw [hco]
  rw [e] at hz ⊢
  obtain ⟨e1, e2, _⟩ := Ck.closes_ok hop hz
  rw [e1]
  have h1 := h.j.stOk (StOk.pops s b.res)
  have h4 := s.pops_len b.res
  have h5 := s.pops_opn b.res
  have h6 := s.pops_code b.res
  have hc1 := h1.c
  have hh1 := h1.h
  rw [h5, hop] at hc1 hh1
  have := hc1.turn hal
  refine ⟨⟨?_, ?_⟩, by simp only; omega, by simp only [patchAt_len, List.length_append, List.length_singleton, h6]; omega⟩
  · simp only [hal, Option.getD_some]
    exact this
  · exact hh1
theorem Inv.leave {o : Int} (h : Inv (o :: opn) s ks k) (hz : s.leave.2 = 0) : Inv opn s.leave.1 ks (k + 1) := by
  have hst := h.st
  have hcl := h.cl
  obtain ⟨b, r, hop, hb⟩ := h.j.cons
  have hco : s.closes.1.opn = b :: r := by
    unfold Ck.closes
    rw [hop]
    simp only
    rw [s.pops_opn]; exact hop
  have e : s.leave = ({ st := b.res.reverse ++ s.closes.1.st, opn := r, code := patchAll s.closes.1.code s.closes.1.code.length (b.wait ++ b.alt.toList) ++ (if r.isEmpty then [{ op := 5, imm := 0, keep := 0, cut := 0 }] else []) },
     if b.alt.isSome && !b.res.isEmpty then 6 else s.closes.2) := by
    unfold Ck.leave
    rw [hco]
  rw [e] at hz ⊢
  have hz' : s.closes.2 = 0 := by
    simp only at hz
    split at hz
    · cases hz
    · exact hz
  obtain ⟨e1, e2, _⟩ := Ck.closes_ok hop hz'
  have hr : r.isEmpty = false := by
    have := h.j.c.len
    rw [hop] at this
    cases r with
    | nil => simp at this
    | cons _ _ => rfl
  have h6 := s.pops_code b.res
  have hc1 := h.j.c
  have hh1 := h.j.h
  have hres := (h.j.c.res b (by rw [hop]; simp)).1
  rw [hop] at hc1 hh1
  simp only [hr, Bool.false_eq_true, if_false, List.append_nil]
  rw [e1, h6]
  have hlen : (b.res.reverse ++ (s.pops b.res).1.st).length = b.res.length + b.height := by simp [e2]
  refine ⟨⟨hc1.leave, ?_⟩, by simp only [hlen]; omega, by simp only [patchAll_len]; omega⟩
  exact hh1.2.mono (by simp only [hlen]; omega)
theorem Inv.final (h : Inv [] s ks k) (hz : s.leave.2 = 0) : FinalOk s.leave.1.code (ks ++ [⟨0, 5, 0⟩]) := by
  obtain ⟨b, r, hop, hb⟩ := h.j.cons
  obtain rfl : r = [] := by
    have := h.j.c.len
    rw [hop] at this
    simpa using this
  have hco : s.closes.1.opn = [b] := by
    unfold Ck.closes
    rw [hop]
    simp only
    rw [s.pops_opn]; exact hop
  have e : s.leave = ({ st := b.res.reverse ++ s.closes.1.st, opn := [], code := patchAll s.closes.1.code s.closes.1.code.length (b.wait ++ b.alt.toList) ++ [{ op := 5, imm := 0, keep := 0, cut := 0 }] },
     if b.alt.isSome && !b.res.isEmpty then 6 else s.closes.2) := by
    unfold Ck.leave
    rw [hco]
    rfl
  rw [e] at hz ⊢
  have hz' : s.closes.2 = 0 := by
    simp only at hz
    split at hz
    · cases hz
    · exact hz
  obtain ⟨e1, e2, _⟩ := Ck.closes_ok hop hz'
  have h6 := s.pops_code b.res
  have hc1 := h.j.c
  rw [hop] at hc1
  rw [e1, h6]
  exact hc1.final
theorem Inv.branch (h : Inv opn s ks k) (hk : k < 24) (op : Int) (j : Nat) (hz : (s.branch op j).2 = 0) : Inv opn (s.branch op j).1 (ks ++ [⟨2, op, 0⟩]) (k + 1) := by
  have hst := h.st
  have hcl := h.cl
  unfold Ck.branch at hz ⊢
  by_cases hj : s.opn.length ≤ j
  · rw [if_pos hj] at hz
    cases hz
  · rw [if_neg hj]
    obtain ⟨h1, h2, h3, h4, h5⟩ := h.j.jump (by omega) op j (by omega)
    split
    · obtain ⟨g1, g2⟩ := StOk.leaves h1 (s.jump op j).2
      exact ⟨h1.stOk g1, by rw [h2] at g2; omega, by rw [g1.code]; omega⟩
    · have g1 := StOk.swap (s.jump op j).1 ((s.jump op j).2 ++ [105]) (s.jump op j).2 h5
      have g2 := g1.st
      exact ⟨h1.stOk g1, by rw [h2] at g2; omega, by rw [g1.code]; omega⟩
theorem Inv.table (h : Inv opn s ks k) (hk : k < 24) (tab : List UInt8) (hl : tab.length ≤ 5) (hz : (s.table tab).2 = 0) : Inv opn (s.table tab).1 (ks ++ (⟨0, 8, (tab.length : Int) - 1⟩ :: List.replicate tab.length ⟨2, 6, 0⟩)) (k + 1) := by
  have hst := h.st
  have hcl := h.cl
  unfold Ck.table at hz ⊢
  by_cases ha : tab.any (fun t => decide (s.opn.length ≤ t.toNat)) = true
  · rw [if_pos ha] at hz
    cases hz
  · rw [if_neg ha]
    have hall : ∀ t ∈ tab, t.toNat < s.opn.length := by
      intro t ht
      rw [List.any_eq_true] at ha
      have : ¬ s.opn.length ≤ t.toNat := fun hle => ha ⟨t, ht, by simpa using hle⟩
      omega
    have h0 := h.j.emit 8 ((tab.length : Int) - 1)
    obtain ⟨h1, h2, h3⟩ := J.jumps (s.def_ tab) tab _ _ true h0 (by simp only; omega) hall
    obtain ⟨g1, g2⟩ := StOk.leaves h1 (s.def_ tab ++ [105])
    have g3 := h1.stOk g1
    refine ⟨?_, ?_, ?_⟩
    · have e : ks ++ (⟨0, 8, (tab.length : Int) - 1⟩ :: List.replicate tab.length ⟨2, 6, 0⟩) = ks ++ [⟨0, 8, (tab.length : Int) - 1⟩] ++ List.replicate tab.length ⟨2, 6, 0⟩ := by simp
      rw [e]
      exact g3
    · rw [h2] at g2
      exact Nat.le_trans g2 (by simp only; omega)
    · have := g1.code
      show ((Ck.leaves _ _).1.code).length ≤ _
      unfold Ck.jumps
      rw [this, h3]
      simp; omega
theorem sigs_len (op : Int) : (sigsP op).2.1.length ≤ 1 := by
  unfold sigsP
  repeat' split
  all_goals simp
theorem StOk.refl (s : Ck) : StOk s s := ⟨.inl rfl, rfl, Nat.le_succ _, fun _ _ _ h => h⟩
theorem StOk.handle {E : Env} (h : J opn s ks) (hr : ∀ u ∈ E.funs, u.results.length ≤ 1) (c : Ins) (p : Ck × Int) (hp : s.handle E c = some p) : StOk s p.1 := by
  unfold Ck.handle at hp
  split at hp
  · have := Option.some.inj hp; subst this; exact (StOk.leaves h _).1
  split at hp
  · have := Option.some.inj hp; subst this; exact (StOk.leaves h _).1
  split at hp
  · have := Option.some.inj hp; subst this; exact StOk.pops _ _
  split at hp
  · have := Option.some.inj hp; subst this
    unfold Ck.call
    split
    · exact StOk.refl s
    · rename_i u hu
      exact StOk.swap _ _ _ (hr u (List.mem_of_getElem? hu))
  split at hp
  · have := Option.some.inj hp; subst this
    unfold Ck.sel
    have a1 := s.pops_len [105]
    have a2 := (s.pops [105]).1.pop_len 0
    have a3 := (((s.pops [105]).1.pop 0).1).pop_len ((s.pops [105]).1.pop 0).2.1
    refine ⟨.inl ?_, ?_, ?_, fun b r ho hb => ?_⟩
    · simp only [Ck.pop_opn, Ck.pops_opn]
    · simp only [Ck.pop_code, Ck.pops_code]
    · simp only [List.length_cons]; omega
    · have := (Ck.pop_top (Ck.pop_top (Ck.pops_top ⟨ho, hb⟩ [105]) 0) ((s.pops [105]).1.pop 0).2.1).fl
      simp only [List.length_cons]; omega
  split at hp
  · have := Option.some.inj hp; subst this
    unfold Ck.local
    split
    · exact StOk.refl s
    · split
      · exact StOk.pops _ _
      · exact StOk.swap _ _ _ (by simp)
  · cases hp
theorem StOk.plainOne {E : Env} (h : J opn s ks) (hr : ∀ u ∈ E.funs, u.results.length ≤ 1) (c : Ins) : StOk s (s.plainOne E c).1 := by
  unfold Ck.plainOne
  split
  · rename_i p hp
    exact StOk.handle h hr c p hp
  · split
    · exact StOk.swap _ _ _ (sigs_len _)
    · exact StOk.refl s
theorem well_tab {c : Ins} (h : well c = true) (h8 : c.op = 8) : c.tab.length ≤ 5 := by
  unfold well at h
  rw [if_pos h8] at h
  simp at h
  exact h.2

theorem Inv.step {E : Env} (hr : ∀ u ∈ E.funs, u.results.length ≤ 1) (h : Inv opn s ks k) (hk : k < 24) (hol : opn.length ≤ 4) (c : Ins) (rest : List Ins) (hn : nestR (c :: rest) opn = 0) (hz : (s.one E c).2 = 0) :
    (rest = [] ∧ FinalOk (s.one E c).1.code (ks ++ emitK c true)) ∨ (rest ≠ [] ∧ ∃ opn', nestR rest opn' = 0 ∧ opn'.length ≤ 4 ∧ Inv opn' (s.one E c).1 (ks ++ emitK c false) (k + 1)) := by
  have nil3 : ∀ o, nestR rest o = 0 → rest ≠ [] := by
    intro o ho e
    subst e
    unfold nestR at ho
    cases ho
  have hst := h.st
  have hcl := h.cl
  unfold nestR at hn
  split at hn
  · cases hn
  rename_i hw
  have hw : well c = true := by simpa using hw
  unfold Ck.one at hz ⊢
  split at hn
  · rename_i h1
    rw [if_pos h1]
    split at hn
    · cases hn
    · rename_i h4
      exact .inr ⟨nil3 _ hn, _, hn, by simp; omega, h.enter c h1⟩
  · rename_i h1
    rw [if_neg h1] at hz ⊢
    split at hn
    · rename_i h4
      rw [if_pos h4] at hz ⊢
      cases opn with
      | nil => cases hn
      | cons o r =>
        simp only at hn
        split at hn
        · rename_i h3
          refine .inr ⟨nil3 _ hn, _, hn, by simpa using hol, ?_⟩
          have e : emitK c false = [⟨1, 4, 0⟩] := by unfold emitK; rw [if_neg (by omega), if_pos (.inr h4), h4]
          rw [e]
          exact h.turn h3 hz
        · cases hn
    · rename_i h4
      rw [if_neg h4] at hz ⊢
      split at hn
      · rename_i h5
        rw [if_pos h5] at hz ⊢
        cases opn with
        | nil =>
          simp only at hn
          split at hn
          · rename_i he
            refine .inl ⟨he, ?_⟩
            have e : emitK c true = [⟨0, 5, 0⟩] := by unfold emitK; rw [if_neg (by omega), if_neg (by omega), if_pos h5]; rfl
            rw [e]
            exact h.final hz
          · cases hn
        | cons o r =>
          simp only at hn
          refine .inr ⟨nil3 _ hn, _, hn, by simp at hol; omega, ?_⟩
          have e : emitK c false = [] := by unfold emitK; rw [if_neg (by omega), if_neg (by omega), if_pos h5]; rfl
          rw [e, List.append_nil]
          exact h.leave hz
      · rename_i h5
        rw [if_neg h5] at hz ⊢
        refine .inr ⟨nil3 _ hn, _, hn, hol, ?_⟩
        by_cases h6 : c.op = 6 ∨ c.op = 7
        · rw [if_pos h6] at hz ⊢
          have e : emitK c false = [⟨2, c.op, 0⟩] := by unfold emitK; rw [if_neg (by omega), if_neg (by omega), if_neg h5, if_pos h6]
          rw [e]
          exact h.branch hk c.op _ hz
        · rw [if_neg h6] at hz ⊢
          by_cases h8 : c.op = 8
          · rw [if_pos h8] at hz ⊢
            have e : emitK c false = ⟨0, 8, (c.tab.length : Int) - 1⟩ :: List.replicate c.tab.length ⟨2, 6, 0⟩ := by unfold emitK; rw [if_neg (by omega), if_neg (by omega), if_neg h5, if_neg h6, if_pos h8]
            rw [e]
            exact h.table hk c.tab (well_tab hw h8) hz
          · rw [if_neg h8] at hz ⊢
            have e : emitK c false = [⟨0, c.op, c.imm⟩] := by unfold emitK; rw [if_neg (by omega), if_neg (by omega), if_neg h5, if_neg h6, if_neg h8]
            rw [e]
            have hs := StOk.plainOne h.j hr c
            have g := hs.st
            have gc := hs.code
            exact ⟨(h.j.stOk hs).emit c.op c.imm, by simp only; omega, by simp [gc]; omega⟩

/-- the first instruction -/
theorem Inv.start (res : List UInt8) (h : res.length ≤ 1) : Inv [] (Ck.start res) [] 0 := by
  refine ⟨⟨⟨rfl, fun i b hb => ?_, fun b hb => ?_, fun b hb => ?_, rfl, fun a c kd hc => by simp [Ck.start] at hc, fun a ha => ?_, fun b hb => ?_⟩, ⟨Nat.le_refl _, trivial⟩⟩, Nat.le_refl _, Nat.le_refl _⟩
  · cases i with
    | zero => simp [Ck.start] at hb; subst hb; simp
    | succ i => simp [Ck.start] at hb
  · simp [Ck.start] at hb; subst hb; exact ⟨h, h⟩
  · simp [Ck.start] at hb; subst hb; exact .inl rfl
  · obtain ⟨b, hb, hp⟩ := ha
    simp [Ck.start] at hb
    subst hb
    simp [Blk.pd] at hp
  · simp [Ck.start] at hb; subst hb; simp

/-- ahead of each instruction -/
theorem inv_at {E : Env} (hr : ∀ u ∈ E.funs, u.results.length ≤ 1) (hm : E.me.results.length ≤ 1) (code : List Ins) (hl : code.length ≤ 24) (hn : nestR code [] = 0) :
    ∀ (k : Nat) (s : Ck), stateAt E code k = some s → (k < code.length → ∃ opn, nestR (code.drop k) opn = 0 ∧ opn.length ≤ 4 ∧ Inv opn s (emitsTo code k) k) ∧ (k = code.length → FinalOk s.code (emitsTo code k))
  | 0, s, h => by
    simp [stateAt] at h
    subst h
    refine ⟨fun _ => ⟨[], hn, by simp, Inv.start _ hm⟩, fun e => ?_⟩
    have : code = [] := List.eq_nil_of_length_eq_zero e.symm
    subst this
    cases hn
  | k + 1, s, h => by
    simp only [stateAt] at h
    split at h
    · rename_i s0 c hs hc
      split at h
      · rename_i h0
        simp at h
        subst h
        have hlt : k < code.length := (List.getElem?_eq_some_iff.1 hc).1
        have hcc : code[k] = c := (List.getElem?_eq_some_iff.1 hc).2
        obtain ⟨opn, i1, i2, i3⟩ := (inv_at hr hm code hl hn k s0 hs).1 hlt
        rw [List.drop_eq_getElem_cons hlt, hcc] at i1
        have hem : emitsTo code (k + 1) = emitsTo code k ++ emitK c (decide (k + 1 = code.length)) := by
          conv => lhs; unfold emitsTo
          rw [hc]
        rcases i3.step hr (by omega) i2 c _ i1 h0 with ⟨e, hf⟩ | ⟨e, opn', n1, n2, n3⟩
        · have hkl : k + 1 = code.length := by
            have := congrArg List.length e
            simp at this; omega
          refine ⟨fun h => by omega, fun _ => ?_⟩
          rw [hem, decide_eq_true hkl]
          exact hf
        · have hkl : k + 1 < code.length := by
            have : ¬ code.length ≤ k + 1 := fun hle => e (List.drop_eq_nil_of_le hle)
            omega
          refine ⟨fun _ => ⟨opn', n1, n2, ?_⟩, fun h => by omega⟩
          rw [hem, decide_eq_false (by omega)]
          exact n3
      · cases h
    · cases h

theorem body_ok {E : Env} (hr : ∀ u ∈ E.funs, u.results.length ≤ 1) (hm : E.me.results.length ≤ 1) (code : List Ins) (hl : code.length ≤ 24) (hn : nestR code [] = 0) : BodyOk E code := by
  intro k s c hs hc
  have hlt : k < code.length := (List.getElem?_eq_some_iff.1 hc).1
  have hcc : code[k] = c := (List.getElem?_eq_some_iff.1 hc).2
  obtain ⟨opn, i1, i2, i3⟩ := (inv_at hr hm code hl hn k s hs).1 hlt
  rw [List.drop_eq_getElem_cons hlt, hcc] at i1
  obtain ⟨b, r, ho, hb⟩ := i3.j.cons
  have hc6 := i3.cl
  have hst := i3.st
  unfold nestR at i1
  split at i1
  · cases i1
  rename_i hw
  refine ⟨by simpa using hw, ⟨by omega, by omega, by rw [i3.j.c.len]; omega, fun x hx => by have := i3.j.c.waits x hx; omega, fun x hx => by have := (i3.j.c.res x hx).1; omega, fun x hx => by have := (i3.j.c.res x hx).2; omega, fun x hx p hp => i3.j.c.pend_lt ⟨x, hx, hp⟩⟩, b, r, ⟨ho, hb⟩, fun h4 => ?_⟩
  rw [if_neg (by omega), if_pos h4] at i1
  cases opn with
  | nil => cases i1
  | cons o r' =>
    simp only at i1
    split at i1
    · rename_i h3
      have := (i3.j.c.alts 0 b (by rw [ho]; rfl)).2 (by rw [h3]; rfl)
      exact Option.isSome_iff_exists.1 this
    · cases i1
end Go.Proofs.Qxb6500575aGreatDoor
