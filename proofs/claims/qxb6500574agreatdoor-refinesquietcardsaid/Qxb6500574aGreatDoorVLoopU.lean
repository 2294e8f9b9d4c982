/-
  THE WALK of vm: a round of loop, whatever the instruction.
-/
import Derived.Test.Qxb6500574aGreatDoorVLoopT
namespace Go.Proofs.Qxb6500574aGreatDoor
open Go Go.RowKit
set_option linter.unusedVariables false
set_option linter.unusedSimpArgs false
/-- the fuel behind a round that was paid -/
def Paid (r : Bool) (f f1 : Nat) : Prop := ¬ (r = true ∧ f = 0) ∧ f1 = if r then f - 1 else f
/-- what is left of the machine behind a trap is alike -/
def OT (m9 m : VMD) : Prop := m9.out = m.out ∧ m9.tabs = m.tabs
section
variable {w : World} {A : VL} {m : VMD} {f e i b6 b7 g j gp pi : Nat} {t : ThD} {K : Cx} {fm : FmD} {p : PrD}
theorem Paid.no {f : Nat} : Paid false f f := ⟨fun h => (by simp at h), rfl⟩
theorem Paid.yes {f : Nat} : Paid true (f + 1) f := ⟨fun h => (by simp at h), rfl⟩
/-- what a round asks of its surroundings -/
structure RQ (w : World) (A : VL) (m : VMD) (f e i b6 b7 : Nat) (Q : Exit → Act → World → Prop) : Prop where
  put : ∀ c a t v w, Q (.panic c) (a.put (some t) v) w → Q (.panic c) a w
  go : ∀ a' w5 A5 m1 f1 w', Fr62 A.b A.bT i b6 b7 a' → (instrP m i).2 = (.inr ev0, m1) → Paid (instrP m i).1 f f1 → VRep w5 A5 m1 f1 e → VSt isVM w A w5 A5 → (w' = w5 ∨ w' = set9 w5 b7 ev0) → Q .normal a' w'
  ev : ∀ a' w5 A5 ev m1 f1, Fr62 A.b A.bT i b6 b7 a' → (instrP m i).2 = (.inr ev, m1) → ev.k ≠ 0 → Paid (instrP m i).1 f f1 → VRep w5 A5 m1 f1 e → VSt isVM w A w5 A5 → Q (.exit 0) a' (set9 w5 b7 ev)
  thr : ∀ a' w' A' v m1 f1 b, a'.defers = [] → (instrP m i).2 = (.inl (.inl v), m1) → Paid (instrP m i).1 f f1 → Has w' b #[.int .i64 v.t, .int .u64 v.n, sv v.s] 340 → w.heap.size ≤ b → VRep w' A' m1 f1 e → VSt isVM w A w' A' → Q (.panic (thrE b)) a' w'
  trap : ∀ a' w' A' k m1 f1, a'.defers = [] → (instrP m i).2 = (.inl (.inr k), m1) → Paid (instrP m i).1 f f1 → VRep w' A' m1 f1 e → VSt isVM w A w' A' → Q (.panic (trapE k)) a' w'
  out : ∀ a' w' A' m9, a'.defers = [] → (instrP m i).1 = true → f = 0 → VRep w' A' m9 0 e → OT m9 m → VSt isVM w A w' A' → Q (.panic (trapE 9)) a' w'
theorem round_end (h : LB w A m f e K i t fm g j gp pi p b6 b7) {a : Act} (ha : Fr62 A.b A.bT i b6 b7 a) {Q : Exit → Act → World → Prop} (H : RQ w A m f e i b6 b7 Q) (hp : p.nc ≤ fm.pc) : (roundOf Tryz.f214.body).wp Tryz.prog Q a w := by
  have hi := instr_end h hp
  refine rd_end h ha H.put hp fun a' w' hd hf => ?_
  refine H.trap a' w' A 11 m f hd (by rw [hi]; rfl) (by rw [hi]; exact Paid.no) (h.pb.rep.fresh hf) (VSt.fresh hf)
theorem round_any (h : LB w A m f e K i t fm g j gp pi p b6 b7) {a : Act} (ha : Fr62 A.b A.bT i b6 b7 a) {Q : Exit → Act → World → Prop} (H : RQ w A m f e i b6 b7 Q) : (roundOf Tryz.f214.body).wp Tryz.prog Q a w := by
  by_cases hpc : p.nc ≤ fm.pc
  · exact round_end h ha H hpc
  have hpc : fm.pc < p.nc := by omega
  obtain ⟨gc, CN, CD, op, x, hI⟩ := h.li hpc
  have hi := instr_in h hI hpc
  have trap11 : instrP m i = (false, trapR 11 m) → ∀ a' w', a'.defers = [] → Fr (fun _ => False) w w' → Q (.panic (trapE 11)) a' w' := fun hq a' w' hd hf =>
    H.trap a' w' A 11 m f hd (by rw [hq]; rfl) (by rw [hq]; exact Paid.no) (h.pb.rep.fresh hf) (VSt.fresh hf)
  cases hs : soundP m i op x with
  | false => exact rd_unsound h ha H.put hI hpc hs (trap11 (by rw [hi]; unfold instrB; rw [hs]; rfl))
  | true =>
    by_cases hn : (t.stack.length : Int) - fm.base - p.ns < needX op x ∨ (t.stack.length : Int) - fm.base - p.ns + growX op x > 128
    · have hq : instrP m i = (false, trapR 11 m) := by rw [hi]; unfold instrB; rw [hs, if_neg (by simp), if_pos hn]
      by_cases h26 : op = 26
      · unfold needX growX at hn
        rw [if_pos h26, if_pos h26] at hn
        exact rd26_need h ha H.put hI hpc hs h26 hn (trap11 hq)
      · unfold needX growX at hn
        rw [if_neg h26, if_neg h26] at hn
        exact rd_need h ha H.put hI hpc hs h26 hn (trap11 hq)
    · unfold instrB at hi
      rw [hs, if_neg (by simp), if_neg hn] at hi
      by_cases h26 : op = 26
      · unfold needX growX at hn
        rw [if_pos h26, if_pos h26] at hn
        rw [if_neg (by omega), if_neg (by omega), if_neg (by omega), if_pos h26] at hi
        cases f with
        | zero => exact rd26_no h ha H.put hI hpc hs h26 hn fun a' w' hd r s => H.out a' w' A m hd (by rw [hi]) rfl r ⟨rfl, rfl⟩ s
        | succ f =>
          exact rd26 h ha H.put hI hpc hs h26 hn
            (fun a' w5 A5 m1 hf hc r s => H.go a' w5 A5 m1 f _ hf (by rw [hi]; exact hc) (by rw [hi]; exact Paid.yes) r s (.inr rfl))
            (fun a' w5 A5 ev m1 hf hc hk r s => H.ev a' w5 A5 ev m1 f hf (by rw [hi]; exact hc) hk (by rw [hi]; exact Paid.yes) r s)
            (fun a' w' A' v m1 b hd hc hb hl r s => H.thr a' w' A' v m1 f b hd (by rw [hi]; exact hc) (by rw [hi]; exact Paid.yes) hb hl r s)
            (fun a' w' A' k m1 hd hc r s => H.trap a' w' A' k m1 f hd (by rw [hi]; exact hc) (by rw [hi]; exact Paid.yes) r s)
      · unfold needX growX at hn
        rw [if_neg h26, if_neg h26] at hn
        by_cases hop : op = 21
        · rw [if_pos hop] at hi
          by_cases hx : fm.pc < x
          · have hd : decide (x ≤ fm.pc) = false := by rw [decide_eq_false_iff_not]; omega
            rw [hd] at hi
            exact rd21_fw h ha H.put hI hpc hs hn hop hx fun a' w' A' hf r s => H.go a' w' A' _ f _ hf (by rw [hi]) (by rw [hi]; exact Paid.no) r s (.inl rfl)
          · have hd : decide (x ≤ fm.pc) = true := by rw [decide_eq_true_iff]; omega
            rw [hd] at hi
            cases f with
            | zero => exact rd21_no h ha H.put hI hpc hs hn hop (by omega) fun a' w' hd r s => H.out a' w' A m hd (by rw [hi]) rfl r ⟨rfl, rfl⟩ s
            | succ f => exact rd21_bw h ha H.put hI hpc hs hn hop (by omega) fun a' w' A' hf r s => H.go a' w' A' _ f _ hf (by rw [hi]) (by rw [hi]; exact Paid.yes) r s (.inl rfl)
        by_cases hop : op = 22
        · rw [if_neg (by omega), if_pos hop] at hi
          cases ht : truthy (topV m i 0) with
          | true =>
            rw [ht, if_pos rfl] at hi
            exact rd22_go h ha H.put hI hpc hs hn hop ht fun a' w' A' hf r s => H.go a' w' A' _ f _ hf (by rw [hi]) (by rw [hi]; exact Paid.no) r s (.inl rfl)
          | false =>
            rw [ht, if_neg (by simp)] at hi
            by_cases hx : fm.pc < x
            · have hd : decide (x ≤ fm.pc) = false := by rw [decide_eq_false_iff_not]; omega
              rw [hd] at hi
              exact rd22_fw h ha H.put hI hpc hs hn hop ht hx fun a' w' A' hf r s => H.go a' w' A' _ f _ hf (by rw [hi]) (by rw [hi]; exact Paid.no) r s (.inl rfl)
            · have hd : decide (x ≤ fm.pc) = true := by rw [decide_eq_true_iff]; omega
              rw [hd] at hi
              cases f with
              | zero => exact rd22_no h ha H.put hI hpc hs hn hop ht (by omega) fun a' w' hd r s => H.out a' w' A (pops m i 1) hd (by rw [hi]) rfl r ⟨rfl, rfl⟩ s
              | succ f => exact rd22_bw h ha H.put hI hpc hs hn hop ht (by omega) fun a' w' A' hf r s => H.go a' w' A' _ f _ hf (by rw [hi]) (by rw [hi]; exact Paid.yes) r s (.inl rfl)
        by_cases hop : op = 23
        · rw [if_neg (by omega), if_neg (by omega), if_pos (by omega)] at hi
          have hd4 : decide (op = 24) = false := by rw [decide_eq_false_iff_not]; omega
          rw [hd4] at hi
          cases ht : truthy (topV m i 0) with
          | true =>
            rw [ht, if_neg (by simp)] at hi
            exact rd23_go h ha H.put hI hpc hs hn hop ht fun a' w' A' hf r s => H.go a' w' A' _ f _ hf (by rw [hi]) (by rw [hi]; exact Paid.no) r s (.inl rfl)
          | false =>
            rw [ht, if_pos rfl] at hi
            by_cases hx : fm.pc < x
            · have hd : decide (x ≤ fm.pc) = false := by rw [decide_eq_false_iff_not]; omega
              rw [hd] at hi
              exact rd23_fw h ha H.put hI hpc hs hn hop ht hx fun a' w' A' hf r s => H.go a' w' A' _ f _ hf (by rw [hi]) (by rw [hi]; exact Paid.no) r s (.inl rfl)
            · have hd : decide (x ≤ fm.pc) = true := by rw [decide_eq_true_iff]; omega
              rw [hd] at hi
              cases f with
              | zero => exact rd23_no h ha H.put hI hpc hs hn hop ht (by omega) fun a' w' hd r s => H.out a' w' A m hd (by rw [hi]) rfl r ⟨rfl, rfl⟩ s
              | succ f => exact rd23_bw h ha H.put hI hpc hs hn hop ht (by omega) fun a' w' A' hf r s => H.go a' w' A' _ f _ hf (by rw [hi]) (by rw [hi]; exact Paid.yes) r s (.inl rfl)
        by_cases hop : op = 24
        · rw [if_neg (by omega), if_neg (by omega), if_pos (by omega)] at hi
          have hd4 : decide (op = 24) = true := by rw [decide_eq_true_iff]; omega
          rw [hd4] at hi
          cases ht : truthy (topV m i 0) with
          | false =>
            rw [ht, if_neg (by simp)] at hi
            exact rd24_go h ha H.put hI hpc hs hn hop ht fun a' w' A' hf r s => H.go a' w' A' _ f _ hf (by rw [hi]) (by rw [hi]; exact Paid.no) r s (.inl rfl)
          | true =>
            rw [ht, if_pos rfl] at hi
            by_cases hx : fm.pc < x
            · have hd : decide (x ≤ fm.pc) = false := by rw [decide_eq_false_iff_not]; omega
              rw [hd] at hi
              exact rd24_fw h ha H.put hI hpc hs hn hop ht hx fun a' w' A' hf r s => H.go a' w' A' _ f _ hf (by rw [hi]) (by rw [hi]; exact Paid.no) r s (.inl rfl)
            · have hd : decide (x ≤ fm.pc) = true := by rw [decide_eq_true_iff]; omega
              rw [hd] at hi
              cases f with
              | zero => exact rd24_no h ha H.put hI hpc hs hn hop ht (by omega) fun a' w' hd r s => H.out a' w' A m hd (by rw [hi]) rfl r ⟨rfl, rfl⟩ s
              | succ f => exact rd24_bw h ha H.put hI hpc hs hn hop ht (by omega) fun a' w' A' hf r s => H.go a' w' A' _ f _ hf (by rw [hi]) (by rw [hi]; exact Paid.yes) r s (.inl rfl)
        rw [if_neg (by omega), if_neg (by omega), if_neg (by omega), if_neg h26] at hi
        by_cases hop : op = 27
        · rw [if_pos hop] at hi
          exact rd27 h ha H.put hI hpc hs hn hop
            (fun a' w5 A5 m1 hf hc r s => H.go a' w5 A5 m1 f _ hf (by rw [hi]; exact hc) (by rw [hi]; exact Paid.no) r s (.inr rfl))
            (fun a' w5 A5 ev m1 hf hc hk r s => H.ev a' w5 A5 ev m1 f hf (by rw [hi]; exact hc) hk (by rw [hi]; exact Paid.no) r s)
        · rw [if_neg hop] at hi
          have ho : 1 ≤ op ∧ op ≤ 32 := by
            refine Decidable.byContradiction fun hc => ?_
            have h0 := hs
            unfold soundP at h0
            dsimp only at h0
            rw [if_neg (by omega), if_neg (by omega), if_neg (by omega), if_neg (by omega), if_neg (by omega), if_neg (by omega), if_neg (by omega), if_neg (by omega), if_neg (by omega), if_neg (by omega), if_neg (by omega), if_neg (by omega), decide_eq_true_iff] at h0
            exact hc h0
          exact rd_plain h ha H.put hI hpc hs hn (by omega)
            (fun a' w' A' m1 hf hc r s => H.go a' w' A' _ f _ hf (by rw [hi]; simp only [bump, hc]) (by rw [hi]; exact Paid.no) r s (.inl rfl))
            (fun a' w' A' v m1 b hd hc hb hl r s => H.thr a' w' A' v m1 f b hd (by rw [hi]; simp only [bump, hc]) (by rw [hi]; exact Paid.no) hb hl r s)
            (fun a' w' A' k m1 hd hc r s => H.trap a' w' A' k m1 f hd (by rw [hi]; simp only [bump, hc]) (by rw [hi]; exact Paid.no) r s)
end
end Go.Proofs.Qxb6500574aGreatDoor
