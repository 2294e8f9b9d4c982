/-
  THE WALK of mach.Grow.
-/
import Derived.Test.Qxb6500575aGreatDoorKOps
import Derived.Test.Qxb6500575aGreatDoorAppZ
namespace Go.Proofs.Qxb6500575aGreatDoor
open Go Go.RowKit
set_option linter.unusedVariables false
set_option linter.unusedSimpArgs false

section
variable {w w1 : World} {bk : Nat} {L : KL} {d : KD}
def KL.longer (L : KL) (a : Option Addr) (cap m : Nat) : KL := { L with pa := a, pc := cap, ps := L.ps ++ List.replicate m none }
def KD.longer (d : KD) (m : Nat) : KD := { d with pages := d.pages ++ List.replicate m none }
theorem KRep.longer (h : KRep w bk L d) (m : Nat) (hm : d.pages.length + m ≤ d.max) {a : Option Addr} {cap : Nat} (q1 : w1.ownsRow 0 223 1 (.slice a (d.pages.length + m) cap) (d.pages.length + m) (L.ps.map ptrV ++ List.replicate m (.pointer none)))
    (q2 : Fr (fun k => (Value.slice L.pa d.pages.length L.pc).ownBlock = some k) w w1) (q3 : (Value.slice a (d.pages.length + m) cap).ownBlock = (Value.slice L.pa d.pages.length L.pc).ownBlock ∨ (Value.slice a (d.pages.length + m) cap).ownBlock = some w.heap.size) :
    KRep (w1.setCell ⟨bk, 0, none⟩ (.slice a (d.pages.length + m) cap)) bk (L.longer a cap m) (d.longer m) ∧ KStep w (w1.setCell ⟨bk, 0, none⟩ (.slice a (d.pages.length + m) cap)) bk L (L.longer a cap m) := by
  have hne := owns_ne h.row h.here (by decide)
  have hH : Has w1 bk _ _ := h.here.fr q2 (fun e => hne e)
  have hne1 := owns_ne q1 hH (by decide)
  have hlen : (d.pages ++ List.replicate m none).length = d.pages.length + m := by simp
  have hF : Fr (KS bk L) w (w1.setCell ⟨bk, 0, none⟩ (.slice a (d.pages.length + m) cap)) :=
    (q2.weaken (S' := KS bk L) (fun k _ e => .inr (.inl (by rw [ownBlock_any] at e; exact e)))).setCell (p := ⟨bk, 0, none⟩) (.inl (.inl rfl)) _
  refine ⟨?_, ⟨hF, ?_⟩⟩
  · refine { here := ?_, row := ?_, len := ?_, nil := ?_, page := ?_, inj := ?_, le := ?_, max := h.max }
    · have := hH.put 0 (.slice a (d.pages.length + m) cap)
      simpa [KL.longer, KD.longer, KL.made, List.countP_append, List.countP_replicate] using this
    · have := owns_other q1 (p := ⟨bk, 0, none⟩) hne1 (.slice a (d.pages.length + m) cap)
      simpa [KL.longer, KD.longer, ptrV] using this
    · simp [KL.longer, KD.longer, h.len]
    · intro i hi
      simp only [KL.longer, KD.longer] at hi ⊢
      rw [List.getElem?_append] at hi ⊢
      rw [h.len] at hi
      split at hi
      · rename_i hlt
        rw [if_pos hlt]
        exact h.nil i hi
      · rename_i hlt
        rw [if_neg hlt]
        simpa [List.getElem?_replicate] using hi
    · intro i g hi
      simp only [KL.longer, KD.longer] at hi ⊢
      rw [List.getElem?_append] at hi ⊢
      rw [h.len] at hi
      split at hi
      · rename_i hlt
        rw [if_pos hlt]
        obtain ⟨bs, e1, e2, e3⟩ := h.page i g hi
        refine ⟨bs, e1, e2, ?_⟩
        have n1 : (Value.slice L.pa d.pages.length L.pc).ownBlock ≠ some g := owns_ne h.row e3 (by decide)
        have n2 : g ≠ bk := fun e => h.here.ne e3 (by decide) e.symm
        exact (e3.fr q2 n1).other (p := ⟨bk, 0, none⟩) n2 _
      · simp [List.getElem?_replicate] at hi
    · intro i j g hi hj
      simp only [KL.longer] at hi hj
      rw [List.getElem?_append] at hi hj
      split at hi
      · split at hj
        · exact h.inj i j g hi hj
        · simp [List.getElem?_replicate] at hj
      · simp [List.getElem?_replicate] at hi
    · simpa [KD.longer] using hm
  · rintro k hk (rfl | hk' | ⟨i, hi⟩)
    · exact .inl rfl
    · simp only [KL.longer] at hk'
      rw [ownBlock_any _ _ _ (d.pages.length + m) cap] at hk'
      rcases q3 with e | e
      · rw [e] at hk'
        exact .inr (.inl (by rw [ownBlock_any] at hk'; exact hk'))
      · rw [e] at hk'
        simp at hk'
        omega
    · simp only [KL.longer] at hi
      rw [List.getElem?_append] at hi
      split at hi
      · exact .inr (.inr ⟨i, hi⟩)
      · simp [List.getElem?_replicate] at hi
theorem rowPage : Tryz.prog.underlying 94 = some (.slice 223) ∧ Tryz.prog.underlying 3 = some (.int .i64) ∧ (Tryz.prog.info? 223).map (fun i => (i.zero, i.size, i.bytes)) = some (some (.pointer none), 1, 8) := by
  refine ⟨by kernel_rfl, by kernel_rfl, by kernel_rfl⟩
set_option maxRecDepth 100000
set_option maxHeartbeats 1000000
theorem kgrow_any (h : KRep w bk L d) (n : Int) : Calls Tryz.prog 103 #[.pointer (some ⟨bk, 0, none⟩), .int .i64 n] w fun e w' => ∃ r L' d', e = .returned (.int .i64 r) ∧ (-1 ≤ r ∧ r ≤ 4) ∧ KRep w' bk L' d' ∧ KStep w w' bk L L' := by
  have c0 := h.here.cell 0
  have c1 := h.here.cell 1
  simp at c0 c1
  have f0 := h.here.frozen 0
  have k1 := h.here.lt
  have hle := h.le
  have hmx := h.max
  obtain ⟨m, hm⟩ : ∃ m : Nat, bits .and .i64 n 4294967295 = m := ⟨(bits .and .i64 n 4294967295).toNat, by have := and32 n; omega⟩
  have hml : m ≤ 4294967295 := by have := and32 n; omega
  have H : Hid (KRep w bk L d) := h
  have HO : Hid (w.ownsRow 0 223 1 (.slice L.pa d.pages.length L.pc) d.pages.length (L.ps.map ptrV)) := h.row
  clear h
  by_cases hbig : (d.max : Int) - d.pages.length < m
  · go_enter Tryz.func103, Tryz.ntmps103
    go_wp2
    go_ret
    exact ⟨-1, L, d, rfl, by omega, H.out, KStep.refl _ _ _⟩
  · go_enter Tryz.func103, Tryz.ntmps103
    go_wp2_with (at_builtin; go_must (refine wpList_appz rowPage.1 rowPage.2.1 rowPage.2.2 rfl rfl _ rfl (.tmp 25) (.tmp 26) rfl _ _ _ rfl HO.out m rfl ?bd ?go))
    case bd => omega
    case go =>
      intro a cap w1 q1 q2 q3
      obtain ⟨r1, r2⟩ := H.out.longer m (by omega) q1 q2 q3
      have hH : Has w1 bk _ _ := H.out.here.fr q2 (fun e => owns_ne H.out.row H.out.here (by decide) e)
      have d0 := hH.cell 0
      simp at d0
      have g0 := hH.frozen 0
      have g1 := hH.lt
      have R1 : Hid (KRep _ _ _ _) := r1
      have R2 : Hid (KStep _ _ _ _ _) := r2
      clear q1 q2 q3 r1 r2 hH H HO
      go_wp2
      go_ret
      exact ⟨_, _, _, rfl, by omega, R1.out, R2.out⟩
end
end Go.Proofs.Qxb6500575aGreatDoor
