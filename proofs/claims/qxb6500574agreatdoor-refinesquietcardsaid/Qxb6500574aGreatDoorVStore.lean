/-
  THE WALKS of vm: store, compare.
-/
import Derived.Test.Qxb6500574aGreatDoorVTabM
import Derived.Test.Qxb6500574aGreatDoorVFly
import Derived.Test.Qxb6500574aGreatDoorVEq
import Derived.Test.Qxb6500574aGreatDoorVNum
namespace Go.Proofs.Qxb6500574aGreatDoor
open Go Go.RowKit
set_option linter.unusedVariables false
set_option linter.unusedSimpArgs false

/-- what an instruction that is done at once comes to -/
def PlPost (r : RR Unit) (w : World) (A : VL) (f e i : Nat) (e' : Ending) (w' : World) : Prop :=
  match r with
  | (.inr _, m') => e' = .returned (.tuple #[]) ∧ ∃ A', VRep w' A' m' f e ∧ VSt isVM w A w' A' ∧ FK A A' i
  | (.inl (.inl v), m') => Thrown v w e' w' ∧ ∃ A', VRep w' A' m' f e ∧ VSt isVM w A w' A'
  | (.inl (.inr k), m') => e' = .panicked (trapE k) ∧ ∃ A', VRep w' A' m' f e ∧ VSt isVM w A w' A'
theorem PlPost.pre {r : RR Unit} {w w1 : World} {A A1 : VL} {f e i : Nat} {e' : Ending} {w' : World} (hs : VSt isVM w A w1 A1) (hk : FK A A1 i) (h : PlPost r w1 A1 f e i e' w') : PlPost r w A f e i e' w' := by
  have hsz := hs.st.fr.size
  obtain ⟨r1, m'⟩ := r
  cases r1 with
  | inr u =>
    obtain ⟨h1, A', h2, h3, h4⟩ := h
    exact ⟨h1, A', h2, hs.trans h3, hk.trans h4⟩
  | inl fl =>
    cases fl with
    | inl v =>
      obtain ⟨⟨b, h1, h2, h3⟩, A', h4, h5⟩ := h
      exact ⟨⟨b, h1, h2, by omega⟩, A', h4, hs.trans h5⟩
    | inr k =>
      obtain ⟨h1, A', h4, h5⟩ := h
      exact ⟨h1, A', h4, hs.trans h5⟩
section
variable {w w1 w2 : World} {A : VL} {m : VMD} {f e i h : Nat} {td : TabD}
set_option maxRecDepth 100000
set_option maxHeartbeats 600000
theorem tabs_same (ht : m.tabs[h]? = some td) : ({ m with tabs := m.tabs.set h td } : VMD) = m := by
  have : m.tabs.set h td = m.tabs := by
    apply List.ext_getElem?
    intro j
    by_cases e : h = j
    · subst e; rw [List.getElem?_set_self (List.getElem?_eq_some_iff.1 ht).1, ht]
    · rw [List.getElem?_set_ne e]
  rw [this]
theorem put_err (t : TabD) (k v : Vl) (h : (t.put k v).1 ≠ 0) : (t.put k v).2 = t := by
  revert h
  unfold TabD.put
  dsimp only
  cases hf : t.find (oneV k).1 (oneV k).2 with
  | some p =>
    dsimp only
    repeat' split
    all_goals intro h; first | rfl | (exact absurd rfl h)
  | none =>
    dsimp only
    repeat' split
    all_goals intro h; first | rfl | (exact absurd rfl h)
theorem store_any (r : VRep w A m f e) (ht : m.tabs[h]? = some td) (hf : TFit td) (h12 : m.tabs.length ≤ 12) {k v : Vl} (hk : wellV k = true) (hv : wellV v = true) (hkn : k.t = 2 → k.n < 18446744073709551616) :
    Calls Tryz.prog 297 #[.pointer (some ⟨A.b, 0, none⟩), .int .i64 h, k.val, v.val] w (PlPost (storeP m h k v) w A f e i) := by
  have c1 := r.cell0 1
  simp only [vmCells, List.getElem?_toArray, List.getElem?_cons_succ, List.getElem?_cons_zero] at c1
  have hb := r.bl
  have hst : storeP m h k v = (if (td.put k v).1 = 8 then trapR 8 m else if (td.put k v).1 ≠ 0 then thrR mKey m else (.inr (), { m with tabs := m.tabs.set h (td.put k v).2 })) := by
    unfold storeP
    dsimp only
    rw [show m.tabs.getD h tab0 = td by simp [ht]]
  have HST : Hid (storeP m h k v = _) := hst
  have hlt := (List.getElem?_eq_some_iff.1 ht).1
  have H : Hid (VRep w A m f e) := r
  have SET : Hid (∀ W, Fr (fun _ => False) w W → Calls Tryz.prog 82 #[.pointer (some ⟨A.bt, 0, none⟩), .int .i64 h, k.val, v.val] W fun e' w' => e' = .returned (.int .i64 (td.put k v).1) ∧ ∃ A', VRep w' A' { m with tabs := m.tabs.set h (td.put k v).2 } f e ∧ VSt isVM W A w' A' ∧ A'.X = A.X) := fun W hW => set_vm (r.fresh hW) ht hf h12 hk hv hkn
  have HT : Hid (m.tabs[h]? = some td) := ht
  obtain ⟨Q, HQ⟩ : ∃ Q : Ending → World → Prop, Hid (PlPost (storeP m h k v) w A f e i = Q) := ⟨_, rfl⟩
  rw [HQ.out]
  clear r ht hf hk hv hkn hst
  obtain ⟨kt, kn, ks⟩ := k
  obtain ⟨vt, vn, vs⟩ := v
  go_enter Tryz.func297, Tryz.ntmps297
  go_wp2_with fail
  refine wp_region_tail 7 (by kernel_rfl) (by kernel_rfl) (fun _ _ _ _ _ h => h) ?_
  simp only [List.take_succ_cons, List.take_zero, List.drop_succ_cons, List.drop_zero]
  repeat go_big_quiet_step (fail)
  refine wpQuiet_nil ?_
  go_wp2_with fail
  have F1 : Fr (fun _ => False) w (((w.alloc (.cells #[.int .i64 kt, .int .u64 kn, sv ks] 68)).alloc (.cells #[.int .i64 vt, .int .u64 vn, sv vs] 68)).drew) := (((Fr.refl _ _).alloc _).alloc _).drew
  refine (SET.out _ F1).mono ?_
  rintro e' w2 ⟨rfl, A2, s1, s2, s3⟩
  obtain ⟨pc, HPC⟩ : ∃ pc, Hid ((td.put ⟨kt, kn, ks⟩ ⟨vt, vn, vs⟩).1 = pc) := ⟨_, rfl⟩
  have HR : Hid (VRep w2 A2 { m with tabs := m.tabs.set h (td.put ⟨kt, kn, ks⟩ ⟨vt, vn, vs⟩).2 } f e) := s1
  have HS : Hid (VSt isVM w A w2 A2) := (VSt.fresh F1).trans s2
  have HX : Hid (A2.X = A.X) := s3
  clear s1 s2 s3 F1 SET
  rw [HPC.out]
  by_cases h8 : pc = 8
  · subst h8
    have FIN : Hid (Q (.panicked (trapE 8)) w2) := by
      rw [← HQ.out, HST.out, if_pos HPC.out]
      refine ⟨rfl, A2, ?_, HS.out⟩
      have := HR.out
      rw [put_err _ _ _ (by rw [HPC.out]; decide), tabs_same HT.out] at this
      exact this
    go_wp2_with fail
    refine (stop_any 8).mono ?_
    rintro e' w' ⟨rfl, rfl⟩
    exact ⟨rfl, FIN.out⟩
  · by_cases h0 : pc = 0
    · subst h0
      have FIN : Hid (Q (.returned (.tuple #[])) w2) := by
        rw [← HQ.out, HST.out, if_neg (by rw [HPC.out]; decide), if_neg (by rw [HPC.out]; decide)]
        exact ⟨rfl, A2, HR.out, HS.out, fun l hl => ⟨l, by rw [HX.out]; exact hl, rfl⟩⟩
      go_wp2_with fail
      go_end0
      exact FIN.out
    · have h8' : ((pc : Int) == 8) = false := by rw [beq_eq_false_iff_ne]; omega
      have h0' : ((pc : Int) != 0) = true := by simpa using h0
      have hw : w2.heap.size = w2.heap.size := rfl
      have hwle : w.heap.size ≤ w2.heap.size := HS.out.st.fr.size
      have R2 : VRep w2 A2 m f e := by
        have := HR.out
        rw [put_err _ _ _ (by rw [HPC.out]; exact h0), tabs_same HT.out] at this
        exact this
      have HR2 : Hid (VRep w2 A2 m f e) := R2
      have HE : Hid (storeP m h ⟨kt, kn, ks⟩ ⟨vt, vn, vs⟩ = thrR mKey m) := by
        have := HST.out
        rw [if_neg (by rw [HPC.out]; exact h8), if_pos (by rw [HPC.out]; exact h0)] at this
        exact this
      clear R2 hw h8 h0
      go_wp2_with fail
      refine (raise_any mKey).mono ?_
      rintro e' w' ⟨⟨b, rfl, hb1, hb2⟩, hf2⟩
      refine ⟨rfl, ?_⟩
      rw [← HQ.out, HE.out]
      exact ⟨⟨b, rfl, hb1, by omega⟩, A2, HR2.out.fresh hf2, HS.out.trans (VSt.fresh hf2)⟩
end
end Go.Proofs.Qxb6500574aGreatDoor
