/-
  THE WALK of vm: oper.
-/
import Derived.Test.Qxb6500574aGreatDoorVText
import Derived.Test.Qxb6500574aGreatDoorVCmp
import Derived.Test.Qxb6500574aGreatDoorVArith
import Derived.Test.Qxb6500574aGreatDoorVTabM
namespace Go.Proofs.Qxb6500574aGreatDoor
open Go Go.RowKit
set_option linter.unusedVariables false
set_option linter.unusedSimpArgs false

/-- the stack's top -/
theorem lenL_le (t : TabD) : ∀ (l : List Nat) (i : Nat), lenL t l i ≤ i + l.length := by
  intro l
  induction l with
  | nil => intro i; simp [lenL]
  | cons a r ih =>
    intro i
    unfold lenL
    split
    · simp
    · have := ih (i + 1)
      simp
      omega
theorem len_le (t : TabD) : t.len ≤ t.arr.length := by
  unfold TabD.len
  split
  · exact Nat.le_refl _
  · have := lenL_le t t.arr 0
    omega
theorem top1 {t : ThD} (h : 1 ≤ t.stack.length) : ∃ r b, t.stack = r ++ [b] := by
  refine ⟨t.stack.dropLast, t.stack.getLast (by intro e; rw [e] at h; simp at h), ?_⟩
  rw [List.dropLast_concat_getLast]
section
variable {w : World} {A : VL} {m : VMD} {f e i : Nat} {t : ThD} {l : ThL} {K : Cx} {fm : FmD}
theorem topV_0 (hi : m.ths[i]? = some t) {r : List Vl} {b : Vl} (hs : t.stack = r ++ [b]) : topV m i 0 = b := by
  unfold topV; rw [th_get hi, hs]; simp
theorem pops_1 (hi : m.ths[i]? = some t) {r : List Vl} {b : Vl} (hs : t.stack = r ++ [b]) : pops m i 1 = m.setTh i { t with stack := r } := by
  rw [pops_is hi, hs]; simp
theorem topV_1 (hi : m.ths[i]? = some t) {r : List Vl} {a b : Vl} (hs : t.stack = r ++ [a, b]) : topV m i 1 = a ∧ topV m i 0 = b := by
  unfold topV; rw [th_get hi, hs]; simp
theorem pops_2 (hi : m.ths[i]? = some t) {r : List Vl} {a b : Vl} (hs : t.stack = r ++ [a, b]) : pops m i 2 = m.setTh i { t with stack := r } := by
  rw [pops_is hi, hs]; simp
/-- behind k pops a value is pushed -/
theorem ppush (hi : m.ths[i]? = some t) {r : List Vl} (v : Vl) : push (m.setTh i { t with stack := r }) i [v] = m.setTh i { t with stack := r ++ [v] } := by
  rw [push_is (setTh_get hi), setTh_setTh]
set_option maxRecDepth 100000
set_option maxHeartbeats 1000000
theorem oper_18 (h : VRep w A m f e) (hi : m.ths[i]? = some t) {r : List Vl} {b : Vl} (hs : t.stack = r ++ [b]) (hl : r.length ≤ 10000) (x : Nat) :
    Calls Tryz.prog 301 #[.pointer (some ⟨A.b, 0, none⟩), .pointer (some ⟨A.bT, i * 5, none⟩), .int .u8 18, .int .i64 x] w (PlPost (operP m i 18 x) w A f e i) := by
  have hop : operP m i 18 x = (.inr (), m.setTh i { t with stack := r ++ [boolV (!truthy b)] }) := by
    unfold operP
    simp (config := { decide := true }) only [if_true, if_false]
    rw [topV_0 hi hs, pops_1 hi hs, ppush hi]
  obtain ⟨Q, HQ⟩ : ∃ Q : Ending → World → Prop, Hid (PlPost (operP m i 18 x) w A f e i = Q) := ⟨_, rfl⟩
  rw [HQ.out]
  have HOP : Hid (operP m i 18 x = _) := hop
  have HI : Hid (m.ths[i]? = some t) := hi
  have H : Hid (VRep w A m f e) := h
  clear hop
  have POP := vpop_any h hi hs (by omega)
  clear h hi hs
  go_enter Tryz.func301, Tryz.ntmps301
  go_wp2_with fail
  refine POP.mono ?_
  clear POP
  rintro e' w1 ⟨rfl, r1, s1⟩
  have HR1 : Hid (VRep w1 A (m.setTh i { t with stack := r }) f e) := r1
  have HS1 : Hid (VSt isVM w A w1 A) := s1.weaken (fun k hk => by unfold isVM; unfold isT at hk; omega)
  have hz0 : A.o w1.heap.size = 0 := r1.own _ (Nat.le_refl _)
  have hz1 : A.o (w1.heap.size + 1) = 0 := r1.own _ (Nat.le_succ _)
  have HGE : Hid (w.heap.size ≤ w1.heap.size + 1) := Nat.le_succ_of_le s1.st.fr.size
  have HZ0 : Hid (A.o w1.heap.size = 0) := hz0
  have HZ1 : Hid (A.o (w1.heap.size + 1) = 0) := hz1
  clear r1 s1 hz0 hz1
  obtain ⟨bt, bn, bs⟩ := b
  go_wp2_with fail
  refine (truthy_any ⟨bt, bn, bs⟩).mono ?_
  rintro e' w2 ⟨rfl, f2⟩
  obtain ⟨B, HB⟩ : ∃ B, Hid (truthy ⟨bt, bn, bs⟩ = B) := ⟨_, rfl⟩
  rw [HB.out]
  have F2 : Fr (fun _ => False) w1 w2 := (((Fr.refl _ _).alloc _).alloc _).trans f2 (fun _ _ x => x)
  have HF2 : Hid (Fr (fun _ => False) ((w1.alloc (.cells #[.int .i64 bt, .int .u64 bn, sv bs] 68)).alloc (.cells #[.int .i64 0, .int .u64 0, sv []] 68)) w2) := f2
  have HG2 : Hid (Fr (fun _ => False) w1 w2) := F2
  clear f2 F2
  go_wp2_with fail
  refine (bool_any (!B)).mono ?_
  rintro e' w3 ⟨rfl, f3⟩
  have f23 := HF2.out.trans f3 (fun _ _ x => x)
  have k8 : Has w3 w1.heap.size #[.int .i64 bt, .int .u64 bn, sv bs] 68 := ((Has.new w1 #[.int .i64 bt, .int .u64 bn, sv bs] 68).alloc _).fr f23 (fun x => x)
  have k9 : Has w3 (w1.heap.size + 1) #[.int .i64 0, .int .u64 0, sv []] 68 := (Has.newC (w1.alloc (.cells #[.int .i64 bt, .int .u64 bn, sv bs] 68)) #[.int .i64 0, .int .u64 0, sv []] 68 (by simp)).fr f23 (fun x => x)
  have d0 := k9.cell 0
  have d1 := k9.cell 1
  have d2 := k9.cell 2
  simp only [List.getElem?_toArray, List.getElem?_cons_succ, List.getElem?_cons_zero] at d0 d1 d2
  have dl := k9.lt
  have dz0 := k9.frozen 0
  have dz1 := k9.frozen 1
  have dz2 := k9.frozen 2
  have HZ : Hid (Stp (fun l => l = 0) w1 A.o w3 A.o) := Stp.fresh _ _ (HG2.out.trans f3 (fun _ _ x => x))
  have HZV : Hid (Stp isVM w A.o w3 A.o) := HS1.out.st.trans (Stp.fresh _ _ (HG2.out.trans f3 (fun _ _ x => x)))
  clear k8 k9 f23 f3
  cases B
  · go_wp2_with fail
    refine (vpush_fk (HR1.out.zero (((((HZ.out.setCell (p := ⟨w1.heap.size + 1, 0, none⟩) HZ1.out _).setCell (p := ⟨w1.heap.size + 1, 1, none⟩) HZ1.out _).setCell (p := ⟨w1.heap.size + 1, 2, none⟩) HZ1.out _)).alloc _)) (setTh_get HI.out) [boolV true] (by simp) (by dsimp only; simp; omega) (Has.newC _ _ _ (by simp))).mono ?_
    rintro e' wz ⟨rfl, A', z1, z2, z3⟩
    have FIN : Hid (Q (.returned (.tuple #[])) wz) := by
      rw [← HQ.out, HOP.out, HB.out]
      rw [setTh_setTh] at z1
      refine ⟨rfl, A', ?_, ?_, z3⟩
      · exact z1
      · exact (VSt.mk ((((HZV.out.own (p := ⟨w1.heap.size + 1, 0, none⟩) HGE.out _).own (p := ⟨w1.heap.size + 1, 1, none⟩) HGE.out _).own (p := ⟨w1.heap.size + 1, 2, none⟩) HGE.out _).alloc _) rfl rfl rfl rfl rfl).trans (z2.weaken (fun k hk => by unfold isVM; unfold isT at hk; omega))
    clear z1 z2 z3
    go_wp2_with fail
    go_end0
    exact FIN.out
  · go_wp2_with fail
    refine (vpush_fk (HR1.out.zero (((((HZ.out.setCell (p := ⟨w1.heap.size + 1, 0, none⟩) HZ1.out _).setCell (p := ⟨w1.heap.size + 1, 1, none⟩) HZ1.out _).setCell (p := ⟨w1.heap.size + 1, 2, none⟩) HZ1.out _)).alloc _)) (setTh_get HI.out) [boolV false] (by simp) (by dsimp only; simp; omega) (Has.newC _ _ _ (by simp))).mono ?_
    rintro e' wz ⟨rfl, A', z1, z2, z3⟩
    have FIN : Hid (Q (.returned (.tuple #[])) wz) := by
      rw [← HQ.out, HOP.out, HB.out]
      rw [setTh_setTh] at z1
      refine ⟨rfl, A', ?_, ?_, z3⟩
      · exact z1
      · exact (VSt.mk ((((HZV.out.own (p := ⟨w1.heap.size + 1, 0, none⟩) HGE.out _).own (p := ⟨w1.heap.size + 1, 1, none⟩) HGE.out _).own (p := ⟨w1.heap.size + 1, 2, none⟩) HGE.out _).alloc _) rfl rfl rfl rfl rfl).trans (z2.weaken (fun k hk => by unfold isVM; unfold isT at hk; omega))
    clear z1 z2 z3
    go_wp2_with fail
    go_end0
    exact FIN.out
theorem oper_19 (h : VRep w A m f e) (hi : m.ths[i]? = some t) {r : List Vl} {b : Vl} (hs : t.stack = r ++ [b]) (hl : r.length ≤ 10000) (x : Nat) :
    Calls Tryz.prog 301 #[.pointer (some ⟨A.b, 0, none⟩), .pointer (some ⟨A.bT, i * 5, none⟩), .int .u8 19, .int .i64 x] w (PlPost (operP m i 19 x) w A f e i) := by
  have hop : operP m i 19 x = (if b.t ≠ 2 then thrR mArith (m.setTh i { t with stack := r }) else (.inr (), m.setTh i { t with stack := r ++ [numV (negN b.n)] })) := by
    unfold operP
    simp (config := { decide := true }) only [if_true, if_false]
    rw [topV_0 hi hs, pops_1 hi hs, ppush hi]
  have c0 := h.cell0 0
  simp only [vmCells, List.getElem?_toArray, List.getElem?_cons_succ, List.getElem?_cons_zero] at c0
  obtain ⟨Q, HQ⟩ : ∃ Q : Ending → World → Prop, Hid (PlPost (operP m i 19 x) w A f e i = Q) := ⟨_, rfl⟩
  rw [HQ.out]
  have HOP : Hid (operP m i 19 x = _) := hop
  have HI : Hid (m.ths[i]? = some t) := hi
  have H : Hid (VRep w A m f e) := h
  clear hop
  have POP := vpop_any h hi hs (by omega)
  clear h hi hs
  go_enter Tryz.func301, Tryz.ntmps301
  go_wp2_with fail
  refine POP.mono ?_
  clear POP
  rintro e' w1 ⟨rfl, r1, s1⟩
  have HR1 : Hid (VRep w1 A (m.setTh i { t with stack := r }) f e) := r1
  have HS1 : Hid (VSt isVM w A w1 A) := s1.weaken (fun k hk => by unfold isVM; unfold isT at hk; omega)
  have hz0 : A.o w1.heap.size = 0 := r1.own _ (Nat.le_refl _)
  have hz1 : A.o (w1.heap.size + 1) = 0 := r1.own _ (Nat.le_succ _)
  have HGE : Hid (w.heap.size ≤ w1.heap.size + 1) := Nat.le_succ_of_le s1.st.fr.size
  have HZ0 : Hid (A.o w1.heap.size = 0) := hz0
  have HZ1 : Hid (A.o (w1.heap.size + 1) = 0) := hz1
  clear r1 s1 hz0 hz1
  obtain ⟨bt, bn, bs⟩ := b
  have c0 := HR1.out.cell0 0
  simp only [vmCells, List.getElem?_toArray, List.getElem?_cons_succ, List.getElem?_cons_zero] at c0
  have hbl := HR1.out.bl
  by_cases h2 : bt = 2
  · subst h2
    go_wp2_with fail
    refine (numOf_ok bn bs mArith).mono ?_
    rintro e' w2 ⟨rfl, f2⟩
    have HF2 : Hid (Fr (fun _ => False) ((w1.alloc (.cells #[.int .i64 2, .int .u64 bn, sv bs] 68)).alloc (.cells #[.int .i64 0, .int .u64 0, sv []] 68)) w2) := f2
    have F2 : Fr (fun _ => False) w1 w2 := (((Fr.refl _ _).alloc _).alloc _).trans f2 (fun _ _ x => x)
    have R2 := HR1.out.fresh F2
    have c20 := R2.cell0 0
    simp only [vmCells, List.getElem?_toArray, List.getElem?_cons_succ, List.getElem?_cons_zero] at c20
    have hb2 := R2.bl
    have k8 : Has w2 w1.heap.size #[.int .i64 2, .int .u64 bn, sv bs] 68 := ((Has.new w1 #[.int .i64 2, .int .u64 bn, sv bs] 68).alloc _).fr f2 (fun x => x)
    have k9 : Has w2 (w1.heap.size + 1) #[.int .i64 0, .int .u64 0, sv []] 68 := (Has.newC (w1.alloc (.cells #[.int .i64 2, .int .u64 bn, sv bs] 68)) #[.int .i64 0, .int .u64 0, sv []] 68 (by simp)).fr f2 (fun x => x)
    have d0 := k9.cell 0
    have d1 := k9.cell 1
    have d2 := k9.cell 2
    simp only [List.getElem?_toArray, List.getElem?_cons_succ, List.getElem?_cons_zero] at d0 d1 d2
    have dl := k9.lt
    have dz0 := k9.frozen 0
    have dz1 := k9.frozen 1
    have dz2 := k9.frozen 2
    have HZ : Hid (Stp (fun l => l = 0) w1 A.o w2 A.o) := Stp.fresh _ _ F2
    have HZV : Hid (Stp isVM w A.o w2 A.o) := HS1.out.st.trans (Stp.fresh _ _ F2)
    clear k8 k9 f2 F2 R2
    go_wp2_with fail
    refine (neg_any _ _).mono ?_
    rintro e' w' ⟨rfl, rfl⟩
    obtain ⟨N, HN⟩ : ∃ N, Hid (negN bn = N) := ⟨_, rfl⟩
    rw [HN.out]
    go_wp2_with fail
    refine (vpush_fk (HR1.out.zero (((((HZ.out.setCell (p := ⟨w1.heap.size + 1, 0, none⟩) HZ1.out _).setCell (p := ⟨w1.heap.size + 1, 1, none⟩) HZ1.out _).setCell (p := ⟨w1.heap.size + 1, 2, none⟩) HZ1.out _)).alloc _)) (setTh_get HI.out) [numV N] (by simp) (by dsimp only; simp; omega) (Has.newC _ _ _ (by simp))).mono ?_
    rintro e' wz ⟨rfl, A', z1, z2, z3⟩
    have FIN : Hid (Q (.returned (.tuple #[])) wz) := by
      rw [← HQ.out, HOP.out, if_neg (by simp), HN.out]
      rw [setTh_setTh] at z1
      refine ⟨rfl, A', ?_, ?_, z3⟩
      · exact z1
      · exact (VSt.mk ((((HZV.out.own (p := ⟨w1.heap.size + 1, 0, none⟩) HGE.out _).own (p := ⟨w1.heap.size + 1, 1, none⟩) HGE.out _).own (p := ⟨w1.heap.size + 1, 2, none⟩) HGE.out _).alloc _) rfl rfl rfl rfl rfl).trans (z2.weaken (fun k hk => by unfold isVM; unfold isT at hk; omega))
    clear z1 z2 z3
    go_wp2_with fail
    go_end0
    exact FIN.out
  · go_wp2_with fail
    refine (numOf_no ⟨bt, bn, bs⟩ h2 mArith).mono ?_
    rintro e' wz ⟨⟨bx, rfl, x2, x3⟩, x4⟩
    refine ⟨rfl, ?_⟩
    rw [← HQ.out, HOP.out, if_pos h2]
    refine ⟨⟨bx, rfl, x2, ?_⟩, A, HR1.out.zero ((((Stp.refl (fun l => l = 0) w1 A.o).alloc _).alloc _).trans (Stp.fresh _ _ x4)), VSt.mk (((HS1.out.st.alloc _).alloc _).trans (Stp.fresh _ _ x4)) rfl rfl rfl rfl rfl⟩
    exact Nat.le_trans (Stp.fr (((HS1.out.st.alloc _).alloc _))).size x3
theorem oper_20 (h : VRep w A m f e) (hi : m.ths[i]? = some t) {r : List Vl} {b : Vl} (hs : t.stack = r ++ [b]) (hl : r.length ≤ 10000) (hb : b.t = 4 → ∃ td, m.tabs[b.n]? = some td ∧ TFit td) (h12 : m.tabs.length ≤ 12) (hsl : b.s.length ≤ 1000) (x : Nat) :
    Calls Tryz.prog 301 #[.pointer (some ⟨A.b, 0, none⟩), .pointer (some ⟨A.bT, i * 5, none⟩), .int .u8 20, .int .i64 x] w (PlPost (operP m i 20 x) w A f e i) := by
  have hop : operP m i 20 x = (if b.t = 3 then (.inr (), m.setTh i { t with stack := r ++ [numV (fromIntN b.s.length)] }) else if b.t ≠ 4 then thrR mLen (m.setTh i { t with stack := r }) else (.inr (), m.setTh i { t with stack := r ++ [numV (fromIntN (m.tabs.getD b.n tab0).len)] })) := by
    unfold operP
    simp (config := { decide := true }) only [if_true, if_false]
    rw [topV_0 hi hs, pops_1 hi hs, ppush hi, ppush hi]
  obtain ⟨Q, HQ⟩ : ∃ Q : Ending → World → Prop, Hid (PlPost (operP m i 20 x) w A f e i = Q) := ⟨_, rfl⟩
  rw [HQ.out]
  have HOP : Hid (operP m i 20 x = _) := hop
  have HI : Hid (m.ths[i]? = some t) := hi
  have H : Hid (VRep w A m f e) := h
  clear hop
  have POP := vpop_any h hi hs (by omega)
  clear h hi hs
  go_enter Tryz.func301, Tryz.ntmps301
  go_wp2_with fail
  refine POP.mono ?_
  clear POP
  rintro e' w1 ⟨rfl, r1, s1⟩
  have HR1 : Hid (VRep w1 A (m.setTh i { t with stack := r }) f e) := r1
  have HS1 : Hid (VSt isVM w A w1 A) := s1.weaken (fun k hk => by unfold isVM; unfold isT at hk; omega)
  have hz0 : A.o w1.heap.size = 0 := r1.own _ (Nat.le_refl _)
  have hz1 : A.o (w1.heap.size + 1) = 0 := r1.own _ (Nat.le_succ _)
  have HGE : Hid (w.heap.size ≤ w1.heap.size + 1) := Nat.le_succ_of_le s1.st.fr.size
  have HZ0 : Hid (A.o w1.heap.size = 0) := hz0
  have HZ1 : Hid (A.o (w1.heap.size + 1) = 0) := hz1
  clear r1 s1 hz0 hz1
  obtain ⟨bt, bn, bs⟩ := b
  dsimp only at hb hsl
  by_cases h3 : bt = 3
  · subst h3
    have F0 : Fr (fun _ => False) w1 ((w1.alloc (.cells #[.int .i64 3, .int .u64 bn, sv bs] 68)).alloc (.cells #[.int .i64 0, .int .u64 0, sv []] 68)) := ((Fr.refl _ _).alloc _).alloc _
    have k8 : Has ((w1.alloc (.cells #[.int .i64 3, .int .u64 bn, sv bs] 68)).alloc (.cells #[.int .i64 0, .int .u64 0, sv []] 68)) w1.heap.size #[.int .i64 3, .int .u64 bn, sv bs] 68 := ((Has.new w1 #[.int .i64 3, .int .u64 bn, sv bs] 68).alloc _).fr (Fr.refl (fun _ => False) _) (fun x => x)
    have k9 : Has ((w1.alloc (.cells #[.int .i64 3, .int .u64 bn, sv bs] 68)).alloc (.cells #[.int .i64 0, .int .u64 0, sv []] 68)) (w1.heap.size + 1) #[.int .i64 0, .int .u64 0, sv []] 68 := (Has.newC (w1.alloc (.cells #[.int .i64 3, .int .u64 bn, sv bs] 68)) #[.int .i64 0, .int .u64 0, sv []] 68 (by simp)).fr (Fr.refl (fun _ => False) _) (fun x => x)
    have R2 := HR1.out.fresh F0
    obtain ⟨W2, HW2⟩ : ∃ W2 : World, Hid (((w1.alloc (.cells #[.int .i64 3, .int .u64 bn, sv bs] 68)).alloc (.cells #[.int .i64 0, .int .u64 0, sv []] 68)) = W2) := ⟨_, rfl⟩
    rw [HW2.out] at F0 k8 k9 R2
    have c20 := R2.cell0 0
    simp only [vmCells, List.getElem?_toArray, List.getElem?_cons_succ, List.getElem?_cons_zero] at c20
    have hb2 := R2.bl
    have d0 := k9.cell 0
    have d1 := k9.cell 1
    have d2 := k9.cell 2
    simp only [List.getElem?_toArray, List.getElem?_cons_succ, List.getElem?_cons_zero] at d0 d1 d2
    have dl := k9.lt
    have dz0 := k9.frozen 0
    have dz1 := k9.frozen 1
    have dz2 := k9.frozen 2
    have HZ : Hid (Stp (fun l => l = 0) w1 A.o W2 A.o) := Stp.fresh _ _ F0
    have HZV : Hid (Stp isVM w A.o W2 A.o) := HS1.out.st.trans (Stp.fresh _ _ F0)
    have c0 := HR1.out.cell0 0
    simp only [vmCells, List.getElem?_toArray, List.getElem?_cons_succ, List.getElem?_cons_zero] at c0
    have hbl := HR1.out.bl
    clear R2 k8 k9 F0
    go_wp2_with fail
    rw [HW2.out]
    refine (fromInt_any _ _).mono ?_
    rintro e' w' ⟨rfl, rfl⟩
    obtain ⟨N, HN⟩ : ∃ N, Hid (fromIntN (bs.length : Int) = N) := ⟨_, rfl⟩
    rw [HN.out]
    go_wp2_with fail
    refine (vpush_fk (HR1.out.zero (((((HZ.out.setCell (p := ⟨w1.heap.size + 1, 0, none⟩) HZ1.out _).setCell (p := ⟨w1.heap.size + 1, 1, none⟩) HZ1.out _).setCell (p := ⟨w1.heap.size + 1, 2, none⟩) HZ1.out _)).alloc _)) (setTh_get HI.out) [numV N] (by simp) (by dsimp only; simp; omega) (Has.newC _ _ _ (by simp))).mono ?_
    rintro e' wz ⟨rfl, A', z1, z2, z3⟩
    have FIN : Hid (Q (.returned (.tuple #[])) wz) := by
      rw [← HQ.out, HOP.out, if_pos trivial, HN.out]
      rw [setTh_setTh] at z1
      refine ⟨rfl, A', ?_, ?_, z3⟩
      · exact z1
      · exact (VSt.mk ((((HZV.out.own (p := ⟨w1.heap.size + 1, 0, none⟩) HGE.out _).own (p := ⟨w1.heap.size + 1, 1, none⟩) HGE.out _).own (p := ⟨w1.heap.size + 1, 2, none⟩) HGE.out _).alloc _) rfl rfl rfl rfl rfl).trans (z2.weaken (fun k hk => by unfold isVM; unfold isT at hk; omega))
    clear z1 z2 z3
    go_wp2_with fail
    go_end0
    exact FIN.out
  · by_cases h4 : bt = 4
    · subst h4
      obtain ⟨td, htd, hft⟩ := hb rfl
      have hlt := (List.getElem?_eq_some_iff.1 htd).1
      have hbn : bn < 4294967296 := by omega
      have HTD : Hid (m.tabs[bn]? = some td) := htd
      have hgd : m.tabs.getD bn tab0 = td := by simp [htd]
      have HGD : Hid (m.tabs.getD bn tab0 = td) := hgd
      have HFT : Hid (TFit td) := hft
      clear htd hft hb hgd
      go_wp2_with fail
      refine (tabOf_ok bn hbn bs mLen).mono ?_
      rintro e' w2 ⟨rfl, f2⟩
      have HF2 : Hid (Fr (fun _ => False) ((w1.alloc (.cells #[.int .i64 4, .int .u64 bn, sv bs] 68)).alloc (.cells #[.int .i64 0, .int .u64 0, sv []] 68)) w2) := f2
      have F2 : Fr (fun _ => False) w1 w2 := (((Fr.refl _ _).alloc _).alloc _).trans f2 (fun _ _ x => x)
      have HG2 : Hid (Fr (fun _ => False) w1 w2) := F2
      have R2 := HR1.out.fresh F2
      have HR2 : Hid (VRep w2 A (m.setTh i { t with stack := r }) f e) := R2
      have c21 := R2.cell0 1
      simp only [vmCells, List.getElem?_toArray, List.getElem?_cons_succ, List.getElem?_cons_zero] at c21
      have hb2 := R2.bl
      clear f2 F2 R2
      go_wp2_with fail
      refine (len_vm (td := td) HR2.out HTD.out HFT.out h12).mono ?_
      rintro e' w3 ⟨rfl, f3⟩
      have f23 := HF2.out.trans f3 (fun _ _ x => x)
      have R3 := HR2.out.fresh f3
      have c30 := R3.cell0 0
      simp only [vmCells, List.getElem?_toArray, List.getElem?_cons_succ, List.getElem?_cons_zero] at c30
      have hb3 := R3.bl
      have k8 : Has w3 w1.heap.size #[.int .i64 4, .int .u64 bn, sv bs] 68 := ((Has.new w1 #[.int .i64 4, .int .u64 bn, sv bs] 68).alloc _).fr f23 (fun x => x)
      have k9 : Has w3 (w1.heap.size + 1) #[.int .i64 0, .int .u64 0, sv []] 68 := (Has.newC (w1.alloc (.cells #[.int .i64 4, .int .u64 bn, sv bs] 68)) #[.int .i64 0, .int .u64 0, sv []] 68 (by simp)).fr f23 (fun x => x)
      have d0 := k9.cell 0
      have d1 := k9.cell 1
      have d2 := k9.cell 2
      simp only [List.getElem?_toArray, List.getElem?_cons_succ, List.getElem?_cons_zero] at d0 d1 d2
      have dl := k9.lt
      have dz0 := k9.frozen 0
      have dz1 := k9.frozen 1
      have dz2 := k9.frozen 2
      have HZ : Hid (Stp (fun l => l = 0) w1 A.o w3 A.o) := Stp.fresh _ _ (HG2.out.trans f3 (fun _ _ x => x))
      have HZV : Hid (Stp isVM w A.o w3 A.o) := HS1.out.st.trans (Stp.fresh _ _ (HG2.out.trans f3 (fun _ _ x => x)))
      have hln : td.len ≤ 1000 := by have h1 := HFT.out.al; have h2 := len_le td; omega
      obtain ⟨LN, HLN⟩ : ∃ N, Hid (td.len = N) := ⟨_, rfl⟩
      rw [HLN.out] at hln ⊢
      clear k8 k9 f23 f3 R3
      go_wp2_with fail
      refine (fromInt_any _ _).mono ?_
      rintro e' w' ⟨rfl, rfl⟩
      obtain ⟨N, HN⟩ : ∃ N, Hid (fromIntN (LN : Int) = N) := ⟨_, rfl⟩
      rw [HN.out]
      go_wp2_with fail
      refine (vpush_fk (HR1.out.zero (((((HZ.out.setCell (p := ⟨w1.heap.size + 1, 0, none⟩) HZ1.out _).setCell (p := ⟨w1.heap.size + 1, 1, none⟩) HZ1.out _).setCell (p := ⟨w1.heap.size + 1, 2, none⟩) HZ1.out _)).alloc _)) (setTh_get HI.out) [numV N] (by simp) (by dsimp only; simp; omega) (Has.newC _ _ _ (by simp))).mono ?_
      rintro e' wz ⟨rfl, A', z1, z2, z3⟩
      have FIN : Hid (Q (.returned (.tuple #[])) wz) := by
        rw [← HQ.out, HOP.out, if_neg (by decide), if_neg (by decide), HGD.out, HLN.out, HN.out]
        rw [setTh_setTh] at z1
        refine ⟨rfl, A', ?_, ?_, z3⟩
        · exact z1
        · exact (VSt.mk ((((HZV.out.own (p := ⟨w1.heap.size + 1, 0, none⟩) HGE.out _).own (p := ⟨w1.heap.size + 1, 1, none⟩) HGE.out _).own (p := ⟨w1.heap.size + 1, 2, none⟩) HGE.out _).alloc _) rfl rfl rfl rfl rfl).trans (z2.weaken (fun k hk => by unfold isVM; unfold isT at hk; omega))
      clear z1 z2 z3
      go_wp2_with fail
      go_end0
      exact FIN.out
    · have h3b : (bt != 3) = true := by simpa using h3
      go_wp2_with fail
      refine (tabOf_no ⟨bt, bn, bs⟩ h4 mLen).mono ?_
      rintro e' wz ⟨⟨bx, rfl, x2, x3⟩, x4⟩
      refine ⟨rfl, ?_⟩
      rw [← HQ.out, HOP.out, if_neg h3, if_pos h4]
      refine ⟨⟨bx, rfl, x2, ?_⟩, A, HR1.out.zero ((((Stp.refl (fun l => l = 0) w1 A.o).alloc _).alloc _).trans (Stp.fresh _ _ x4)), VSt.mk (((HS1.out.st.alloc _).alloc _).trans (Stp.fresh _ _ x4)) rfl rfl rfl rfl rfl⟩
      exact Nat.le_trans (Stp.fr (((HS1.out.st.alloc _).alloc _))).size x3
theorem oper_16 (h : VRep w A m f e) (hi : m.ths[i]? = some t) {r : List Vl} {a b : Vl} (hs : t.stack = r ++ [a, b]) (hl : r.length ≤ 10000) (x : Nat) (hx : 1 ≤ x ∧ x ≤ 6) :
    Calls Tryz.prog 301 #[.pointer (some ⟨A.b, 0, none⟩), .pointer (some ⟨A.bT, i * 5, none⟩), .int .u8 16, .int .i64 x] w (PlPost (operP m i 16 x) w A f e i) := by
  have hop : operP m i 16 x = (match compareP x a b with
    | none => thrR mCompare (m.setTh i { t with stack := r })
    | some c => (.inr (), m.setTh i { t with stack := r ++ [boolV c] })) := by
    unfold operP
    simp (config := { decide := true }) only [if_true, if_false]
    rw [(topV_1 hi hs).1, (topV_1 hi hs).2, pops_2 hi hs]
    cases compareP x a b with
    | none => rfl
    | some c => dsimp only; rw [ppush hi]
  obtain ⟨Q, HQ⟩ : ∃ Q : Ending → World → Prop, Hid (PlPost (operP m i 16 x) w A f e i = Q) := ⟨_, rfl⟩
  rw [HQ.out]
  have HOP : Hid (operP m i 16 x = _) := hop
  have HI : Hid (m.ths[i]? = some t) := hi
  have H : Hid (VRep w A m f e) := h
  clear hop
  have hs2 : t.stack = (r ++ [a]) ++ [b] := by rw [hs]; simp
  have POP := vpop_any h hi hs2 (by simp; omega)
  clear h hi hs hs2
  go_enter Tryz.func301, Tryz.ntmps301
  go_wp2_with fail
  refine POP.mono ?_
  clear POP
  rintro e' w1 ⟨rfl, r1, s1⟩
  have HR1 : Hid (VRep w1 A (m.setTh i { t with stack := r ++ [a] }) f e) := r1
  have HS1 : Hid (VSt isVM w A w1 A) := s1.weaken (fun k hk => by unfold isVM; unfold isT at hk; omega)
  have hz0 : A.o w1.heap.size = 0 := r1.own _ (Nat.le_refl _)
  have hz1 : A.o (w1.heap.size + 1) = 0 := r1.own _ (Nat.le_succ _)
  have HGE : Hid (w.heap.size ≤ w1.heap.size + 1) := Nat.le_succ_of_le s1.st.fr.size
  have HZ0 : Hid (A.o w1.heap.size = 0) := hz0
  have HZ1 : Hid (A.o (w1.heap.size + 1) = 0) := hz1
  clear r1 s1 hz0 hz1
  obtain ⟨bt, bn, bs⟩ := b
  have F0 : Fr (fun _ => False) w1 ((w1.alloc (.cells #[.int .i64 bt, .int .u64 bn, sv bs] 68)).alloc (.cells #[.int .i64 0, .int .u64 0, sv []] 68)) := ((Fr.refl _ _).alloc _).alloc _
  have k8 : Has ((w1.alloc (.cells #[.int .i64 bt, .int .u64 bn, sv bs] 68)).alloc (.cells #[.int .i64 0, .int .u64 0, sv []] 68)) w1.heap.size #[.int .i64 bt, .int .u64 bn, sv bs] 68 := ((Has.new w1 #[.int .i64 bt, .int .u64 bn, sv bs] 68).alloc _).fr (Fr.refl (fun _ => False) _) (fun x => x)
  have k9 : Has ((w1.alloc (.cells #[.int .i64 bt, .int .u64 bn, sv bs] 68)).alloc (.cells #[.int .i64 0, .int .u64 0, sv []] 68)) (w1.heap.size + 1) #[.int .i64 0, .int .u64 0, sv []] 68 := (Has.newC (w1.alloc (.cells #[.int .i64 bt, .int .u64 bn, sv bs] 68)) #[.int .i64 0, .int .u64 0, sv []] 68 (by simp)).fr (Fr.refl (fun _ => False) _) (fun x => x)
  have R0 := HR1.out.fresh F0
  have POP2 := vpop_any (v := a) (r := r) R0 (setTh_get HI.out) rfl (by omega)
  have HS0 : Hid (VSt isVM w A ((w1.alloc (.cells #[.int .i64 bt, .int .u64 bn, sv bs] 68)).alloc (.cells #[.int .i64 0, .int .u64 0, sv []] 68)) A) := HS1.out.trans (VSt.fresh F0)
  have HK8 : Hid (Has ((w1.alloc (.cells #[.int .i64 bt, .int .u64 bn, sv bs] 68)).alloc (.cells #[.int .i64 0, .int .u64 0, sv []] 68)) w1.heap.size #[.int .i64 bt, .int .u64 bn, sv bs] 68) := k8
  have HK9 : Hid (Has ((w1.alloc (.cells #[.int .i64 bt, .int .u64 bn, sv bs] 68)).alloc (.cells #[.int .i64 0, .int .u64 0, sv []] 68)) (w1.heap.size + 1) #[.int .i64 0, .int .u64 0, sv []] 68) := k9
  clear F0 k8 k9 R0
  go_wp2_with fail
  refine POP2.mono ?_
  clear POP2
  rintro e' w2 ⟨rfl, r2, s2⟩
  rw [setTh_setTh] at r2
  have HR2 : Hid (VRep w2 A (m.setTh i { t with stack := r }) f e) := r2
  have HS2 : Hid (VSt isVM w A w2 A) := HS0.out.trans (s2.weaken (fun k hk => by unfold isVM; unfold isT at hk; omega))
  have HK82 : Hid (Has w2 w1.heap.size #[.int .i64 bt, .int .u64 bn, sv bs] 68) := s2.st.has HK8.out (by rw [HZ0.out]; unfold isT; omega)
  have HK92 : Hid (Has w2 (w1.heap.size + 1) #[.int .i64 0, .int .u64 0, sv []] 68) := s2.st.has HK9.out (by rw [HZ1.out]; unfold isT; omega)
  clear r2 s2 HK8 HK9
  obtain ⟨at', an, as'⟩ := a
  have FA : Fr (fun _ => False) w2 (w2.alloc (.cells #[.int .i64 at', .int .u64 an, sv as'] 68)) := (Fr.refl _ _).alloc _
  have k8 : Has (w2.alloc (.cells #[.int .i64 at', .int .u64 an, sv as'] 68)) w1.heap.size #[.int .i64 bt, .int .u64 bn, sv bs] 68 := HK82.out.fr FA (fun x => x)
  have k9 : Has (w2.alloc (.cells #[.int .i64 at', .int .u64 an, sv as'] 68)) (w1.heap.size + 1) #[.int .i64 0, .int .u64 0, sv []] 68 := HK92.out.fr FA (fun x => x)
  have p0 := k8.cell 0
  have p1 := k8.cell 1
  have p2 := k8.cell 2
  simp only [List.getElem?_toArray, List.getElem?_cons_succ, List.getElem?_cons_zero] at p0 p1 p2
  have pl := k8.lt
  have HFA : Hid (Fr (fun _ => False) w2 (w2.alloc (.cells #[.int .i64 at', .int .u64 an, sv as'] 68))) := FA
  have RA := HR2.out.fresh FA
  have HRA : Hid (VRep (w2.alloc (.cells #[.int .i64 at', .int .u64 an, sv as'] 68)) A (m.setTh i { t with stack := r }) f e) := RA
  have q8 := HK82.out.cell 0
  have q81 := HK82.out.cell 1
  have q82 := HK82.out.cell 2
  simp only [List.getElem?_toArray, List.getElem?_cons_succ, List.getElem?_cons_zero] at q8 q81 q82
  have q8l := HK82.out.lt
  clear k8 k9 FA RA
  go_wp2_with fail
  refine (compare_any HRA.out hx ⟨at', an, as'⟩ ⟨bt, bn, bs⟩).mono ?_
  intro e' w3 hc
  cases hcp : compareP x ⟨at', an, as'⟩ ⟨bt, bn, bs⟩ with
  | none =>
    rw [hcp] at hc
    obtain ⟨⟨bx, rfl, x2, x3⟩, f3⟩ := hc
    refine ⟨rfl, ?_⟩
    rw [← HQ.out, HOP.out, hcp]
    refine ⟨⟨bx, rfl, x2, ?_⟩, A, HR2.out.fresh (((Fr.refl (fun _ => False) w2).alloc _).trans f3 (fun _ _ x => x)), HS2.out.trans (VSt.fresh (((Fr.refl (fun _ => False) w2).alloc _).trans f3 (fun _ _ x => x)))⟩
    exact Nat.le_trans (Nat.le_trans HS2.out.st.fr.size (Fr.alloc (Fr.refl (fun _ => False) w2) _).size) x3
  | some c =>
    rw [hcp] at hc
    obtain ⟨rfl, f3⟩ := hc
    have F3 := HFA.out.trans f3 (fun _ _ x => x)
    have k8 : Has w3 w1.heap.size #[.int .i64 bt, .int .u64 bn, sv bs] 68 := HK82.out.fr F3 (fun x => x)
    have k9 : Has w3 (w1.heap.size + 1) #[.int .i64 0, .int .u64 0, sv []] 68 := HK92.out.fr F3 (fun x => x)
    have HF3 : Hid (Fr (fun _ => False) w2 w3) := F3
    have HCP : Hid (compareP x ⟨at', an, as'⟩ ⟨bt, bn, bs⟩ = some c) := hcp
    clear f3 F3 hcp k8 k9
    go_wp2_with fail
    refine (bool_any c).mono ?_
    rintro e' w4 ⟨rfl, f4⟩
    have F4 := HF3.out.trans f4 (fun _ _ x => x)
    have k8 : Has w4 w1.heap.size #[.int .i64 bt, .int .u64 bn, sv bs] 68 := HK82.out.fr F4 (fun x => x)
    have k9 : Has w4 (w1.heap.size + 1) #[.int .i64 0, .int .u64 0, sv []] 68 := HK92.out.fr F4 (fun x => x)
    have d0 := k9.cell 0
    have d1 := k9.cell 1
    have d2 := k9.cell 2
    simp only [List.getElem?_toArray, List.getElem?_cons_succ, List.getElem?_cons_zero] at d0 d1 d2
    have dl := k9.lt
    have dz0 := k9.frozen 0
    have dz1 := k9.frozen 1
    have dz2 := k9.frozen 2
    have HZ : Hid (Stp (fun l => l = 0) w2 A.o w4 A.o) := Stp.fresh _ _ F4
    have HZV : Hid (Stp isVM w A.o w4 A.o) := HS2.out.st.trans (Stp.fresh _ _ F4)
    clear k8 k9 f4 F4
    cases c
    · go_wp2_with fail
      refine (vpush_fk (HR2.out.zero (((((HZ.out.setCell (p := ⟨w1.heap.size + 1, 0, none⟩) HZ1.out _).setCell (p := ⟨w1.heap.size + 1, 1, none⟩) HZ1.out _).setCell (p := ⟨w1.heap.size + 1, 2, none⟩) HZ1.out _)).alloc _)) (setTh_get HI.out) [boolV false] (by simp) (by dsimp only; simp; omega) (Has.newC _ _ _ (by simp))).mono ?_
      rintro e' wz ⟨rfl, A', z1, z2, z3⟩
      have FIN : Hid (Q (.returned (.tuple #[])) wz) := by
        rw [← HQ.out, HOP.out, HCP.out]
        rw [setTh_setTh] at z1
        refine ⟨rfl, A', ?_, ?_, z3⟩
        · exact z1
        · exact (VSt.mk ((((HZV.out.own (p := ⟨w1.heap.size + 1, 0, none⟩) HGE.out _).own (p := ⟨w1.heap.size + 1, 1, none⟩) HGE.out _).own (p := ⟨w1.heap.size + 1, 2, none⟩) HGE.out _).alloc _) rfl rfl rfl rfl rfl).trans (z2.weaken (fun k hk => by unfold isVM; unfold isT at hk; omega))
      clear z1 z2 z3
      go_wp2_with fail
      go_end0
      exact FIN.out
    · go_wp2_with fail
      refine (vpush_fk (HR2.out.zero (((((HZ.out.setCell (p := ⟨w1.heap.size + 1, 0, none⟩) HZ1.out _).setCell (p := ⟨w1.heap.size + 1, 1, none⟩) HZ1.out _).setCell (p := ⟨w1.heap.size + 1, 2, none⟩) HZ1.out _)).alloc _)) (setTh_get HI.out) [boolV true] (by simp) (by dsimp only; simp; omega) (Has.newC _ _ _ (by simp))).mono ?_
      rintro e' wz ⟨rfl, A', z1, z2, z3⟩
      have FIN : Hid (Q (.returned (.tuple #[])) wz) := by
        rw [← HQ.out, HOP.out, HCP.out]
        rw [setTh_setTh] at z1
        refine ⟨rfl, A', ?_, ?_, z3⟩
        · exact z1
        · exact (VSt.mk ((((HZV.out.own (p := ⟨w1.heap.size + 1, 0, none⟩) HGE.out _).own (p := ⟨w1.heap.size + 1, 1, none⟩) HGE.out _).own (p := ⟨w1.heap.size + 1, 2, none⟩) HGE.out _).alloc _) rfl rfl rfl rfl rfl).trans (z2.weaken (fun k hk => by unfold isVM; unfold isT at hk; omega))
      clear z1 z2 z3
      go_wp2_with fail
      go_end0
      exact FIN.out
theorem oper_15 (h : VRep w A m f e) (hi : m.ths[i]? = some t) {r : List Vl} {a b : Vl} (hs : t.stack = r ++ [a, b]) (hl : r.length ≤ 10000) (x : Nat) (hx : 1 ≤ x ∧ x ≤ 6) :
    Calls Tryz.prog 301 #[.pointer (some ⟨A.b, 0, none⟩), .pointer (some ⟨A.bT, i * 5, none⟩), .int .u8 15, .int .i64 x] w (PlPost (operP m i 15 x) w A f e i) := by
  have hop : operP m i 15 x = (if a.t ≠ 2 ∨ b.t ≠ 2 then thrR mArith (m.setTh i { t with stack := r }) else (.inr (), m.setTh i { t with stack := r ++ [numV (arithN x a.n b.n)] })) := by
    unfold operP
    simp (config := { decide := true }) only [if_true, if_false]
    rw [(topV_1 hi hs).1, (topV_1 hi hs).2, pops_2 hi hs, ppush hi]
  obtain ⟨Q, HQ⟩ : ∃ Q : Ending → World → Prop, Hid (PlPost (operP m i 15 x) w A f e i = Q) := ⟨_, rfl⟩
  rw [HQ.out]
  have HOP : Hid (operP m i 15 x = _) := hop
  have HI : Hid (m.ths[i]? = some t) := hi
  have H : Hid (VRep w A m f e) := h
  clear hop
  have hs2 : t.stack = (r ++ [a]) ++ [b] := by rw [hs]; simp
  have POP := vpop_any h hi hs2 (by simp; omega)
  clear h hi hs hs2
  go_enter Tryz.func301, Tryz.ntmps301
  go_wp2_with fail
  refine POP.mono ?_
  clear POP
  rintro e' w1 ⟨rfl, r1, s1⟩
  have HR1 : Hid (VRep w1 A (m.setTh i { t with stack := r ++ [a] }) f e) := r1
  have HS1 : Hid (VSt isVM w A w1 A) := s1.weaken (fun k hk => by unfold isVM; unfold isT at hk; omega)
  have hz0 : A.o w1.heap.size = 0 := r1.own _ (Nat.le_refl _)
  have hz1 : A.o (w1.heap.size + 1) = 0 := r1.own _ (Nat.le_succ _)
  have HGE : Hid (w.heap.size ≤ w1.heap.size + 1) := Nat.le_succ_of_le s1.st.fr.size
  have HZ0 : Hid (A.o w1.heap.size = 0) := hz0
  have HZ1 : Hid (A.o (w1.heap.size + 1) = 0) := hz1
  clear r1 s1 hz0 hz1
  obtain ⟨bt, bn, bs⟩ := b
  have F0 : Fr (fun _ => False) w1 ((w1.alloc (.cells #[.int .i64 bt, .int .u64 bn, sv bs] 68)).alloc (.cells #[.int .i64 0, .int .u64 0, sv []] 68)) := ((Fr.refl _ _).alloc _).alloc _
  have k8 : Has ((w1.alloc (.cells #[.int .i64 bt, .int .u64 bn, sv bs] 68)).alloc (.cells #[.int .i64 0, .int .u64 0, sv []] 68)) w1.heap.size #[.int .i64 bt, .int .u64 bn, sv bs] 68 := ((Has.new w1 #[.int .i64 bt, .int .u64 bn, sv bs] 68).alloc _).fr (Fr.refl (fun _ => False) _) (fun x => x)
  have k9 : Has ((w1.alloc (.cells #[.int .i64 bt, .int .u64 bn, sv bs] 68)).alloc (.cells #[.int .i64 0, .int .u64 0, sv []] 68)) (w1.heap.size + 1) #[.int .i64 0, .int .u64 0, sv []] 68 := (Has.newC (w1.alloc (.cells #[.int .i64 bt, .int .u64 bn, sv bs] 68)) #[.int .i64 0, .int .u64 0, sv []] 68 (by simp)).fr (Fr.refl (fun _ => False) _) (fun x => x)
  have R0 := HR1.out.fresh F0
  have POP2 := vpop_any (v := a) (r := r) R0 (setTh_get HI.out) rfl (by omega)
  have HS0 : Hid (VSt isVM w A ((w1.alloc (.cells #[.int .i64 bt, .int .u64 bn, sv bs] 68)).alloc (.cells #[.int .i64 0, .int .u64 0, sv []] 68)) A) := HS1.out.trans (VSt.fresh F0)
  have HK8 : Hid (Has ((w1.alloc (.cells #[.int .i64 bt, .int .u64 bn, sv bs] 68)).alloc (.cells #[.int .i64 0, .int .u64 0, sv []] 68)) w1.heap.size #[.int .i64 bt, .int .u64 bn, sv bs] 68) := k8
  have HK9 : Hid (Has ((w1.alloc (.cells #[.int .i64 bt, .int .u64 bn, sv bs] 68)).alloc (.cells #[.int .i64 0, .int .u64 0, sv []] 68)) (w1.heap.size + 1) #[.int .i64 0, .int .u64 0, sv []] 68) := k9
  clear F0 k8 k9 R0
  go_wp2_with fail
  refine POP2.mono ?_
  clear POP2
  rintro e' w2 ⟨rfl, r2, s2⟩
  rw [setTh_setTh] at r2
  have HR2 : Hid (VRep w2 A (m.setTh i { t with stack := r }) f e) := r2
  have HS2 : Hid (VSt isVM w A w2 A) := HS0.out.trans (s2.weaken (fun k hk => by unfold isVM; unfold isT at hk; omega))
  have HK82 : Hid (Has w2 w1.heap.size #[.int .i64 bt, .int .u64 bn, sv bs] 68) := s2.st.has HK8.out (by rw [HZ0.out]; unfold isT; omega)
  have HK92 : Hid (Has w2 (w1.heap.size + 1) #[.int .i64 0, .int .u64 0, sv []] 68) := s2.st.has HK9.out (by rw [HZ1.out]; unfold isT; omega)
  clear r2 s2 HK8 HK9
  obtain ⟨at', an, as'⟩ := a
  by_cases ha2 : at' = 2
  · subst ha2
    have q8 := HK82.out.cell 0
    have q81 := HK82.out.cell 1
    have q82 := HK82.out.cell 2
    simp only [List.getElem?_toArray, List.getElem?_cons_succ, List.getElem?_cons_zero] at q8 q81 q82
    have q8l := HK82.out.lt
    go_wp2_with fail
    refine (numOf_ok an as' mArith).mono ?_
    rintro e' w3 ⟨rfl, f3⟩
    have F3 : Fr (fun _ => False) w2 w3 := ((Fr.refl (fun _ => False) w2).alloc _).trans f3 (fun _ _ x => x)
    have HF3 : Hid (Fr (fun _ => False) w2 w3) := F3
    have k8 : Has w3 w1.heap.size #[.int .i64 bt, .int .u64 bn, sv bs] 68 := HK82.out.fr F3 (fun x => x)
    have k9 : Has w3 (w1.heap.size + 1) #[.int .i64 0, .int .u64 0, sv []] 68 := HK92.out.fr F3 (fun x => x)
    have p0 := k8.cell 0
    have p1 := k8.cell 1
    have p2 := k8.cell 2
    simp only [List.getElem?_toArray, List.getElem?_cons_succ, List.getElem?_cons_zero] at p0 p1 p2
    have pl := k8.lt
    clear k8 k9 f3 F3
    by_cases hb2 : bt = 2
    · subst hb2
      go_wp2_with fail
      refine (numOf_ok bn bs mArith).mono ?_
      rintro e' w4 ⟨rfl, f4⟩
      have F4 := HF3.out.trans f4 (fun _ _ x => x)
      have HF4 : Hid (Fr (fun _ => False) w2 w4) := F4
      have R4 := HR2.out.fresh F4
      have c40 := R4.cell0 0
      simp only [vmCells, List.getElem?_toArray, List.getElem?_cons_succ, List.getElem?_cons_zero] at c40
      have hb4 := R4.bl
      clear f4 F4 R4
      go_wp2_with fail
      refine (arith_any _ hx an bn).mono ?_
      rintro e' w5 ⟨rfl, f5⟩
      have F5 := HF4.out.trans f5 (fun _ _ x => x)
      have k8 : Has w5 w1.heap.size #[.int .i64 2, .int .u64 bn, sv bs] 68 := HK82.out.fr F5 (fun x => x)
      have k9 : Has w5 (w1.heap.size + 1) #[.int .i64 0, .int .u64 0, sv []] 68 := HK92.out.fr F5 (fun x => x)
      have d0 := k9.cell 0
      have d1 := k9.cell 1
      have d2 := k9.cell 2
      simp only [List.getElem?_toArray, List.getElem?_cons_succ, List.getElem?_cons_zero] at d0 d1 d2
      have dl := k9.lt
      have dz0 := k9.frozen 0
      have dz1 := k9.frozen 1
      have dz2 := k9.frozen 2
      have HZ : Hid (Stp (fun l => l = 0) w2 A.o w5 A.o) := Stp.fresh _ _ F5
      have HZV : Hid (Stp isVM w A.o w5 A.o) := HS2.out.st.trans (Stp.fresh _ _ F5)
      obtain ⟨N, HN⟩ : ∃ N, Hid (arithN x an bn = N) := ⟨_, rfl⟩
      rw [HN.out]
      clear k8 k9 f5 F5
      go_wp2_with fail
      refine (vpush_fk (HR2.out.zero (((((HZ.out.setCell (p := ⟨w1.heap.size + 1, 0, none⟩) HZ1.out _).setCell (p := ⟨w1.heap.size + 1, 1, none⟩) HZ1.out _).setCell (p := ⟨w1.heap.size + 1, 2, none⟩) HZ1.out _)).alloc _)) (setTh_get HI.out) [numV N] (by simp) (by dsimp only; simp; omega) (Has.newC _ _ _ (by simp))).mono ?_
      rintro e' wz ⟨rfl, A', z1, z2, z3⟩
      have FIN : Hid (Q (.returned (.tuple #[])) wz) := by
        rw [← HQ.out, HOP.out, if_neg (by simp), HN.out]
        rw [setTh_setTh] at z1
        refine ⟨rfl, A', ?_, ?_, z3⟩
        · exact z1
        · exact (VSt.mk ((((HZV.out.own (p := ⟨w1.heap.size + 1, 0, none⟩) HGE.out _).own (p := ⟨w1.heap.size + 1, 1, none⟩) HGE.out _).own (p := ⟨w1.heap.size + 1, 2, none⟩) HGE.out _).alloc _) rfl rfl rfl rfl rfl).trans (z2.weaken (fun k hk => by unfold isVM; unfold isT at hk; omega))
      clear z1 z2 z3
      go_wp2_with fail
      go_end0
      exact FIN.out
    · go_wp2_with fail
      refine (numOf_no ⟨bt, bn, bs⟩ hb2 mArith).mono ?_
      rintro e' wz ⟨⟨bx, rfl, x2, x3⟩, x4⟩
      refine ⟨rfl, ?_⟩
      rw [← HQ.out, HOP.out, if_pos (.inr hb2)]
      refine ⟨⟨bx, rfl, x2, ?_⟩, A, HR2.out.zero ((Stp.fresh _ _ HF3.out).trans (Stp.fresh _ _ x4)), VSt.mk ((HS2.out.st.trans (Stp.fresh _ _ HF3.out)).trans (Stp.fresh _ _ x4)) rfl rfl rfl rfl rfl⟩
      exact Nat.le_trans (Stp.fr ((HS2.out.st.trans (Stp.fresh _ _ HF3.out)))).size x3
  · go_wp2_with fail
    refine (numOf_no ⟨at', an, as'⟩ ha2 mArith).mono ?_
    rintro e' wz ⟨⟨bx, rfl, x2, x3⟩, x4⟩
    refine ⟨rfl, ?_⟩
    rw [← HQ.out, HOP.out, if_pos (.inl ha2)]
    refine ⟨⟨bx, rfl, x2, ?_⟩, A, HR2.out.zero (((Stp.refl _ _ _).alloc _).trans (Stp.fresh _ _ x4)), VSt.mk ((HS2.out.st.alloc _).trans (Stp.fresh _ _ x4)) rfl rfl rfl rfl rfl⟩
    exact Nat.le_trans (Stp.fr ((HS2.out.st.alloc _))).size x3
theorem oper_17 (h : VRep w A m f e) (hi : m.ths[i]? = some t) {r : List Vl} {a b : Vl} (hs : t.stack = r ++ [a, b]) (hl : r.length ≤ 10000) (hwa : wellV a = true) (hna : a.n < 18446744073709551616) (hwb : wellV b = true) (hnb : b.n < 18446744073709551616) (hla : (textV a).length ≤ 40) (hlb : (textV b).length ≤ 40) (x : Nat) :
    Calls Tryz.prog 301 #[.pointer (some ⟨A.b, 0, none⟩), .pointer (some ⟨A.bT, i * 5, none⟩), .int .u8 17, .int .i64 x] w (PlPost (operP m i 17 x) w A f e i) := by
  have hop : operP m i 17 x = (if (a.t ≠ 3 ∧ a.t ≠ 2) ∨ (b.t ≠ 3 ∧ b.t ≠ 2) then thrR mConcat (m.setTh i { t with stack := r }) else if (textV a).length + (textV b).length > 40 then thrR mLong (m.setTh i { t with stack := r }) else (.inr (), m.setTh i { t with stack := r ++ [strV (textV a ++ textV b)] })) := by
    unfold operP
    simp (config := { decide := true }) only [if_true, if_false]
    rw [(topV_1 hi hs).1, (topV_1 hi hs).2, pops_2 hi hs, ppush hi]
  obtain ⟨Q, HQ⟩ : ∃ Q : Ending → World → Prop, Hid (PlPost (operP m i 17 x) w A f e i = Q) := ⟨_, rfl⟩
  rw [HQ.out]
  have HOP : Hid (operP m i 17 x = _) := hop
  have HI : Hid (m.ths[i]? = some t) := hi
  have H : Hid (VRep w A m f e) := h
  clear hop
  have hs2 : t.stack = (r ++ [a]) ++ [b] := by rw [hs]; simp
  have POP := vpop_any h hi hs2 (by simp; omega)
  clear h hi hs hs2
  go_enter Tryz.func301, Tryz.ntmps301
  go_wp2_with fail
  refine POP.mono ?_
  clear POP
  rintro e' w1 ⟨rfl, r1, s1⟩
  have HR1 : Hid (VRep w1 A (m.setTh i { t with stack := r ++ [a] }) f e) := r1
  have HS1 : Hid (VSt isVM w A w1 A) := s1.weaken (fun k hk => by unfold isVM; unfold isT at hk; omega)
  have hz0 : A.o w1.heap.size = 0 := r1.own _ (Nat.le_refl _)
  have hz1 : A.o (w1.heap.size + 1) = 0 := r1.own _ (Nat.le_succ _)
  have HGE : Hid (w.heap.size ≤ w1.heap.size + 1) := Nat.le_succ_of_le s1.st.fr.size
  have HZ0 : Hid (A.o w1.heap.size = 0) := hz0
  have HZ1 : Hid (A.o (w1.heap.size + 1) = 0) := hz1
  clear r1 s1 hz0 hz1
  obtain ⟨bt, bn, bs⟩ := b
  have F0 : Fr (fun _ => False) w1 ((w1.alloc (.cells #[.int .i64 bt, .int .u64 bn, sv bs] 68)).alloc (.cells #[.int .i64 0, .int .u64 0, sv []] 68)) := ((Fr.refl _ _).alloc _).alloc _
  have k8 : Has ((w1.alloc (.cells #[.int .i64 bt, .int .u64 bn, sv bs] 68)).alloc (.cells #[.int .i64 0, .int .u64 0, sv []] 68)) w1.heap.size #[.int .i64 bt, .int .u64 bn, sv bs] 68 := ((Has.new w1 #[.int .i64 bt, .int .u64 bn, sv bs] 68).alloc _).fr (Fr.refl (fun _ => False) _) (fun x => x)
  have k9 : Has ((w1.alloc (.cells #[.int .i64 bt, .int .u64 bn, sv bs] 68)).alloc (.cells #[.int .i64 0, .int .u64 0, sv []] 68)) (w1.heap.size + 1) #[.int .i64 0, .int .u64 0, sv []] 68 := (Has.newC (w1.alloc (.cells #[.int .i64 bt, .int .u64 bn, sv bs] 68)) #[.int .i64 0, .int .u64 0, sv []] 68 (by simp)).fr (Fr.refl (fun _ => False) _) (fun x => x)
  have R0 := HR1.out.fresh F0
  have POP2 := vpop_any (v := a) (r := r) R0 (setTh_get HI.out) rfl (by omega)
  have HS0 : Hid (VSt isVM w A ((w1.alloc (.cells #[.int .i64 bt, .int .u64 bn, sv bs] 68)).alloc (.cells #[.int .i64 0, .int .u64 0, sv []] 68)) A) := HS1.out.trans (VSt.fresh F0)
  have HK8 : Hid (Has ((w1.alloc (.cells #[.int .i64 bt, .int .u64 bn, sv bs] 68)).alloc (.cells #[.int .i64 0, .int .u64 0, sv []] 68)) w1.heap.size #[.int .i64 bt, .int .u64 bn, sv bs] 68) := k8
  have HK9 : Hid (Has ((w1.alloc (.cells #[.int .i64 bt, .int .u64 bn, sv bs] 68)).alloc (.cells #[.int .i64 0, .int .u64 0, sv []] 68)) (w1.heap.size + 1) #[.int .i64 0, .int .u64 0, sv []] 68) := k9
  clear F0 k8 k9 R0
  go_wp2_with fail
  refine POP2.mono ?_
  clear POP2
  rintro e' w2 ⟨rfl, r2, s2⟩
  rw [setTh_setTh] at r2
  have HR2 : Hid (VRep w2 A (m.setTh i { t with stack := r }) f e) := r2
  have HS2 : Hid (VSt isVM w A w2 A) := HS0.out.trans (s2.weaken (fun k hk => by unfold isVM; unfold isT at hk; omega))
  have HK82 : Hid (Has w2 w1.heap.size #[.int .i64 bt, .int .u64 bn, sv bs] 68) := s2.st.has HK8.out (by rw [HZ0.out]; unfold isT; omega)
  have HK92 : Hid (Has w2 (w1.heap.size + 1) #[.int .i64 0, .int .u64 0, sv []] 68) := s2.st.has HK9.out (by rw [HZ1.out]; unfold isT; omega)
  clear r2 s2 HK8 HK9
  obtain ⟨at', an, as'⟩ := a
  dsimp only at hwa hna hwb hnb
  have q8 := HK82.out.cell 0
  have q81 := HK82.out.cell 1
  have q82 := HK82.out.cell 2
  simp only [List.getElem?_toArray, List.getElem?_cons_succ, List.getElem?_cons_zero] at q8 q81 q82
  have q8l := HK82.out.lt
  by_cases hbad : (at' ≠ 3 ∧ at' ≠ 2) ∨ (bt ≠ 3 ∧ bt ≠ 2)
  · have HBAD : Hid ((at' ≠ 3 ∧ at' ≠ 2) ∨ (bt ≠ 3 ∧ bt ≠ 2)) := hbad
    by_cases haa : at' ≠ 3 ∧ at' ≠ 2
    · have e1 : (at' != 3) = true := by simpa using haa.1
      have e2 : (at' != 2) = true := by simpa using haa.2
      clear haa hbad
      go_wp2_with fail
      refine (raise_any mConcat).mono ?_
      rintro e' wz ⟨⟨bx, rfl, x2, x3⟩, x4⟩
      refine ⟨rfl, ?_⟩
      rw [← HQ.out, HOP.out, if_pos HBAD.out]
      refine ⟨⟨bx, rfl, x2, ?_⟩, A, HR2.out.zero (((Stp.refl _ _ _).alloc _).trans (Stp.fresh _ _ x4)), VSt.mk ((HS2.out.st.alloc _).trans (Stp.fresh _ _ x4)) rfl rfl rfl rfl rfl⟩
      exact Nat.le_trans (Stp.fr ((HS2.out.st.alloc _))).size x3
    · have hbb : bt ≠ 3 ∧ bt ≠ 2 := by rcases hbad with x | x; exact absurd x haa; exact x
      have e3 : (bt != 3) = true := by simpa using hbb.1
      have e4 : (bt != 2) = true := by simpa using hbb.2
      by_cases h3 : at' = 3
      · subst h3
        clear haa hbad hbb
        go_wp2_with fail
        refine (raise_any mConcat).mono ?_
        rintro e' wz ⟨⟨bx, rfl, x2, x3⟩, x4⟩
        refine ⟨rfl, ?_⟩
        rw [← HQ.out, HOP.out, if_pos HBAD.out]
        refine ⟨⟨bx, rfl, x2, ?_⟩, A, HR2.out.zero (((Stp.refl _ _ _).alloc _).trans (Stp.fresh _ _ x4)), VSt.mk ((HS2.out.st.alloc _).trans (Stp.fresh _ _ x4)) rfl rfl rfl rfl rfl⟩
        exact Nat.le_trans (Stp.fr ((HS2.out.st.alloc _))).size x3
      · have h2 : at' = 2 := Decidable.byContradiction fun x => haa ⟨h3, x⟩
        subst h2
        clear haa hbad hbb h3
        go_wp2_with fail
        refine (raise_any mConcat).mono ?_
        rintro e' wz ⟨⟨bx, rfl, x2, x3⟩, x4⟩
        refine ⟨rfl, ?_⟩
        rw [← HQ.out, HOP.out, if_pos HBAD.out]
        refine ⟨⟨bx, rfl, x2, ?_⟩, A, HR2.out.zero (((Stp.refl _ _ _).alloc _).trans (Stp.fresh _ _ x4)), VSt.mk ((HS2.out.st.alloc _).trans (Stp.fresh _ _ x4)) rfl rfl rfl rfl rfl⟩
        exact Nat.le_trans (Stp.fr ((HS2.out.st.alloc _))).size x3
  · have HBAD : Hid (¬ ((at' ≠ 3 ∧ at' ≠ 2) ∨ (bt ≠ 3 ∧ bt ≠ 2))) := hbad
    have ha : at' = 3 ∨ at' = 2 := by
      refine Decidable.byContradiction fun x => hbad (.inl ⟨fun y => x (.inl y), fun y => x (.inr y)⟩)
    have hb : bt = 3 ∨ bt = 2 := by
      refine Decidable.byContradiction fun x => hbad (.inr ⟨fun y => x (.inl y), fun y => x (.inr y)⟩)
    clear hbad
    have HWB : Hid (wellV ⟨bt, bn, bs⟩ = true) := hwb
    have HWA : Hid (wellV ⟨at', an, as'⟩ = true) := hwa
    clear hwa hwb
    obtain ⟨TA, HTA⟩ : ∃ T : Bs, Hid (textV ⟨at', an, as'⟩ = T) := ⟨_, rfl⟩
    obtain ⟨TB, HTB⟩ : ∃ T : Bs, Hid (textV ⟨bt, bn, bs⟩ = T) := ⟨_, rfl⟩
    rw [HTA.out] at hla HOP
    rw [HTB.out] at hlb HOP
    rw [if_neg HBAD.out] at HOP
    rcases ha with rfl | rfl <;> rcases hb with rfl | rfl
    · go_wp2_with fail
      refine (text_any (HR2.out.fresh ((Fr.refl _ _).alloc _)) ⟨3, an, as'⟩ HWA.out hna).mono ?_
      rintro e' w3 ⟨rfl, r3, s3⟩
      rw [HTA.out]
      have HR3 : Hid (VRep w3 A (m.setTh i { t with stack := r }) f e) := r3
      have HS3 : Hid (VSt isVM w A w3 A) := HS2.out.trans ((VSt.fresh ((Fr.refl _ _).alloc _)).trans s3)
      have nz : ¬ isVM 0 := fun h => h rfl
      have HK83 : Hid (Has w3 w1.heap.size #[.int .i64 3, .int .u64 bn, sv bs] 68) := s3.st.has (HK82.out.alloc _) (by rw [HZ0.out]; exact nz)
      have HK93 : Hid (Has w3 (w1.heap.size + 1) #[.int .i64 0, .int .u64 0, sv []] 68) := s3.st.has (HK92.out.alloc _) (by rw [HZ1.out]; exact nz)
      have p0 := HK83.out.cell 0
      have p1 := HK83.out.cell 1
      have p2 := HK83.out.cell 2
      simp only [List.getElem?_toArray, List.getElem?_cons_succ, List.getElem?_cons_zero] at p0 p1 p2
      have pl := HK83.out.lt
      clear r3 s3
      go_wp2_with fail
      refine (text_any HR3.out ⟨3, bn, bs⟩ HWB.out hnb).mono ?_
      rintro e' w4 ⟨rfl, r4, s4⟩
      rw [HTB.out]
      have HR4 : Hid (VRep w4 A (m.setTh i { t with stack := r }) f e) := r4
      have HS4 : Hid (VSt isVM w A w4 A) := HS3.out.trans s4
      have k9 : Has w4 (w1.heap.size + 1) #[.int .i64 0, .int .u64 0, sv []] 68 := s4.st.has HK93.out (by rw [HZ1.out]; exact nz)
      have d0 := k9.cell 0
      have d1 := k9.cell 1
      have d2 := k9.cell 2
      simp only [List.getElem?_toArray, List.getElem?_cons_succ, List.getElem?_cons_zero] at d0 d1 d2
      have dl := k9.lt
      have dz0 := k9.frozen 0
      have dz1 := k9.frozen 1
      have dz2 := k9.frozen 2
      clear r4 s4 k9
      have hlen : ((TA.length + TB.length : Nat) : Int) = (TA.length : Int) + (TB.length : Int) := by omega
      by_cases h40 : TA.length + TB.length > 40
      · have g40 : (40 : Int) < (TA.length : Int) + (TB.length : Int) := by omega
        clear hlen
        go_wp2_with fail
        refine (raise_any mLong).mono ?_
        rintro e' wz ⟨⟨bx, rfl, x2, x3⟩, x4⟩
        refine ⟨rfl, ?_⟩
        rw [← HQ.out, HOP.out, if_pos h40]
        refine ⟨⟨bx, rfl, x2, ?_⟩, A, HR4.out.zero ((Stp.refl _ _ _).trans (Stp.fresh _ _ x4)), VSt.mk (HS4.out.st.trans (Stp.fresh _ _ x4)) rfl rfl rfl rfl rfl⟩
        exact Nat.le_trans (Stp.fr (HS4.out.st)).size x3
      · have g40 : ¬ (40 : Int) < (TA.length : Int) + (TB.length : Int) := by omega
        have HZ : Hid (Stp (fun l => l = 0) w4 A.o w4 A.o) := Stp.refl _ _ _
        have HZV : Hid (Stp isVM w A.o w4 A.o) := HS4.out.st
        have hcat : (⟨TA.toArray⟩ : ByteArray) ++ ⟨TB.toArray⟩ = ⟨(TA ++ TB).toArray⟩ := sv_app TA TB
        clear hlen
        go_wp2_with fail
        refine (vpush_fk (HR4.out.zero (((((HZ.out.setCell (p := ⟨w1.heap.size + 1, 0, none⟩) HZ1.out _).setCell (p := ⟨w1.heap.size + 1, 1, none⟩) HZ1.out _).setCell (p := ⟨w1.heap.size + 1, 2, none⟩) HZ1.out _)).alloc _)) (setTh_get HI.out) [strV (TA ++ TB)] (by simp) (by dsimp only; simp; omega) (Has.newC _ _ _ (by simp))).mono ?_
        rintro e' wz ⟨rfl, A', z1, z2, z3⟩
        have FIN : Hid (Q (.returned (.tuple #[])) wz) := by
          rw [← HQ.out, HOP.out, if_neg h40]
          rw [setTh_setTh] at z1
          refine ⟨rfl, A', ?_, ?_, z3⟩
          · exact z1
          · exact (VSt.mk ((((HZV.out.own (p := ⟨w1.heap.size + 1, 0, none⟩) HGE.out _).own (p := ⟨w1.heap.size + 1, 1, none⟩) HGE.out _).own (p := ⟨w1.heap.size + 1, 2, none⟩) HGE.out _).alloc _) rfl rfl rfl rfl rfl).trans (z2.weaken (fun k hk => by unfold isVM; unfold isT at hk; omega))
        clear z1 z2 z3
        go_wp2_with fail
        go_end0
        exact FIN.out
    · go_wp2_with fail
      refine (text_any (HR2.out.fresh ((Fr.refl _ _).alloc _)) ⟨3, an, as'⟩ HWA.out hna).mono ?_
      rintro e' w3 ⟨rfl, r3, s3⟩
      rw [HTA.out]
      have HR3 : Hid (VRep w3 A (m.setTh i { t with stack := r }) f e) := r3
      have HS3 : Hid (VSt isVM w A w3 A) := HS2.out.trans ((VSt.fresh ((Fr.refl _ _).alloc _)).trans s3)
      have nz : ¬ isVM 0 := fun h => h rfl
      have HK83 : Hid (Has w3 w1.heap.size #[.int .i64 2, .int .u64 bn, sv bs] 68) := s3.st.has (HK82.out.alloc _) (by rw [HZ0.out]; exact nz)
      have HK93 : Hid (Has w3 (w1.heap.size + 1) #[.int .i64 0, .int .u64 0, sv []] 68) := s3.st.has (HK92.out.alloc _) (by rw [HZ1.out]; exact nz)
      have p0 := HK83.out.cell 0
      have p1 := HK83.out.cell 1
      have p2 := HK83.out.cell 2
      simp only [List.getElem?_toArray, List.getElem?_cons_succ, List.getElem?_cons_zero] at p0 p1 p2
      have pl := HK83.out.lt
      clear r3 s3
      go_wp2_with fail
      refine (text_any HR3.out ⟨2, bn, bs⟩ HWB.out hnb).mono ?_
      rintro e' w4 ⟨rfl, r4, s4⟩
      rw [HTB.out]
      have HR4 : Hid (VRep w4 A (m.setTh i { t with stack := r }) f e) := r4
      have HS4 : Hid (VSt isVM w A w4 A) := HS3.out.trans s4
      have k9 : Has w4 (w1.heap.size + 1) #[.int .i64 0, .int .u64 0, sv []] 68 := s4.st.has HK93.out (by rw [HZ1.out]; exact nz)
      have d0 := k9.cell 0
      have d1 := k9.cell 1
      have d2 := k9.cell 2
      simp only [List.getElem?_toArray, List.getElem?_cons_succ, List.getElem?_cons_zero] at d0 d1 d2
      have dl := k9.lt
      have dz0 := k9.frozen 0
      have dz1 := k9.frozen 1
      have dz2 := k9.frozen 2
      clear r4 s4 k9
      have hlen : ((TA.length + TB.length : Nat) : Int) = (TA.length : Int) + (TB.length : Int) := by omega
      by_cases h40 : TA.length + TB.length > 40
      · have g40 : (40 : Int) < (TA.length : Int) + (TB.length : Int) := by omega
        clear hlen
        go_wp2_with fail
        refine (raise_any mLong).mono ?_
        rintro e' wz ⟨⟨bx, rfl, x2, x3⟩, x4⟩
        refine ⟨rfl, ?_⟩
        rw [← HQ.out, HOP.out, if_pos h40]
        refine ⟨⟨bx, rfl, x2, ?_⟩, A, HR4.out.zero ((Stp.refl _ _ _).trans (Stp.fresh _ _ x4)), VSt.mk (HS4.out.st.trans (Stp.fresh _ _ x4)) rfl rfl rfl rfl rfl⟩
        exact Nat.le_trans (Stp.fr (HS4.out.st)).size x3
      · have g40 : ¬ (40 : Int) < (TA.length : Int) + (TB.length : Int) := by omega
        have HZ : Hid (Stp (fun l => l = 0) w4 A.o w4 A.o) := Stp.refl _ _ _
        have HZV : Hid (Stp isVM w A.o w4 A.o) := HS4.out.st
        have hcat : (⟨TA.toArray⟩ : ByteArray) ++ ⟨TB.toArray⟩ = ⟨(TA ++ TB).toArray⟩ := sv_app TA TB
        clear hlen
        go_wp2_with fail
        refine (vpush_fk (HR4.out.zero (((((HZ.out.setCell (p := ⟨w1.heap.size + 1, 0, none⟩) HZ1.out _).setCell (p := ⟨w1.heap.size + 1, 1, none⟩) HZ1.out _).setCell (p := ⟨w1.heap.size + 1, 2, none⟩) HZ1.out _)).alloc _)) (setTh_get HI.out) [strV (TA ++ TB)] (by simp) (by dsimp only; simp; omega) (Has.newC _ _ _ (by simp))).mono ?_
        rintro e' wz ⟨rfl, A', z1, z2, z3⟩
        have FIN : Hid (Q (.returned (.tuple #[])) wz) := by
          rw [← HQ.out, HOP.out, if_neg h40]
          rw [setTh_setTh] at z1
          refine ⟨rfl, A', ?_, ?_, z3⟩
          · exact z1
          · exact (VSt.mk ((((HZV.out.own (p := ⟨w1.heap.size + 1, 0, none⟩) HGE.out _).own (p := ⟨w1.heap.size + 1, 1, none⟩) HGE.out _).own (p := ⟨w1.heap.size + 1, 2, none⟩) HGE.out _).alloc _) rfl rfl rfl rfl rfl).trans (z2.weaken (fun k hk => by unfold isVM; unfold isT at hk; omega))
        clear z1 z2 z3
        go_wp2_with fail
        go_end0
        exact FIN.out
    · go_wp2_with fail
      refine (text_any (HR2.out.fresh ((Fr.refl _ _).alloc _)) ⟨2, an, as'⟩ HWA.out hna).mono ?_
      rintro e' w3 ⟨rfl, r3, s3⟩
      rw [HTA.out]
      have HR3 : Hid (VRep w3 A (m.setTh i { t with stack := r }) f e) := r3
      have HS3 : Hid (VSt isVM w A w3 A) := HS2.out.trans ((VSt.fresh ((Fr.refl _ _).alloc _)).trans s3)
      have nz : ¬ isVM 0 := fun h => h rfl
      have HK83 : Hid (Has w3 w1.heap.size #[.int .i64 3, .int .u64 bn, sv bs] 68) := s3.st.has (HK82.out.alloc _) (by rw [HZ0.out]; exact nz)
      have HK93 : Hid (Has w3 (w1.heap.size + 1) #[.int .i64 0, .int .u64 0, sv []] 68) := s3.st.has (HK92.out.alloc _) (by rw [HZ1.out]; exact nz)
      have p0 := HK83.out.cell 0
      have p1 := HK83.out.cell 1
      have p2 := HK83.out.cell 2
      simp only [List.getElem?_toArray, List.getElem?_cons_succ, List.getElem?_cons_zero] at p0 p1 p2
      have pl := HK83.out.lt
      clear r3 s3
      go_wp2_with fail
      refine (text_any HR3.out ⟨3, bn, bs⟩ HWB.out hnb).mono ?_
      rintro e' w4 ⟨rfl, r4, s4⟩
      rw [HTB.out]
      have HR4 : Hid (VRep w4 A (m.setTh i { t with stack := r }) f e) := r4
      have HS4 : Hid (VSt isVM w A w4 A) := HS3.out.trans s4
      have k9 : Has w4 (w1.heap.size + 1) #[.int .i64 0, .int .u64 0, sv []] 68 := s4.st.has HK93.out (by rw [HZ1.out]; exact nz)
      have d0 := k9.cell 0
      have d1 := k9.cell 1
      have d2 := k9.cell 2
      simp only [List.getElem?_toArray, List.getElem?_cons_succ, List.getElem?_cons_zero] at d0 d1 d2
      have dl := k9.lt
      have dz0 := k9.frozen 0
      have dz1 := k9.frozen 1
      have dz2 := k9.frozen 2
      clear r4 s4 k9
      have hlen : ((TA.length + TB.length : Nat) : Int) = (TA.length : Int) + (TB.length : Int) := by omega
      by_cases h40 : TA.length + TB.length > 40
      · have g40 : (40 : Int) < (TA.length : Int) + (TB.length : Int) := by omega
        clear hlen
        go_wp2_with fail
        refine (raise_any mLong).mono ?_
        rintro e' wz ⟨⟨bx, rfl, x2, x3⟩, x4⟩
        refine ⟨rfl, ?_⟩
        rw [← HQ.out, HOP.out, if_pos h40]
        refine ⟨⟨bx, rfl, x2, ?_⟩, A, HR4.out.zero ((Stp.refl _ _ _).trans (Stp.fresh _ _ x4)), VSt.mk (HS4.out.st.trans (Stp.fresh _ _ x4)) rfl rfl rfl rfl rfl⟩
        exact Nat.le_trans (Stp.fr (HS4.out.st)).size x3
      · have g40 : ¬ (40 : Int) < (TA.length : Int) + (TB.length : Int) := by omega
        have HZ : Hid (Stp (fun l => l = 0) w4 A.o w4 A.o) := Stp.refl _ _ _
        have HZV : Hid (Stp isVM w A.o w4 A.o) := HS4.out.st
        have hcat : (⟨TA.toArray⟩ : ByteArray) ++ ⟨TB.toArray⟩ = ⟨(TA ++ TB).toArray⟩ := sv_app TA TB
        clear hlen
        go_wp2_with fail
        refine (vpush_fk (HR4.out.zero (((((HZ.out.setCell (p := ⟨w1.heap.size + 1, 0, none⟩) HZ1.out _).setCell (p := ⟨w1.heap.size + 1, 1, none⟩) HZ1.out _).setCell (p := ⟨w1.heap.size + 1, 2, none⟩) HZ1.out _)).alloc _)) (setTh_get HI.out) [strV (TA ++ TB)] (by simp) (by dsimp only; simp; omega) (Has.newC _ _ _ (by simp))).mono ?_
        rintro e' wz ⟨rfl, A', z1, z2, z3⟩
        have FIN : Hid (Q (.returned (.tuple #[])) wz) := by
          rw [← HQ.out, HOP.out, if_neg h40]
          rw [setTh_setTh] at z1
          refine ⟨rfl, A', ?_, ?_, z3⟩
          · exact z1
          · exact (VSt.mk ((((HZV.out.own (p := ⟨w1.heap.size + 1, 0, none⟩) HGE.out _).own (p := ⟨w1.heap.size + 1, 1, none⟩) HGE.out _).own (p := ⟨w1.heap.size + 1, 2, none⟩) HGE.out _).alloc _) rfl rfl rfl rfl rfl).trans (z2.weaken (fun k hk => by unfold isVM; unfold isT at hk; omega))
        clear z1 z2 z3
        go_wp2_with fail
        go_end0
        exact FIN.out
    · go_wp2_with fail
      refine (text_any (HR2.out.fresh ((Fr.refl _ _).alloc _)) ⟨2, an, as'⟩ HWA.out hna).mono ?_
      rintro e' w3 ⟨rfl, r3, s3⟩
      rw [HTA.out]
      have HR3 : Hid (VRep w3 A (m.setTh i { t with stack := r }) f e) := r3
      have HS3 : Hid (VSt isVM w A w3 A) := HS2.out.trans ((VSt.fresh ((Fr.refl _ _).alloc _)).trans s3)
      have nz : ¬ isVM 0 := fun h => h rfl
      have HK83 : Hid (Has w3 w1.heap.size #[.int .i64 2, .int .u64 bn, sv bs] 68) := s3.st.has (HK82.out.alloc _) (by rw [HZ0.out]; exact nz)
      have HK93 : Hid (Has w3 (w1.heap.size + 1) #[.int .i64 0, .int .u64 0, sv []] 68) := s3.st.has (HK92.out.alloc _) (by rw [HZ1.out]; exact nz)
      have p0 := HK83.out.cell 0
      have p1 := HK83.out.cell 1
      have p2 := HK83.out.cell 2
      simp only [List.getElem?_toArray, List.getElem?_cons_succ, List.getElem?_cons_zero] at p0 p1 p2
      have pl := HK83.out.lt
      clear r3 s3
      go_wp2_with fail
      refine (text_any HR3.out ⟨2, bn, bs⟩ HWB.out hnb).mono ?_
      rintro e' w4 ⟨rfl, r4, s4⟩
      rw [HTB.out]
      have HR4 : Hid (VRep w4 A (m.setTh i { t with stack := r }) f e) := r4
      have HS4 : Hid (VSt isVM w A w4 A) := HS3.out.trans s4
      have k9 : Has w4 (w1.heap.size + 1) #[.int .i64 0, .int .u64 0, sv []] 68 := s4.st.has HK93.out (by rw [HZ1.out]; exact nz)
      have d0 := k9.cell 0
      have d1 := k9.cell 1
      have d2 := k9.cell 2
      simp only [List.getElem?_toArray, List.getElem?_cons_succ, List.getElem?_cons_zero] at d0 d1 d2
      have dl := k9.lt
      have dz0 := k9.frozen 0
      have dz1 := k9.frozen 1
      have dz2 := k9.frozen 2
      clear r4 s4 k9
      have hlen : ((TA.length + TB.length : Nat) : Int) = (TA.length : Int) + (TB.length : Int) := by omega
      by_cases h40 : TA.length + TB.length > 40
      · have g40 : (40 : Int) < (TA.length : Int) + (TB.length : Int) := by omega
        clear hlen
        go_wp2_with fail
        refine (raise_any mLong).mono ?_
        rintro e' wz ⟨⟨bx, rfl, x2, x3⟩, x4⟩
        refine ⟨rfl, ?_⟩
        rw [← HQ.out, HOP.out, if_pos h40]
        refine ⟨⟨bx, rfl, x2, ?_⟩, A, HR4.out.zero ((Stp.refl _ _ _).trans (Stp.fresh _ _ x4)), VSt.mk (HS4.out.st.trans (Stp.fresh _ _ x4)) rfl rfl rfl rfl rfl⟩
        exact Nat.le_trans (Stp.fr (HS4.out.st)).size x3
      · have g40 : ¬ (40 : Int) < (TA.length : Int) + (TB.length : Int) := by omega
        have HZ : Hid (Stp (fun l => l = 0) w4 A.o w4 A.o) := Stp.refl _ _ _
        have HZV : Hid (Stp isVM w A.o w4 A.o) := HS4.out.st
        have hcat : (⟨TA.toArray⟩ : ByteArray) ++ ⟨TB.toArray⟩ = ⟨(TA ++ TB).toArray⟩ := sv_app TA TB
        clear hlen
        go_wp2_with fail
        refine (vpush_fk (HR4.out.zero (((((HZ.out.setCell (p := ⟨w1.heap.size + 1, 0, none⟩) HZ1.out _).setCell (p := ⟨w1.heap.size + 1, 1, none⟩) HZ1.out _).setCell (p := ⟨w1.heap.size + 1, 2, none⟩) HZ1.out _)).alloc _)) (setTh_get HI.out) [strV (TA ++ TB)] (by simp) (by dsimp only; simp; omega) (Has.newC _ _ _ (by simp))).mono ?_
        rintro e' wz ⟨rfl, A', z1, z2, z3⟩
        have FIN : Hid (Q (.returned (.tuple #[])) wz) := by
          rw [← HQ.out, HOP.out, if_neg h40]
          rw [setTh_setTh] at z1
          refine ⟨rfl, A', ?_, ?_, z3⟩
          · exact z1
          · exact (VSt.mk ((((HZV.out.own (p := ⟨w1.heap.size + 1, 0, none⟩) HGE.out _).own (p := ⟨w1.heap.size + 1, 1, none⟩) HGE.out _).own (p := ⟨w1.heap.size + 1, 2, none⟩) HGE.out _).alloc _) rfl rfl rfl rfl rfl).trans (z2.weaken (fun k hk => by unfold isVM; unfold isT at hk; omega))
        clear z1 z2 z3
        go_wp2_with fail
        go_end0
        exact FIN.out
end
end Go.Proofs.Qxb6500574aGreatDoor
