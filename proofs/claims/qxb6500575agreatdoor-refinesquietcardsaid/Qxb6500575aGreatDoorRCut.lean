/-
  THE WALKS of run: cut, jump.
-/
import Derived.Test.Qxb6500575aGreatDoorRTop
import Derived.Laws.CopyOwn
namespace Go.Proofs.Qxb6500575aGreatDoor
open Go Go.RowKit
set_option linter.unusedVariables false
set_option linter.unusedSimpArgs false

section
variable {bx : Nat} {p k : Value} {L : InL} {x : InD} {w : World}
/-- the row of the stack, the top part laid lower -/
theorem InRep.cutRow (h : InRep w bx p k L x) {xs ys zs : List V} (hs : x.st = xs ++ (ys ++ zs)) {g : Nat} (hg : L.sa = some ⟨g, 0, none⟩) :
    ∃ cur : Array Value, w.heap[g]? = some (.cells cur 150 (0, 0)) ∧ zs.length + xs.length ≤ cur.size ∧ bx ≠ g ∧ xs.length + (ys.length + zs.length) ≤ L.sc ∧
      (∀ j v, (xs.reverse.map V.val)[j]? = some v → w.cell? ⟨g, (ys.length + zs.length) + j, none⟩ = some v) ∧
      (∀ n w1, w1 = (w.drewN n).setRow g (cur.toList.take zs.length ++ (xs.reverse.map V.val ++ cur.toList.drop (zs.length + xs.length))).toArray → InRep (w1.setCell ⟨bx, 2, none⟩ (.slice (some ⟨g, 0, none⟩) (zs.length + xs.length : Nat) L.sc)) bx p k L { x with st := xs ++ zs } ∧ InStep w (w1.setCell ⟨bx, 2, none⟩ (.slice (some ⟨g, 0, none⟩) (zs.length + xs.length : Nat) L.sc)) bx L L) ∧
      (∀ n, xs = [] → InRep ((w.drewN n).setCell ⟨bx, 2, none⟩ (.slice (some ⟨g, 0, none⟩) (zs.length + xs.length : Nat) L.sc)) bx p k L { x with st := xs ++ zs } ∧ InStep w ((w.drewN n).setCell ⟨bx, 2, none⟩ (.slice (some ⟨g, 0, none⟩) (zs.length + xs.length : Nat) L.sc)) bx L L) := by
  have hsl : x.st.length = xs.length + (ys.length + zs.length) := by rw [hs]; simp
  have hbg : bx ≠ g := fun e => by
    have ho := h.st
    unfold InL.stV at ho
    rw [hg] at ho
    exact owns_ne ho h.here (by decide) (by rw [e]; rfl)
  have ho := h.st
  unfold InL.stV at ho
  rw [hg] at ho
  have hl := ho.1
  rcases ho.2 with ⟨h1, _⟩ | ⟨g', cap', cur, hv, hb, hcur, hnc, hcm, hcs, htake⟩
  · cases h1
  simp at hv
  obtain ⟨rfl, rfl⟩ := hv
  have hcs' : cur.size = L.sc := by simpa using hcs
  have htk : cur.toList.take x.st.length = x.st.reverse.map V.val := by simpa using htake
  have hfit : zs.length + xs.length ≤ cur.size := by omega
  have hx2 : (x.st.reverse.map V.val) = zs.reverse.map V.val ++ (ys.reverse.map V.val ++ xs.reverse.map V.val) := by rw [hs]; simp
  have hzs : cur.toList.take zs.length = zs.reverse.map V.val := by
    have := congrArg (List.take zs.length) htk
    rw [List.take_take, Nat.min_eq_left (by omega), hx2, List.take_append_of_le_length (by simp)] at this
    rw [this, List.take_of_length_le (by simp)]
  have KEY : ∀ n w1, w1 = (w.drewN n).setRow g (cur.toList.take zs.length ++ (xs.reverse.map V.val ++ cur.toList.drop (zs.length + xs.length))).toArray → InRep (w1.setCell ⟨bx, 2, none⟩ (.slice (some ⟨g, 0, none⟩) (zs.length + xs.length : Nat) L.sc)) bx p k L { x with st := xs ++ zs } ∧ InStep w (w1.setCell ⟨bx, 2, none⟩ (.slice (some ⟨g, 0, none⟩) (zs.length + xs.length : Nat) L.sc)) bx L L := by
    rintro n w1 rfl
    have h' := h.drewN n
    have hcur' : (w.drewN n).heap[g]? = some (.cells cur 150 (0, 0)) := hcur
    have hF : Fr (fun j => j = g) (w.drewN n) ((w.drewN n).setRow g (cur.toList.take zs.length ++ (xs.reverse.map V.val ++ cur.toList.drop (zs.length + xs.length))).toArray) :=
      ⟨rfl, rfl, rfl, by simp [World.setRow], fun j _ hj => setRow_other _ g j _ hj⟩
    have hnew : ((w.drewN n).setRow g (cur.toList.take zs.length ++ (xs.reverse.map V.val ++ cur.toList.drop (zs.length + xs.length))).toArray).ownsRow 0 150 1 (.slice (some ⟨g, 0, none⟩) (zs.length + xs.length : Nat) L.sc) (zs.length + xs.length) ((xs ++ zs).reverse.map V.val) := by
      refine ⟨by simp [Nat.add_comm], .inr ⟨g, L.sc, _, rfl, hb, setRow_heap _ g cur _ _ _ hcur', by omega, hcm, ?_, ?_⟩⟩
      · simp
        omega
      · have e7 : (xs ++ zs).reverse.map V.val = zs.reverse.map V.val ++ xs.reverse.map V.val := by simp
        rw [e7, hzs]
        show List.take _ (zs.reverse.map V.val ++ (xs.reverse.map V.val ++ cur.toList.drop (zs.length + xs.length))) = _
        rw [← List.append_assoc]
        exact List.take_left' (by simp)
    have hne : (Value.slice (some ⟨g, 0, none⟩) (zs.length + xs.length : Nat) L.sc).ownBlock ≠ some bx := fun e => hbg (by simp [Value.ownBlock] at e; exact e.symm)
    have hF2 := Fr.setCell (S := fun k => (L.stV x).ownBlock = some k ∨ k = bx) (hF.weaken (S' := fun k => (L.stV x).ownBlock = some k ∨ k = bx) (fun j _ hj => .inl (by rw [InL.stV, hg, hj]; rfl))) (p := ⟨bx, 2, none⟩) (.inl (.inr rfl)) (.slice (some ⟨g, 0, none⟩) (zs.length + xs.length : Nat) L.sc)
    have hH : Has ((w.drewN n).setRow g (cur.toList.take zs.length ++ (xs.reverse.map V.val ++ cur.toList.drop (zs.length + xs.length))).toArray) bx _ _ := h'.here.fr hF (fun e => hbg e)
    have e9 : (xs ++ zs).length = zs.length + xs.length := by simp; omega
    have := h'.putSt (xs ++ zs) (sa2 := some ⟨g, 0, none⟩) (sc2 := L.sc) hF2 (by rw [e9]; exact hH.put 2 _) (by rw [e9]; exact owns_other hnew hne _) (fun g' hg' => .inl (by rw [InL.stV, hg]; exact hg'))
    have hL : { L with sa := some ⟨g, 0, none⟩, sc := L.sc } = L := by cases L; simp at hg; simp [hg]
    rw [hL] at this
    exact ⟨this.1, (((InStep.refl w bx L).drewN n)).trans this.2⟩
  refine ⟨cur, hcur, hfit, hbg, by omega, fun j v hj => ?_, KEY, ?_⟩
  · have hjl : j < xs.length := by simpa using (List.getElem?_eq_some_iff.1 hj).1
    have : cur.toList[ys.length + zs.length + j]? = some v := by
      have e1 : (cur.toList.take x.st.length)[ys.length + zs.length + j]? = cur.toList[ys.length + zs.length + j]? := by
        rw [List.getElem?_take, if_pos (by omega)]
      rw [← e1, htk, hx2, List.getElem?_append_right (by simp; omega), List.getElem?_append_right (by simp; omega), ← hj]
      congr 1
      simp; omega
    simpa [World.cell?, hcur] using this
  · intro n he
    refine KEY n _ ?_
    subst he
    have : (cur.toList.take zs.length ++ (([] : List V).reverse.map V.val ++ cur.toList.drop (zs.length + ([] : List V).length))).toArray = cur := by simp
    rw [this]
    exact (setRow_self (w.drewN n) g cur _ _ hcur).symm
theorem need_dec {q : Prop} [Decidable q] (hq : q) (e : Value) (w : World) : Calls Tryz.prog 93 #[.bool (decide q), e] w fun r w' => r = .returned (.tuple #[]) ∧ w' = w := by
  have : decide q = true := by simpa using hq
  rw [this]
  clear this
  go_enter Tryz.func93, Tryz.ntmps93
  go_wp2
  go_end0
  exact ⟨rfl, rfl⟩
theorem need_ok (e : Value) (w : World) : Calls Tryz.prog 93 #[.bool true, e] w fun r w' => r = .returned (.tuple #[]) ∧ w' = w := by
  go_enter Tryz.func93, Tryz.ntmps93
  go_wp2
  go_end0
  exact ⟨rfl, rfl⟩
set_option maxRecDepth 100000
set_option maxHeartbeats 400000
theorem rcut_any (h : InRep w bx p k L x) {xs ys zs : List V} (hs : x.st = xs ++ (ys ++ zs)) (hl : x.st.length ≤ 1000) :
    Calls Tryz.prog 129 #[.pointer (some ⟨bx, 0, none⟩), .int .i64 zs.length, .int .i64 xs.length] w fun e w' => e = .returned (.tuple #[]) ∧ InRep w' bx p k L { x with st := xs ++ zs } ∧ InStep w w' bx L L := by
  have hsl : x.st.length = xs.length + (ys.length + zs.length) := by rw [hs]; simp
  have c2 := h.here.cell 2
  have f2 := h.here.frozen 2
  have hblt := h.here.lt
  simp at c2
  rcases owns_form h.st with ⟨n1, n2, n3⟩ | ⟨gs, n1, n2⟩
  · have hx : xs = [] := List.eq_nil_of_length_eq_zero (by omega)
    have hz : zs = [] := List.eq_nil_of_length_eq_zero (by omega)
    have hst : x.st = [] := List.eq_nil_of_length_eq_zero (by omega)
    subst hx; subst hz
    have FIN : Hid (∀ n, InRep ((w.drewN n).setCell ⟨bx, 2, none⟩ (.slice none 0 0)) bx p k L { x with st := [] ++ [] } ∧ InStep w ((w.drewN n).setCell ⟨bx, 2, none⟩ (.slice none 0 0)) bx L L) := by
      intro n
      have h' := h.drewN n
      have := h'.putHead 2 (.slice none 0 0) (x' := { x with st := [] ++ [] }) (by simp [hst]) rfl (by simp [hst, n1, n3])
      exact ⟨this.1, (((InStep.refl w bx L).drewN n)).trans this.2⟩
    rw [n1, n2, n3] at c2
    clear h hs hsl n1 n2 n3 hst
    have hcp : ∀ dp dl dc sp sc w, (Builtin.copy_ #[59, 59] 3 #[Value.slice dp dl dc, Value.slice sp 0 sc]).run Tryz.prog w = .ok (goInt 0) w := fun dp dl dc sp sc w => run_copy_none w _ _ _ 150 dp sp dl dc 0 sc (by kernel_rfl) (by kernel_rfl) (by simp)
    simp only [List.length_nil]
    go_enter Tryz.func129, Tryz.ntmps129
    go_wp2_with fail
    refine (need_ok _ _).mono ?_
    rintro e w1 ⟨rfl, rfl⟩
    go_wp2
    refine wp_region_tail 18 (by kernel_rfl) (by kernel_rfl) (fun _ _ _ _ _ h => h) ?_
    simp only [List.take_succ_cons, List.take_zero, List.drop_succ_cons, List.drop_zero]
    repeat go_big_quiet_step (fail)
    refine wpQuiet_nil ?_
    go_wp2
    go_end0
    exact ⟨rfl, FIN.out _⟩
  · obtain ⟨cur, hcur, hfit, hbg, hcap, hcell, fin1, fin2⟩ := h.cutRow hs n1
    have FIN1 : Hid (∀ n w1, _) := fin1
    have FIN2 : Hid (∀ n, _) := fin2
    rw [n1, hsl] at c2
    clear fin1 fin2 h n1 n2
    by_cases hx : xs = []
    · subst hx
      have hcp : ∀ dp dl dc sp sc w, (Builtin.copy_ #[59, 59] 3 #[Value.slice dp dl dc, Value.slice sp 0 sc]).run Tryz.prog w = .ok (goInt 0) w := fun dp dl dc sp sc w => run_copy_none w _ _ _ 150 dp sp dl dc 0 sc (by kernel_rfl) (by kernel_rfl) (by simp)
      have FIN3 : Hid (∀ n sc, sc = L.sc → InRep ((w.drewN n).setCell ⟨bx, 2, none⟩ (.slice (some ⟨gs, 0, none⟩) zs.length sc)) bx p k L { x with st := zs } ∧ InStep w ((w.drewN n).setCell ⟨bx, 2, none⟩ (.slice (some ⟨gs, 0, none⟩) zs.length sc)) bx L L) := by
        rintro n sc rfl
        have := FIN2.out n rfl
        simpa using this
      clear hcell hcur FIN1 FIN2
      simp only [List.length_nil, Nat.zero_add, Nat.add_zero] at c2 hcap hfit hsl ⊢
      have hb1 : ys.length + zs.length ≤ 1000 := by omega
      clear hs hsl hl
      go_enter Tryz.func129, Tryz.ntmps129
      go_wp2_with fail
      refine (need_dec (by omega) _ _).mono ?_
      rintro e w1 ⟨rfl, rfl⟩
      go_wp2
      refine wp_region_tail 18 (by kernel_rfl) (by kernel_rfl) (fun _ _ _ _ _ h => h) ?_
      simp only [List.take_succ_cons, List.take_zero, List.drop_succ_cons, List.drop_zero]
      repeat go_big_quiet_step (fail)
      refine wpQuiet_nil ?_
      simp only [Nat.sub_self]
      go_wp2
      all_goals
        go_end0
        exact ⟨rfl, FIN3.out _ _ (by omega)⟩
    · have hx0 : 0 < xs.length := List.length_pos_iff.2 hx
      have hb1 : xs.length + (ys.length + zs.length) ≤ 1000 := by omega
      have q1 : ¬ L.sc = zs.length := by omega
      have q2 : ¬ L.sc = ys.length + zs.length := by omega
      have e1 : xs.length + (ys.length + zs.length) - xs.length = ys.length + zs.length := by omega
      have e2 : xs.length + (ys.length + zs.length) - (ys.length + zs.length) = xs.length := by omega
      have e3 : xs.length + (ys.length + zs.length) - zs.length = xs.length + ys.length := by omega
      obtain ⟨W, HW0⟩ : ∃ W, W = w.drew.setRow gs (cur.toList.take zs.length ++ (xs.reverse.map V.val ++ cur.toList.drop (zs.length + xs.length))).toArray := ⟨_, rfl⟩
      have hrun : (Builtin.copy_ #[59, 59] 3 #[.slice (some ⟨gs, zs.length, none⟩) (xs.length + ys.length) (L.sc - zs.length), .slice (some ⟨gs, ys.length + zs.length, none⟩) xs.length (L.sc - (ys.length + zs.length))]).run Tryz.prog w.drew = .ok (goInt xs.length) W := by
        have := run_copy_row (P := Tryz.prog) w.drew 59 59 3 150 gs zs.length (xs.length + ys.length) (L.sc - zs.length) ⟨gs, ys.length + zs.length, none⟩ xs.length (L.sc - (ys.length + zs.length)) cur 150 (xs.reverse.map V.val) (by kernel_rfl) (by kernel_rfl) hcur (by simp [Nat.min_def]) (fun j v hj => by
            have hadd : (⟨gs, ys.length + zs.length, none⟩ : Addr).add j = ⟨gs, ys.length + zs.length + j, none⟩ := by unfold Addr.add; split <;> simp_all
            rw [hadd]
            exact hcell j v hj) (by simpa using hfit) (fun v hv => by
            simp only [List.mem_map] at hv
            obtain ⟨u, _, rfl⟩ := hv
            exact u.oneCell)
        rw [this, HW0]
        simp
      have FW : Fr (fun j => j = gs) w W := by
        rw [HW0]
        exact ⟨rfl, rfl, rfl, by simp [World.setRow], fun j _ hj => setRow_other _ gs j _ hj⟩
      have HH := FIN1.out 1 W HW0
      have FIN : Hid (_ ∧ _) := HH
      have hbw := FW.block bx
      have cW : W.cell? ⟨bx, 2, none⟩ = some (.slice (some ⟨gs, 0, none⟩) (xs.length + (ys.length + zs.length)) L.sc) := by rw [← c2]; exact World.cell?_of_block (hbw hblt hbg)
      have fW : W.frozen? ⟨bx, 2, none⟩ = false := by rw [← f2]; exact World.frozen?_of_block (hbw hblt hbg)
      clear hs hsl hl HW0 HH FW hbw hcell hcur FIN1 FIN2
      go_enter Tryz.func129, Tryz.ntmps129
      go_wp2_with fail
      refine (need_dec (by omega) _ _).mono ?_
      rintro e w1 ⟨rfl, rfl⟩
      go_wp2
      refine wp_region_tail 18 (by kernel_rfl) (by kernel_rfl) (fun _ _ _ _ _ h => h) ?_
      simp only [List.take_succ_cons, List.take_zero, List.drop_succ_cons, List.drop_zero]
      repeat go_big_quiet_step (fail)
      refine wpQuiet_nil ?_
      simp only [e1, e2, e3]
      go_wp2
      go_end0
      exact ⟨rfl, FIN.out⟩
end
end Go.Proofs.Qxb6500575aGreatDoor
