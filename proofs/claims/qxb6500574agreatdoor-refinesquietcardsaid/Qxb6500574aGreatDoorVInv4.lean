/-
  moon: the invariant through an instruction. Plain; no memory, no walk.
-/
import Derived.Test.Qxb6500574aGreatDoorVInv3
namespace Go.Proofs.Qxb6500574aGreatDoor
set_option linter.unusedVariables false
set_option linter.unusedSimpArgs false

/-- thread i runs, and its top frame is f -/
structure At (K : Cx) (m : VMD) (i : Nat) (t : ThD) (f : FmD) : Prop where
  vi : VI K m
  up : UpL m
  hi : m.ths[i]? = some t
  st : t.st = 4
  hf : t.frames[t.frames.length - 1]? = some f
section
variable {K K' : Cx} {m m' : VMD} {i : Nat} {t t1 : ThD} {f : FmD}
theorem At.il (h : At K m i t f) : i < m.ths.length := (List.getElem?_eq_some_iff.1 h.hi).1
theorem At.cur (h : At K m i t f) : Cur K K m m i t t := Cur.refl h.vi h.up h.hi
theorem At.ok (h : At K m i t f) : ThOk K m.cells i t := h.vi.th i t h.hi
theorem At.mem (h : At K m i t f) : f ∈ t.frames := List.mem_of_getElem? h.hf
theorem At.clo (h : At K m i t f) : f.clo < K.nc := (h.ok.fr.each _ f h.hf).1
theorem At.topF (h : At K m i t f) : topF m i = f := by
  unfold Go.Proofs.Qxb6500574aGreatDoor.topF
  rw [th_get h.hi, List.getD_eq_getElem?_getD, h.hf]
  rfl
theorem At.ns (h : At K m i t f) : (m.proto f.clo).ns = K.ns f.clo := h.vi.kn _ h.clo
theorem At.ne (h : At K m i t f) : t.frames ≠ [] := fun e => by have := h.hf; rw [e] at this; simp at this
theorem At.top (h : At K m i t f) : f.base + K.ns f.clo ≤ t.stack.length := h.ok.fr.top f h.hf
theorem take_len {xs : List Vl} {k : Nat} (h : k ≤ xs.length) : (xs.take (xs.length - k)).length + k = xs.length := by rw [List.length_take]; omega
theorem oper_ok (h : At K m i t f) {op x : Nat} (ho : 15 ≤ op ∧ op ≤ 20) (hn : f.base + K.ns f.clo + (need op).toNat ≤ t.stack.length) : PlOk K m i t (grow op) (operP m i op x) := by
  have C := h.cur
  have v0 := topV_ok h.vi h.hi 0
  have v1 := topV_ok h.vi h.hi 1
  unfold operP
  dsimp only
  by_cases e15 : op = 15
  · subst e15
    have hn2 : f.base + K.ns f.clo + 2 ≤ t.stack.length := hn
    simp only [if_true]
    have := take_len (xs := t.stack) (k := 2) (by omega)
    split
    · exact PlOk.thr (C.po h.il h.hf hn2) (by decide)
    · exact PlOk.ok (C.pp h.il h.hf hn2 (arith_ok _ _ _).val) (by simp [grow]; omega)
  by_cases e16 : op = 16
  · subst e16
    have hn2 : f.base + K.ns f.clo + 2 ≤ t.stack.length := hn
    simp only [if_true, show (16 : Nat) ≠ 15 by decide, if_false]
    have := take_len (xs := t.stack) (k := 2) (by omega)
    split
    · exact PlOk.thr (C.po h.il h.hf hn2) (by decide)
    · exact PlOk.ok (C.pp h.il h.hf hn2 (VOk.bool _ _)) (by simp [grow]; omega)
  by_cases e17 : op = 17
  · subst e17
    have hn2 : f.base + K.ns f.clo + 2 ≤ t.stack.length := hn
    simp only [if_true, show (17 : Nat) ≠ 15 by decide, show (17 : Nat) ≠ 16 by decide, if_false]
    have := take_len (xs := t.stack) (k := 2) (by omega)
    split
    · exact PlOk.thr (C.po h.il h.hf hn2) (by decide)
    · split
      · exact PlOk.thr (C.po h.il h.hf hn2) (by decide)
      · rename_i hlen
        exact PlOk.ok (C.pp h.il h.hf hn2 (VOk.str _ (by rw [List.length_append]; omega))) (by simp [grow]; omega)
  have hn1 : f.base + K.ns f.clo + 1 ≤ t.stack.length := by
    have : op = 18 ∨ op = 19 ∨ op = 20 := by omega
    rcases this with rfl | rfl | rfl <;> exact hn
  have hg : grow op = 0 := by
    have : op = 18 ∨ op = 19 ∨ op = 20 := by omega
    rcases this with rfl | rfl | rfl <;> rfl
  rw [hg, if_neg e15, if_neg e16, if_neg e17]
  have := take_len (xs := t.stack) (k := 1) (by omega)
  have fin : ∀ {v : Vl}, VOk K v → PlOk K m i t 0 (.inr (), push (pops m i 1) i [v]) := fun hv => PlOk.ok (C.pp h.il h.hf hn1 hv) (by simp; omega)
  split
  · exact fin (VOk.bool _ _)
  · split
    · split
      · exact PlOk.thr (C.po h.il h.hf hn1) (by decide)
      · exact fin (neg_ok v0.b).val
    · split
      · split
        · exact fin (fromInt_num _).val
        · split
          · exact PlOk.thr (C.po h.il h.hf hn1) (by decide)
          · exact fin (fromInt_num _).val
      · omega
theorem for_ok (h : At K m i t f) {op x : Nat} (ho : op = 30 ∨ op = 31 ∨ op = 32) (hx : x + 3 < K.ns f.clo) : PlOk K m i t (grow op) (forP m i op (f.base + x)) := by
  have C := h.cur
  have T := h.ok
  have ht := h.top
  unfold forP
  dsimp only
  rw [th_get h.hi]
  rcases ho with rfl | rfl | rfl
  · simp only [if_true]
    split
    · exact PlOk.thr C (by decide)
    · split
      · exact PlOk.thr C (by decide)
      · exact PlOk.ok C (by simp [grow])
  · simp only [if_true, show (31 : Nat) ≠ 30 by decide, if_false]
    exact PlOk.ok (C.pu h.il h.hf (VOk.bool _ _)) (by simp [grow])
  · simp only [if_true, show (32 : Nat) ≠ 30 by decide, show (32 : Nat) ≠ 31 by decide, if_false]
    split
    · exact PlOk.thr C (by decide)
    · split
      · exact PlOk.thr C (by decide)
      · rename_i kv hkv
        obtain ⟨o1, o2⟩ := next_ok (tab_ok h.vi _).2 hkv
        have C2 := C.stk h.il (((t.stack.set (f.base + x + 1) kv.1).set (f.base + x + 2) kv.1).set (f.base + x + 3) kv.2) (set_ok (set_ok (set_ok T.sv _ o1) _ o1) _ o2) (fun g hg => by rw [h.hf] at hg; cases hg; simpa using ht) h.ne
        exact PlOk.ok (C2.pu h.il h.hf (VOk.bool _ _)) (by simp [grow])
/-- closeFrom at or above the top frame's base -/
theorem close_cur (h : At K m i t f) (a : Nat) : ∃ t1, Cur K K m (closeFrom m i a) i t t1 ∧ t1.stack = t.stack := by
  have P := closeFrom_inv h.vi h.hi a
  obtain ⟨k, hk⟩ := P.th
  refine ⟨_, ⟨Cx.le.refl _, P.vi, ?_, Rest.ot (P.vi.kh.trans h.vi.kh.symm) P.ot, hk, rfl, rfl, rfl⟩, rfl⟩
  have := h.up
  unfold UpL at this ⊢
  rw [P.ux, P.cl]
  exact this
theorem descs_ok {op x : Nat} (h : At K m i t f) (hs : soundP m i 28 x = true) : x < m.protos.length ∧ ∀ d ∈ (m.descs.drop (m.protos.getD x pr0).up).take (m.protos.getD x pr0).nup, ¬ ((d.1 = 1 ∧ d.2 ≥ K.ns f.clo) ∨ (d.1 = 0 ∧ d.2 ≥ (m.clos.getD f.clo cl0).nup)) := by
  unfold soundP at hs
  simp (config := { decide := true }) only [if_true, if_false, h.topF] at hs
  split at hs
  · cases hs
  · rename_i hlt
    refine ⟨by omega, fun d hd hb => ?_⟩
    rw [Bool.not_eq_true', List.any_eq_false] at hs
    have := hs d hd
    rw [decide_eq_true_eq, h.ns] at this
    exact this hb
theorem plain_ok (h : At K m i t f) {op x : Nat} (ho : 1 ≤ op ∧ op ≤ 32 ∧ op ≠ 21 ∧ op ≠ 22 ∧ op ≠ 23 ∧ op ≠ 24 ∧ op ≠ 26 ∧ op ≠ 27) (hs : soundP m i op x = true) (hn : f.base + K.ns f.clo + (need op).toNat ≤ t.stack.length) : PlOk K m i t (grow op) (plainP m i op x) := by
  have C := h.cur
  have T := h.ok
  have ht := h.top
  have v0 := topV_ok h.vi h.hi 0
  have v1 := topV_ok h.vi h.hi 1
  have v2 := topV_ok h.vi h.hi 2
  have pu : ∀ {v : Vl}, VOk K v → grow op = 1 → PlOk K m i t (grow op) (.inr (), push m i [v]) := fun hv hg => PlOk.ok (C.pu h.il h.hf hv) (by rw [hg]; simp)
  unfold plainP
  dsimp only
  rw [h.topF, th_get h.hi]
  by_cases e1 : op = 1
  · rw [if_pos e1]; exact pu (const_ok h.vi _) (by rw [e1]; rfl)
  rw [if_neg e1]
  by_cases e2 : op = 2
  · rw [if_pos e2]; exact pu (VOk.nil _) (by rw [e2]; rfl)
  rw [if_neg e2]
  by_cases e3 : op = 3
  · rw [if_pos e3]; exact pu (VOk.bool _ _) (by rw [e3]; rfl)
  rw [if_neg e3]
  by_cases e4 : op = 4
  · rw [if_pos e4]; exact pu (VOk.bool _ _) (by rw [e4]; rfl)
  rw [if_neg e4]
  by_cases e5 : op = 5
  · rw [if_pos e5]; exact pu (getD_ok T.sv _) (by rw [e5]; rfl)
  rw [if_neg e5]
  by_cases e6 : op = 6
  · rw [if_pos e6]
    subst e6
    have hn1 : f.base + K.ns f.clo + 1 ≤ t.stack.length := hn
    have := take_len (xs := t.stack) (k := 1) (by omega)
    exact PlOk.ok (C.stk h.il _ (set_ok (take_ok T.sv _) _ v0) (fun g hg => by rw [h.hf] at hg; cases hg; rw [List.length_set]; omega) h.ne) (by simp [grow]; omega)
  rw [if_neg e6]
  by_cases e7 : op = 7
  · rw [if_pos e7]
    subst e7
    have hx : x < (m.clos.getD f.clo cl0).nup := by
      unfold soundP at hs
      simp (config := { decide := true }) only [if_true, if_false, h.topF] at hs
      simpa using hs
    exact pu (getUp_ok h.vi h.clo hx) rfl
  rw [if_neg e7]
  by_cases e8 : op = 8
  · rw [if_pos e8]
    subst e8
    have hx : x < (m.clos.getD f.clo cl0).nup := by
      unfold soundP at hs
      simp (config := { decide := true }) only [if_true, if_false, h.topF] at hs
      simpa using hs
    have hn1 : f.base + K.ns f.clo + 1 ≤ t.stack.length := hn
    have := take_len (xs := t.stack) (k := 1) (by omega)
    obtain ⟨t2, c2, l2⟩ := setUp_ok (C.po h.il h.hf hn1) h.il h.clo hx v0
    exact PlOk.ok c2 (by rw [l2]; simp [grow]; omega)
  rw [if_neg e8]
  by_cases e9 : op = 9
  · rw [if_pos e9]; exact pu (get_ok (tab_ok h.vi 0).2 _) (by rw [e9]; rfl)
  rw [if_neg e9]
  by_cases e10 : op = 10
  · rw [if_pos e10]
    subst e10
    have hn1 : f.base + K.ns f.clo + 1 ≤ t.stack.length := hn
    have := take_len (xs := t.stack) (k := 1) (by omega)
    exact store_ok (C.po h.il h.hf hn1) 0 (const_ok h.vi _) v0 (by simp [grow]; omega)
  rw [if_neg e10]
  by_cases e11 : op = 11
  · rw [if_pos e11]
    subst e11
    have hn2 : f.base + K.ns f.clo + 2 ≤ t.stack.length := hn
    have := take_len (xs := t.stack) (k := 2) (by omega)
    split
    · exact PlOk.thr (C.po h.il h.hf hn2) (by decide)
    · exact PlOk.ok (C.pp h.il h.hf hn2 (get_ok (tab_ok h.vi _).2 _)) (by simp [grow]; omega)
  rw [if_neg e11]
  by_cases e12 : op = 12
  · rw [if_pos e12]
    subst e12
    have hn3 : f.base + K.ns f.clo + 3 ≤ t.stack.length := hn
    have := take_len (xs := t.stack) (k := 3) (by omega)
    split
    · exact PlOk.thr (C.po h.il h.hf hn3) (by decide)
    · exact store_ok (C.po h.il h.hf hn3) _ v1 v0 (by simp [grow]; omega)
  rw [if_neg e12]
  by_cases e13 : op = 13
  · rw [if_pos e13]
    subst e13
    have hn2 : f.base + K.ns f.clo + 2 ≤ t.stack.length := hn
    have hn1 : f.base + K.ns f.clo + 1 ≤ t.stack.length := by omega
    have := take_len (xs := t.stack) (k := 1) (by omega)
    split
    · exact PlOk.thr (C.po h.il h.hf hn1) (by decide)
    · exact store_ok (C.po h.il h.hf hn1) _ (fromInt_num _).val v0 (by simp [grow]; omega)
  rw [if_neg e13]
  by_cases e14 : op = 14
  · rw [if_pos e14]
    split
    · exact PlOk.trap C
    · rename_i h12
      obtain ⟨V, l⟩ := addTab h.vi (by omega)
      have C2 : Cur K { K with nt := K.nt + 1 } m { m with tabs := m.tabs ++ [tab0] } i t t := ⟨l, V, h.up, ⟨Nat.le_refl _, (Rest.refl m i).old, (Rest.refl m i).new⟩, h.hi, rfl, rfl, rfl⟩
      have hk := h.vi.kt
      refine PlOk.ok (C2.pu h.il h.hf (v := ⟨4, m.tabs.length, []⟩) ⟨?_, ?_, ?_, ?_, ?_, ?_⟩) (by rw [e14]; simp [grow])
      · have : m.tabs.length < 4294967296 := by omega
        simp [wellV, this]
      · show m.tabs.length < 18446744073709551616
        omega
      · intro e; cases e
      · intro _; show m.tabs.length < K.nt + 1; omega
      · intro e; cases e
      · intro e; cases e
  rw [if_neg e14]
  by_cases e25 : op = 25
  · rw [if_pos e25]
    subst e25
    have hn1 : f.base + K.ns f.clo + 1 ≤ t.stack.length := hn
    have := take_len (xs := t.stack) (k := 1) (by omega)
    exact PlOk.ok (C.po h.il h.hf hn1) (by simp [grow]; omega)
  rw [if_neg e25]
  by_cases e28 : op = 28
  · rw [if_pos e28]
    subst e28
    obtain ⟨hx, hd⟩ := descs_ok (op := 28) h hs
    rcases closure_ok h.vi h.up h.hi h.mem h.clo hx hd with e | ⟨K', m', t1, e, C2, s1, hlt⟩
    · rw [e]
      exact PlOk.trap C
    · rw [e]
      dsimp only
      have hk := C2.vi.cn
      refine PlOk.ok (C2.pu h.il h.hf (v := ⟨5, m.clos.length, []⟩) ⟨?_, ?_, ?_, ?_, ?_, ?_⟩) (by rw [s1]; simp [grow])
      · have : m.clos.length < 4294967296 := by omega
        simp [wellV, this]
      · show m.clos.length < 18446744073709551616
        omega
      · intro e; cases e
      · intro e; cases e
      · intro _; exact hlt
      · intro e; cases e
  rw [if_neg e28]
  by_cases e29 : op = 29
  · rw [if_pos e29]
    subst e29
    obtain ⟨t2, c2, l2⟩ := close_cur h (f.base + x)
    exact PlOk.ok c2 (by rw [l2]; simp [grow])
  rw [if_neg e29]
  by_cases e30 : op = 30 ∨ op = 31 ∨ op = 32
  · rw [if_pos e30]
    refine for_ok h e30 ?_
    rw [← h.ns]
    unfold soundP at hs
    rcases e30 with rfl | rfl | rfl <;> simp (config := { decide := true }) only [if_true, if_false, h.topF] at hs <;> simp at hs <;> omega
  rw [if_neg e30]
  exact oper_ok h (by omega) hn
end
end Go.Proofs.Qxb6500574aGreatDoor
