/-
  push, and what it leaves alone: cells below the stack's top, wherever they lie.
-/
import Derived.Test.Qxb6500574aGreatDoorVSetUp
namespace Go.Proofs.Qxb6500574aGreatDoor
open Go Go.RowKit
set_option linter.unusedVariables false
set_option linter.unusedSimpArgs false

/-- an append leaves what lies below the length in the old block -/
theorem append_keeps {P : Program} (w : World) (base : Nat) (t ty e : TypeId) (i : TypeInfo) (z : Value) (size bytes : Nat) (ht : P.underlying t = some (.slice e)) (hi : P.info? e = some i) (hz : i.zero = some z)
    (hsize : i.size = size) (hby : i.bytes = bytes)
    (g n cap : Nat) (xs : List Value) (hown : w.ownsRow base e size (.slice (some ⟨g, 0, none⟩) n cap) n xs)
    (a : Addr) (m c : Nat) (news : List Value) (hl : news.length = m * size) (hnews : ∀ j u, news[j]? = some u → w.cell? (a.add j) = some u) (h1 : ∀ u ∈ news, u.oneCell' = true)
    (h63 : n + m ≤ maxLen) (hbytes : (n + m) * bytes ≤ 140737488355328) {v' : Value} {w' : World}
    (hr : (Builtin.append_ #[t, t] ty #[.slice (some ⟨g, 0, none⟩) n cap, .slice (some a) m c]).run P w = .ok v' w') :
    ∀ j, j < n * size → w'.cell? ⟨g, j, none⟩ = w.cell? ⟨g, j, none⟩ := by
  subst hsize
  subst hby
  have hsmall : n + m ≤ 9223372036854775807 := by simp only [maxLen] at h63; omega
  intro j hj
  have hn0 : n ≠ 0 := by intro h; subst h; simp at hj
  rcases hown.2 with ⟨h1, _⟩ | ⟨g', cap', cur, he, hbg, hg, hnc, hcm, hcs, htake⟩
  · cases h1
  · cases he
    by_cases hroom : n + m ≤ cap
    · have hfit : n * i.size + news.length ≤ cur.size := by rw [hl, hcs, ← Nat.add_mul]; exact Nat.mul_le_mul_right _ hroom
      have hr2 := run_append_room (P := P) w t ty e i ht hi g n cap cur hg a m c news hl hnews h1 hroom hfit
      rw [hr2] at hr
      cases hr
      have k1 := setRow_heap w g cur (cur.toList.take (n * i.size) ++ news ++ cur.toList.drop (n * i.size + news.length)).toArray e _ hg
      simp only [World.cell?, k1, hg]
      simp
      rw [List.getElem?_append_left (by simp; omega), List.getElem?_take_of_lt hj]
      simp
    · have holds : ∀ j u, xs[j]? = some u → w.cell? ((⟨g, 0, none⟩ : Addr).add j) = some u := hown.cells (g := g) rfl
      have hr2 := run_append_grow (P := P) w t ty e i z ht hi hz ⟨g, 0, none⟩ n cap xs hown.1 holds a m c news hl hnews (by omega) (by omega) (growslice_fits (by omega) hbytes)
      rw [hr2] at hr
      cases hr
      have hlt : g < w.heap.size := by
        rcases Nat.lt_or_ge g w.heap.size with h | h
        · exact h
        · rw [Array.getElem?_eq_none h] at hg; cases hg
      have k1 := heap_alloc_old w.drew (.cells (xs.toArray ++ news.toArray ++ Builtin.zeroCells z.cells (grownCap w (n + m) cap e - (n + m))) e) (r := g) (by simpa using hlt)
      simp only [World.cell?, k1]
      rfl
theorem wpList_appK {P : Program} {t e : TypeId} {z : Value} {size bytes : Nat} (R : IsRow P t e z size bytes) (w : World) {ops : Array Oper} {rest : List Oper} {o : Oper} {a : Act} {Q : Exit → Act → World → Prop} (hgd : o.guard = none) (s x : Operand)
    (ho : o.op = .call { callee := .builtin .append, args := #[s, x], argTypes := #[t, t] })
    (v : Value) (n : Nat) (xs : List Value) (hs : a.eval s = v) (hown : w.ownsRow 0 e size v n xs)
    (B k c : Nat) (news : List Value) (hx : a.eval x = .slice (some ⟨B, 0, none⟩) k c) (hB : Has w B news.toArray e) (hl : news.length = k * size) (hk : 0 < k) (h1 : ∀ u ∈ news, u.oneCell' = true)
    (hbound : (n + k) * (bytes + 1) ≤ 140737488355328)
    (h : ∀ g cap w', w'.ownsRow 0 e size (.slice (some ⟨g, 0, none⟩) (n + k) cap) (n + k) (xs ++ news) → Fr (fun k => v.ownBlock = some k) w w' → (v.ownBlock = some g ∨ g = w.heap.size) → g < w'.heap.size → (∀ b j, v.ownBlock = some b → j < n * size → w'.cell? ⟨b, j, none⟩ = w.cell? ⟨b, j, none⟩) → wpList P ops Q rest (a.put o.dst (.slice (some ⟨g, 0, none⟩) (n + k) cap)) w') : wpList P ops Q (o :: rest) a w := by
  obtain ⟨ht, hi, hzs, hsz⟩ := R
  obtain ⟨i, hi, hz, hsize, hby⟩ := info_parts hi
  have hb2 : (n + k) * bytes ≤ (n + k) * (bytes + 1) := Nat.mul_le_mul_left _ (by omega)
  have hb3 : (n + k) * 1 ≤ (n + k) * (bytes + 1) := Nat.mul_le_mul_left _ (by omega)
  have hnews : ∀ j u, news[j]? = some u → w.cell? ((⟨B, 0, none⟩ : Addr).add j) = some u := fun j u hj => by
    have hadd : (⟨B, 0, none⟩ : Addr).add j = ⟨B, j, none⟩ := by unfold Addr.add; split <;> simp_all
    rw [hadd, hB.cell]; simpa using hj
  refine wpList_plain hgd fun K hK => ?_
  obtain ⟨v', w', hr, h2, h3, _, h5⟩ := run_append_own_at (P := P) w 0 t o.type e i z size bytes ht hi hz hsize hby hzs hsz v n xs hown ⟨B, 0, none⟩ k c news (by omega)
    hnews h1 (by unfold maxLen; omega) (by omega) (Nat.zero_le _)
  have hform : ∃ g cap, v' = .slice (some ⟨g, 0, none⟩) (n + k) cap := by
    rcases h2.2 with ⟨_, h0⟩ | ⟨g, cap, cur, hv, _⟩
    · omega
    · exact ⟨g, cap, hv⟩
  have hkeep : ∀ b j, v.ownBlock = some b → j < n * size → w'.cell? ⟨b, j, none⟩ = w.cell? ⟨b, j, none⟩ := by
    intro b j hb hj
    rcases hown.2 with ⟨h0, _⟩ | ⟨g, cap, cur, hv, _⟩
    · rw [h0] at hb; cases hb
    · subst hv
      simp [Value.ownBlock] at hb
      subst hb
      exact append_keeps w 0 t o.type e i z size bytes ht hi hz hsize hby g n cap xs hown ⟨B, 0, none⟩ k c news hl hnews h1 (by unfold maxLen; omega) (by omega) hr j hj
  obtain ⟨g, cap, rfl⟩ := hform
  unfold Oper.wp execOp
  simp only [ho, resolve, invoke, builtin, Sem.run_bind, Sem.run_pure, Result.andThen_ok, List.map_toArray, List.map_cons, List.map_nil, hs, hx, hr]
  refine hK _ _ (h g cap w' h2 (Fr.of_grown h3) ?_ (h2.lt g rfl).2 hkeep)
  rcases h5 with h5 | h5
  · exact .inl (by rw [← h5]; rfl)
  · right
    simpa [Value.ownBlock] using h5
theorem Row.ownA {w : World} {o : Nat → Nat} {lab : Nat} {T : TypeId} {k : Nat} {s : Sl} {n : Nat} {xs : List Value} (h : Row w o lab T k s n xs) {n' b : Nat} (hb : (s.v n').ownBlock = some b) : s.a = some ⟨b, 0, none⟩ := by
  obtain ⟨a, c⟩ := s
  rcases h.form with ⟨h1, _⟩ | ⟨g0, h1, _⟩
  · dsimp only at h1
    subst h1
    simp [Value.ownBlock, Sl.v] at hb
  · dsimp only at h1 ⊢
    subst h1
    simp [Value.ownBlock, Sl.v] at hb
    rw [hb]
/-- a cell that a push onto thread i leaves alone -/
def Kp (A : VL) (i : Nat) (t : ThD) (B j : Nat) : Prop := B ≠ A.bT ∧ ∀ l, A.X[i]? = some l → l.s.a = some ⟨B, 0, none⟩ → j < t.stack.length * 3
section
variable {w w1 w2 : World} {A : VL} {m : VMD} {f e i : Nat} {t : ThD} {l : ThL}
set_option maxRecDepth 100000
set_option maxHeartbeats 400000
theorem cell_lt {w : World} {b j : Nat} {v : Value} (h : w.cell? ⟨b, j, none⟩ = some v) : b < w.heap.size := by
  rcases Nat.lt_or_ge b w.heap.size with h1 | h1
  · exact h1
  · simp [World.cell?, Array.getElem?_eq_none h1] at h
theorem cell_setNe {w : World} {b j b' j' : Nat} {v : Value} (h : b ≠ b') : (w.setCell ⟨b', j', none⟩ v).cell? ⟨b, j, none⟩ = w.cell? ⟨b, j, none⟩ := by
  have : (w.setCell ⟨b', j', none⟩ v).heap[b]? = w.heap[b]? := by
    simp [World.setCell]
    rw [Array.getElem?_modify]
    simp [Ne.symm h]
  simp only [World.cell?, this]
theorem vpush_keep (h : VRep w A m f e) (hi : m.ths[i]? = some t) (vs : List Vl) (hv : 0 < vs.length) (hl : t.stack.length + vs.length ≤ 100000) {B c : Nat} (hB : Has w B (vs.flatMap vCells).toArray 68) :
    Calls Tryz.prog 143 #[.pointer (some ⟨A.bT, i * 5, none⟩), .slice (some ⟨B, 0, none⟩) vs.length c] w fun e' w' => e' = .returned (.tuple #[]) ∧ ∃ A', VRep w' A' (m.setTh i { t with stack := t.stack ++ vs }) f e ∧ VSt (isT i) w A w' A' ∧ ∀ b j u, w.cell? ⟨b, j, none⟩ = some u → Kp A i t b j → w'.cell? ⟨b, j, none⟩ = some u ∧ Kp A' i { t with stack := t.stack ++ vs } b j := by
  obtain ⟨l, hx⟩ := h.lays hi
  have c2 := h.thCell hi hx (j := 2) (by omega)
  simp only [thCells, List.getElem?_cons_succ, List.getElem?_cons_zero, Sl.v] at c2
  have fz := h.ths.frozen (i * 5 + 2)
  have hb := h.ths.here.has.lt
  have H : Hid (VRep w A m f e) := h
  have HR : Hid (World.ownsRow w 0 68 3 (l.s.v t.stack.length) t.stack.length (t.stack.flatMap vCells)) := (h.one hi hx).s.own
  have HB : Hid (Has w B (vs.flatMap vCells).toArray 68) := hB
  have HI : Hid (m.ths[i]? = some t) := hi
  have HX : Hid (A.X[i]? = some l) := hx
  clear h hi hx hB
  obtain ⟨n, HN⟩ : ∃ n : Nat, Hid (t.stack.length = n) := ⟨_, rfl⟩
  obtain ⟨k, HK⟩ : ∃ k : Nat, Hid (vs.length = k) := ⟨_, rfl⟩
  obtain ⟨POST, HP⟩ : ∃ P : World → Prop, Hid ((fun w' => ∃ A', VRep w' A' (m.setTh i { t with stack := t.stack ++ vs }) f e ∧ VSt (isT i) w A w' A' ∧ ∀ b j u, w.cell? ⟨b, j, none⟩ = some u → Kp A i t b j → w'.cell? ⟨b, j, none⟩ = some u ∧ Kp A' i { t with stack := t.stack ++ vs } b j) = P) := ⟨_, rfl⟩
  rw [show (fun (e' : Ending) (w' : World) => e' = .returned (.tuple #[]) ∧ ∃ A', VRep w' A' (m.setTh i { t with stack := t.stack ++ vs }) f e ∧ VSt (isT i) w A w' A' ∧ ∀ b j u, w.cell? ⟨b, j, none⟩ = some u → Kp A i t b j → w'.cell? ⟨b, j, none⟩ = some u ∧ Kp A' i { t with stack := t.stack ++ vs } b j) = fun e' w' => e' = .returned (.tuple #[]) ∧ POST w' from by rw [← HP.out]]
  rw [HK.out] at hv hl ⊢
  rw [HN.out] at hl c2
  go_enter Tryz.func143, Tryz.ntmps143
  go_wp2_with (at_builtin; go_must (refine wpList_appK rowVal _ rfl (.tmp 8) (.tmp 9) rfl (l.s.v t.stack.length) t.stack.length (t.stack.flatMap vCells) (by rw [HN.out]; rfl) HR.out B k c (vs.flatMap vCells) rfl HB.out (by rw [flatMap_len _ 3 vCells_len, HK.out]) hv (vCells_one vs) ?bd ?go))
  case bd => rw [HN.out]; omega
  case go =>
    intro g cap w2 q1 q2 q3 q4 q5
    have hq3 : (l.s.v t.stack.length).ownBlock = some g ∨ w.heap.size ≤ g := by
      rcases q3 with q3 | q3
      · exact .inl q3
      · right; rw [q3]; exact Nat.le_refl _
    rw [← HK.out] at q1
    obtain ⟨hh, A', r1, r2, _, rX⟩ := H.out.pushed HI.out HX.out vs (Fr.refl _ _) q1 q2 hq3 q4
    have hkeep : ∀ b j u, w.cell? ⟨b, j, none⟩ = some u → Kp A i t b j → (w2.setCell ⟨A.bT, i * 5 + 2, none⟩ (.slice (some ⟨g, 0, none⟩) (t.stack.length + vs.length) cap)).cell? ⟨b, j, none⟩ = some u ∧ Kp A' i { t with stack := t.stack ++ vs } b j := by
      intro b j u hc ⟨k1, k2⟩
      have hbl := cell_lt hc
      have k2' := k2 l HX.out
      constructor
      · rw [cell_setNe k1]
        by_cases hb2 : (l.s.v t.stack.length).ownBlock = some b
        · rw [q5 b j hb2 (k2' ?_)]
          · exact hc
          · exact (H.out.one HI.out HX.out).s.ownA hb2
        · have := q2.block b hbl hb2
          simp only [World.cell?] at hc ⊢
          rw [this]
          exact hc
      · refine ⟨by rw [r2.bT]; exact k1, fun l2 hl2 hg2 => ?_⟩
        have hil := (List.getElem?_eq_some_iff.1 HX.out).1
        rw [rX, List.getElem?_set_self hil] at hl2
        cases hl2
        simp only [Option.some.injEq, Addr.mk.injEq, and_true] at hg2
        subst hg2
        simp only [List.length_append]
        rcases q3 with q3 | q3
        · have : l.s.a = some ⟨g, 0, none⟩ := (H.out.one HI.out HX.out).s.ownA q3
          have := k2' this
          omega
        · omega
    have FIN : Hid (POST _) := (by rw [← HP.out]; exact ⟨A', r1, r2, hkeep⟩ : POST (w2.setCell ⟨A.bT, i * 5 + 2, none⟩ (.slice (some ⟨g, 0, none⟩) (t.stack.length + vs.length) cap)))
    rw [HK.out, HN.out] at FIN
    rw [HN.out]
    have d3 := hh.frozen (i * 5 + 2)
    have d4 : w2.cell? ⟨A.bT, i * 5 + 2, none⟩ = some (.slice l.s.a n l.s.c) := by
      rw [hh.cell, List.getElem?_toArray, flatMap_at _ 5 thCells_len _ i 2 _ (H.out.zipAt HI.out HX.out) (by omega)]
      simp [thCells, HN.out]
    have k3 := hh.lt
    clear q1 q2 q3 q4 hq3 hh r1 r2 hkeep q5 HP rX
    go_wp2
    go_end0
    exact ⟨rfl, FIN.out⟩
/-- a frame pushed: behind the append and the store of the header -/
theorem VRep.pushedF (h : VRep w A m f e) (hi : m.ths[i]? = some t) (hl : A.X[i]? = some l) (r : FmD) (hf : Fr (fun _ => False) w w1) {g cap : Nat}
    (q1 : w2.ownsRow 0 336 5 (.slice (some ⟨g, 0, none⟩) (t.frames.length + 1) cap) (t.frames.length + 1) (t.frames.flatMap fCells ++ fCells r)) (q2 : Fr (fun j => (l.f.v t.frames.length).ownBlock = some j) w1 w2) (q3 : (l.f.v t.frames.length).ownBlock = some g ∨ w.heap.size ≤ g) (q4 : g < w2.heap.size) :
    Has w2 A.bT ((m.ths.zip A.X ++ A.Z).flatMap thCells).toArray 265 ∧
    ∃ A', VRep (w2.setCell ⟨A.bT, i * 5 + 3, none⟩ (.slice (some ⟨g, 0, none⟩) (t.frames.length + 1) cap)) A' (m.setTh i { t with frames := t.frames ++ [r] }) f e ∧ VSt (isT i) w A (w2.setCell ⟨A.bT, i * 5 + 3, none⟩ (.slice (some ⟨g, 0, none⟩) (t.frames.length + 1) cap)) A' := by
  obtain ⟨r1, r2⟩ := (h.one hi hl).f.app hf q1 q2 q3 q4
  have hh : Has w2 A.bT ((m.ths.zip A.X ++ A.Z).flatMap thCells).toArray 265 := r2.has h.ths.here.has (by rw [h.ths.here.lb]; omega)
  have r2' : Stp (isT i) w A.o w2 (upd A.o g (21 + 3 * i)) := r2.weaken (fun k hk => .inr (by omega))
  have hb : upd A.o g (21 + 3 * i) A.bT = 13 := (r2.ext _ h.ths.here.has.lt).trans h.ths.here.lb
  have s1 := r2'.setCell (p := ⟨A.bT, i * 5 + 3, none⟩) (.inl hb) (.slice (some ⟨g, 0, none⟩) (t.frames.length + 1) cap)
  have s2 : Stp (fun k => k = 13) w2 (upd A.o g (21 + 3 * i)) (w2.setCell ⟨A.bT, i * 5 + 3, none⟩ (.slice (some ⟨g, 0, none⟩) (t.frames.length + 1) cap)) (upd A.o g (21 + 3 * i)) := (Stp.refl _ _ _).setCell (p := ⟨A.bT, i * 5 + 3, none⟩) hb _
  have o := h.one hi hl
  have hT := h.turn hi hl (t' := { t with frames := t.frames ++ [r] }) (l' := { l with f := ⟨some ⟨g, 0, none⟩, cap⟩ }) s1 (ThRep.putCell hh (h.zipAt hi hl) (by omega) (by simp [thCells])) ⟨(o.s.st r2 (by omega)).st s2 (by omega), by have r := r1.st s2 (by omega); simpa using r, (o.p.st r2 (by omega)).st s2 (by omega)⟩
  exact ⟨hh, _, hT.1, hT.2⟩
end
end Go.Proofs.Qxb6500574aGreatDoor
