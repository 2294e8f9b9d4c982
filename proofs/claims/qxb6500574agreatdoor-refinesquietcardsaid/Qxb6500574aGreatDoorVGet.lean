/-
  THE WALK of table: Get.
-/
import Derived.Test.Qxb6500574aGreatDoorVFind
namespace Go.Proofs.Qxb6500574aGreatDoor
open Go Go.RowKit
set_option linter.unusedVariables false
set_option linter.unusedSimpArgs false

theorem well_bounds {k : Vl} (h : wellV k = true) (hn : k.t = 2 → k.n < 18446744073709551616) : 0 ≤ k.t ∧ k.t ≤ 7 ∧ k.n < 18446744073709551616 := by
  unfold wellV at h
  split at h
  · simp at h; omega
  · split at h
    · cases h
    · rename_i h3 h4
      have h5 : 0 ≤ k.t ∧ k.t ≤ 7 := by omega
      refine ⟨h5.1, h5.2, ?_⟩
      split at h
      · simp at h; omega
      · split at h
        · simp at h; omega
        · split at h
          · simp at h; omega
          · split at h
            · simp at h; omega
            · exact hn (by omega)
theorem oneV_t (k : Vl) : (oneV k).1.t = k.t := by
  unfold oneV
  split
  · rfl
  · rename_i h2
    have : k.t = 2 := by omega
    split
    · rfl
    · split
      · exact this.symm
      · rfl
theorem oneV_n (k : Vl) : (oneV k).1.n ≤ k.n := by
  unfold oneV
  split
  · exact Nat.le_refl _
  · split
    · exact Nat.le_refl _
    · split
      · exact Nat.zero_le _
      · exact Nat.le_refl _
section
variable {w : World} {o : Nat → Nat} {bt bn n h g : Nat} {s : Sl} {xs : List (TabD × TbL)} {t : TabD} {l : TbL}
set_option maxRecDepth 100000
set_option maxHeartbeats 600000
theorem get_any (r : TabsRep w o bt bn s n xs) (hx : xs[h]? = some (t, l)) (hf : TFit t) (hn : h < n) (hn12 : n ≤ 12) (k : Vl) (hk : wellV k = true) (hkn : k.t = 2 → k.n < 18446744073709551616) :
    Calls Tryz.prog 296 #[.pointer (some ⟨bt, 0, none⟩), .int .i64 h, k.val] w fun e w' => e = .returned (.tuple #[(t.get k).val, .int .i64 0]) ∧ Fr (fun _ => False) w w' := by
  have hb := well_bounds hk hkn
  obtain ⟨g, ga, gcap, _, gl, gc, gf⟩ := r.at hx
  have b0 := r.here.has.cell 0
  have b1 := r.here.has.cell 1
  have b2 := r.here.has.cell 2
  simp only [List.getElem?_toArray, List.getElem?_cons_zero, List.getElem?_cons_succ, Sl.v, ga] at b0 b1 b2
  have hbt := r.here.has.lt
  have hxl := (List.getElem?_eq_some_iff.1 hx).1
  have hV : ∀ q, t.find (oneV k).1 (oneV k).2 = q → t.get k = (match q with | none => nilV | some p => (t.order.getD p (nilV, nilV)).2) := fun q hq => by subst hq; rfl
  have hW : ∀ W, Calls Tryz.prog 108 #[.agg #[.int .i64 k.t, .int .u64 k.n, sv k.s]] W fun e w' => e = .returned (.bool true) ∧ Fr (fun _ => False) W w' := fun W => by have := well_any (w := W) k; rw [hk] at this; exact this
  have hO : ∀ W, Fr (fun _ => False) w W → Calls Tryz.prog 135 #[.pointer (some ⟨bt, 0, none⟩), .agg #[.int .i64 k.t, .int .u64 k.n, sv k.s]] W fun e w' => e = .returned (oneRes k) ∧ Fr (fun _ => False) W w' := fun W hW => one_any (hW.cell b0) (Nat.lt_of_lt_of_le hbt hW.size) k
  have hk' : 0 ≤ (oneV k).1.t ∧ (oneV k).1.t ≤ 7 ∧ (oneV k).1.n < 18446744073709551616 := ⟨by rw [oneV_t]; exact hb.1, by rw [oneV_t]; exact hb.2.1, Nat.lt_of_le_of_lt (oneV_n k) hb.2.2⟩
  have hF : ∀ W, Fr (fun _ => False) w W → Calls Tryz.prog 136 #[.pointer (some ⟨g, h * 6, none⟩), (oneV k).1.val, .int .i64 (oneV k).2] W fun e w' => e = .returned (.int .i64 (findI (t.find (oneV k).1 (oneV k).2))) ∧ Fr (fun _ => False) W w' := fun W hW => find_any (r.st (Stp.fresh (fun _ => False) o hW) (fun _ _ x => x)) hx ga hf _ hk' _
  have hfp : ∀ p, t.find (oneV k).1 (oneV k).2 = some p → p < t.order.length := fun p hp => hf.find hp
  have c0 := gc 0 (by omega)
  simp only [tbCells, List.getElem?_cons_zero, Sl.v] at c0
  rw [Nat.add_zero] at c0
  have hord := (r.one h _ hx).ord
  have hol := hf.ol
  unfold oneRes at hO
  generalize (oneV k).1 = k', (oneV k).2 = i' at hV hO hF hfp
  have hx12 : n ≤ xs.length := r.le
  clear hk' gc r hx hf hk hkn hb
  obtain ⟨N, HN⟩ : ∃ N : Nat, Hid (xs.length = N) := ⟨_, rfl⟩
  rw [HN.out] at b1 gcap hxl hx12
  have hh1 : ¬ ((h : Int) < 0) := by omega
  have hh2 : ¬ ((n : Int) ≤ (h : Int)) := by omega
  have HD : Hid (Row w o (100 + 5 * h) 259 6 l.ord t.order.length (t.order.flatMap eCells)) := hord
  have HV : Hid (∀ q, t.find k' i' = q → t.get k = (match q with | none => nilV | some p => (t.order.getD p (nilV, nilV)).2)) := hV
  have HFP : Hid (∀ p, t.find k' i' = some p → p < t.order.length) := hfp
  clear hord hV hfp
  cases hq : t.find k' i' with
  | none =>
    have hget := HV.out none hq
    rw [hget]
    rw [hq] at hF
    simp only [findI] at hF
    clear hget HV HFP hq HD
    go_enter Tryz.func296, Tryz.ntmps296
    go_wp2_with (first
      | (go_at_call 108; refine (hW _).mono ?_; rintro e w1 ⟨rfl, hw1⟩
         have f1 : Fr (fun _ => False) w w1 := (((Fr.refl _ _).alloc _).alloc _).trans hw1 (fun _ _ x => x)
         have k1 : Has w1 w.heap.size #[.int .i64 k.t, .int .u64 k.n, sv k.s] 68 := ((Has.new _ _ _).alloc _).fr hw1 (fun x => x)
         have r1 : Has w1 (w.heap.size + 1) #[.int .i64 0, .int .u64 0, sv []] 68 := (Has.newC _ _ _ (by simp)).fr hw1 (fun x => x)
         obtain ⟨k10, k11, k12⟩ := k1.cells3
         have b1' := f1.cell b1
         have b2' := f1.cell b2
         have s1 := f1.size
         have z1 := k1.lt
         clear hw1)
      | (go_at_call 135; refine (hO _ f1).mono ?_; rintro e w2 ⟨rfl, hw2⟩
         have f2 : Fr (fun _ => False) w w2 := f1.trans hw2 (fun _ _ x => x)
         have k2 := k1.fr hw2 (fun x => x)
         have r2 := r1.fr hw2 (fun x => x)
         obtain ⟨k20, k21, k22⟩ := k2.frz3
         obtain ⟨k23, k24, k25⟩ := k2.cells3
         have z2 := k2.lt
         have c0' := f2.cell c0
         clear hw2 k1 r1 k10 k11 k12 b1' b2' s1 z1)
      | (go_at_call 136; refine (hF _ (((f2.setCell (p := ⟨w.heap.size, 0, none⟩) (.inr (Nat.le_refl _)) _).setCell (p := ⟨w.heap.size, 1, none⟩) (.inr (Nat.le_refl _)) _).setCell (p := ⟨w.heap.size, 2, none⟩) (.inr (Nat.le_refl _)) _)).mono ?_; rintro e w3 ⟨rfl, hw3⟩
         have f3 : Fr (fun _ => False) w w3 := (((f2.setCell (p := ⟨w.heap.size, 0, none⟩) (.inr (Nat.le_refl _)) _).setCell (p := ⟨w.heap.size, 1, none⟩) (.inr (Nat.le_refl _)) _).setCell (p := ⟨w.heap.size, 2, none⟩) (.inr (Nat.le_refl _)) _).trans hw3 (fun _ _ x => x)
         have r3 := (((r2.other (p := ⟨w.heap.size, 0, none⟩) (by simp) (.int .i64 k'.t)).other (p := ⟨w.heap.size, 1, none⟩) (by simp) (.int .u64 k'.n)).other (p := ⟨w.heap.size, 2, none⟩) (by simp) (sv k'.s)).fr hw3 (fun x => x)
         obtain ⟨r30, r31, r32⟩ := r3.frz3
         obtain ⟨r33, r34, r35⟩ := Has.cells3 (v := nilV) r3
         dsimp only [nilV] at r33 r34 r35
         have z3 := r3.lt
         clear hw3 k2 r2 k20 k21 k22 k23 k24 k25 z2 c0'))
    refine bodyPost_ret (res_cell_tmp isVal rfl rfl (r3.put3 _ _ _) rfl) rfl ?_
    exact ⟨rfl, ((f3.setCell (p := ⟨w.heap.size + 1, 0, none⟩) (.inr (by simp)) _).setCell (p := ⟨w.heap.size + 1, 1, none⟩) (.inr (by simp)) _).setCell (p := ⟨w.heap.size + 1, 2, none⟩) (.inr (by simp)) _⟩
  | some p =>
    have hpl := HFP.out p hq
    have hget := HV.out (some p) hq
    obtain ⟨e1, e2⟩ : ∃ e : Vl × Vl, t.order[p]? = some e := ⟨_, List.getElem?_eq_getElem hpl⟩
    simp only [List.getD_eq_getElem?_getD, e2, Option.getD_some] at hget
    rw [hget]
    rw [hq] at hF
    simp only [findI] at hF
    obtain ⟨go, o1, o2, o3, o4, o5, _⟩ := HD.out.cells (show 0 < t.order.length by omega)
    have v0 := (o5 (p * 6 + 3) (show _ < t.order.length * 6 by omega)).trans (flatMap_at _ 6 eCells_len t.order p 3 _ e2 (by omega))
    have v1 := (o5 (p * 6 + 4) (show _ < t.order.length * 6 by omega)).trans (flatMap_at _ 6 eCells_len t.order p 4 _ e2 (by omega))
    have v2 := (o5 (p * 6 + 5) (show _ < t.order.length * 6 by omega)).trans (flatMap_at _ 6 eCells_len t.order p 5 _ e2 (by omega))
    simp only [eCells, vCells, List.cons_append, List.nil_append, List.getElem?_cons_succ, List.getElem?_cons_zero] at v0 v1 v2
    rw [o1] at c0
    obtain ⟨⟨kt, kn, ks⟩, ⟨vt, vn, vs⟩⟩ := e1
    dsimp only at v0 v1 v2 ⊢
    clear hget HV HFP HD o5 e2 hq
    obtain ⟨M, HM⟩ : ∃ M : Nat, Hid (t.order.length = M) := ⟨_, rfl⟩
    rw [HM.out] at c0 hpl hol o2
    go_enter Tryz.func296, Tryz.ntmps296
    go_wp2_with (first
      | (go_at_call 108; refine (hW _).mono ?_; rintro e w1 ⟨rfl, hw1⟩
         have f1 : Fr (fun _ => False) w w1 := (((Fr.refl _ _).alloc _).alloc _).trans hw1 (fun _ _ x => x)
         have k1 : Has w1 w.heap.size #[.int .i64 k.t, .int .u64 k.n, sv k.s] 68 := ((Has.new _ _ _).alloc _).fr hw1 (fun x => x)
         have r1 : Has w1 (w.heap.size + 1) #[.int .i64 0, .int .u64 0, sv []] 68 := (Has.newC _ _ _ (by simp)).fr hw1 (fun x => x)
         obtain ⟨k10, k11, k12⟩ := k1.cells3
         have b1' := f1.cell b1
         have b2' := f1.cell b2
         have s1 := f1.size
         have z1 := k1.lt
         clear hw1)
      | (go_at_call 135; refine (hO _ f1).mono ?_; rintro e w2 ⟨rfl, hw2⟩
         have f2 : Fr (fun _ => False) w w2 := f1.trans hw2 (fun _ _ x => x)
         have k2 := k1.fr hw2 (fun x => x)
         have r2 := r1.fr hw2 (fun x => x)
         obtain ⟨k20, k21, k22⟩ := k2.frz3
         obtain ⟨k23, k24, k25⟩ := k2.cells3
         have z2 := k2.lt
         have c0' := f2.cell c0
         clear hw2 k1 r1 k10 k11 k12 b1' b2' s1 z1)
      | (go_at_call 136; refine (hF _ (((f2.setCell (p := ⟨w.heap.size, 0, none⟩) (.inr (Nat.le_refl _)) _).setCell (p := ⟨w.heap.size, 1, none⟩) (.inr (Nat.le_refl _)) _).setCell (p := ⟨w.heap.size, 2, none⟩) (.inr (Nat.le_refl _)) _)).mono ?_; rintro e w3 ⟨rfl, hw3⟩
         have f3 : Fr (fun _ => False) w w3 := (((f2.setCell (p := ⟨w.heap.size, 0, none⟩) (.inr (Nat.le_refl _)) _).setCell (p := ⟨w.heap.size, 1, none⟩) (.inr (Nat.le_refl _)) _).setCell (p := ⟨w.heap.size, 2, none⟩) (.inr (Nat.le_refl _)) _).trans hw3 (fun _ _ x => x)
         have r3 := (((r2.other (p := ⟨w.heap.size, 0, none⟩) (by simp) (.int .i64 k'.t)).other (p := ⟨w.heap.size, 1, none⟩) (by simp) (.int .u64 k'.n)).other (p := ⟨w.heap.size, 2, none⟩) (by simp) (sv k'.s)).fr hw3 (fun x => x)
         obtain ⟨r30, r31, r32⟩ := r3.frz3
         obtain ⟨r33, r34, r35⟩ := Has.cells3 (v := nilV) r3
         dsimp only [nilV] at r33 r34 r35
         have z3 := r3.lt
         have c0'' := f3.cell c0
         have v0' := f3.cell v0
         have v1' := f3.cell v1
         have v2' := f3.cell v2
         clear hw3 k2 r2 k20 k21 k22 k23 k24 k25 z2 c0'))
    refine bodyPost_ret (res_cell_tmp isVal rfl rfl (r3.put3 _ _ _) rfl) rfl ?_
    exact ⟨rfl, ((f3.setCell (p := ⟨w.heap.size + 1, 0, none⟩) (.inr (by simp)) _).setCell (p := ⟨w.heap.size + 1, 1, none⟩) (.inr (by simp)) _).setCell (p := ⟨w.heap.size + 1, 2, none⟩) (.inr (by simp)) _⟩
end
end Go.Proofs.Qxb6500574aGreatDoor
