/-
  THE WALK of table: places, every place of the list.
-/
import Derived.Test.Qxb6500574aGreatDoorVNext
namespace Go.Proofs.Qxb6500574aGreatDoor
open Go Go.RowKit
set_option linter.unusedVariables false
set_option linter.unusedSimpArgs false
open Go.Shelf

attribute [local go_sem] Oper.semAt_some

/-- the places p .. p + d - 1 -/
def allL (o : List (Vl × Vl)) (p : Nat) : Nat → List (Nat × (Vl × Vl))
  | 0 => []
  | d + 1 => allL o p d ++ [(p + d, o.getD (p + d) (nilV, nilV))]
theorem allL_succ (o : List (Vl × Vl)) (p d : Nat) : allL o p (d + 1) = allL o p d ++ [(p + d, o.getD (p + d) (nilV, nilV))] := rfl
theorem allL_len (o : List (Vl × Vl)) (p : Nat) : ∀ d, (allL o p d).length ≤ d
  | 0 => Nat.le_refl _
  | d + 1 => by rw [allL_succ, List.length_append]; have := allL_len o p d; simp; omega
/-- the blocks of S lie as they lay -/
structure KX (S : Nat → Prop) (w w' : World) : Prop where
  size : w.heap.size ≤ w'.heap.size
  block : ∀ k, S k → w'.heap[k]? = w.heap[k]?
theorem KX.refl (S : Nat → Prop) (w : World) : KX S w w := ⟨Nat.le_refl _, fun _ _ => rfl⟩
theorem KX.trans {S : Nat → Prop} {a b c : World} (h : KX S a b) (k : KX S b c) : KX S a c := ⟨Nat.le_trans h.size k.size, fun i hi => (k.block i hi).trans (h.block i hi)⟩
theorem KX.cell {S : Nat → Prop} {w w' : World} (h : KX S w w') {p : Addr} (hp : S p.block) : w'.cell? p = w.cell? p := by
  unfold World.cell?
  rw [h.block _ hp]
theorem KX.of_fr {S T : Nat → Prop} {w w' : World} (h : Fr T w w') (hs : ∀ k, S k → k < w.heap.size ∧ ¬ T k) : KX S w w' := ⟨h.size, fun k hk => h.block k (hs k hk).1 (hs k hk).2⟩
theorem KX.put {S : Nat → Prop} {n₀ : Nat} (hs : ∀ k, S k → k < n₀) (W : World) (l : Nat) (o o' : Obj) (hl : n₀ ≤ l) (hlo : W.heap[l]? = some o) (_ : o.isCells = false) (_ : o.isWalk = false) : KX S W (W.putObj l o') := by
  have b := grownBy_putObj' W l o'
  exact ⟨b.size, fun k hk => by
    have := hs k hk
    have hll : l < W.heap.size := (Array.getElem?_eq_some_iff.1 hlo).1
    exact b.block k (by omega) (fun e => by cases e; omega)⟩
theorem mem_getD {o : List (Vl × Vl)} {j : Nat} (hlt : j < o.length) {x : Vl × Vl} (he : o.getD j (nilV, nilV) = x) : x ∈ o := by
  rw [List.getD_eq_getElem?_getD, List.getElem?_eq_getElem hlt] at he
  rw [← he]
  exact List.getElem_mem hlt
section
variable {n : Nat}
set_option maxRecDepth 100000
set_option maxHeartbeats 1000000
/-- the closure of places: every place -/
theorem placesA_in (hn : 1 ≤ n) (l B1 B2 B3 n₀ g h : Nat) (p : Nat) (o : List (Vl × Vl)) (a : Option Addr) (cap : Nat) (ho : o.length ≤ 32) (hp : p ≤ 1000) (hh : h ≤ 1000) (S : Nat → Prop) (hS : ∀ k, S k → k < n₀) (hg : S g) (h1l : S B1) (h2l : S B2) (h3l : S B3) (J Jx : List (Nat × (Vl × Vl)) → World → Prop)
    (hY : ∀ pre x W, x.2 ∈ o → J pre W → pre.length < 33 → YieldAt Fence.wide (n - 1) Tryz.prog l #[.int .i64 (x.1 : Int), encE x.2] W fun e W' =>
      (e = .returned (.bool true) ∧ J (pre ++ [x]) W' ∧ KX S W W') ∨ (e = .returned (.bool false) ∧ Jx (pre ++ [x]) W'))
    (hAb : ∀ pre W W', J pre W → Fr (fun _ => False) W W' → J pre W')
    (W : World) (h1 : W.cell? ⟨B1, 0, none⟩ = some (.int .i64 p)) (h2 : W.cell? ⟨B2, 0, none⟩ = some (.pointer (some ⟨g, h * 6, none⟩))) (h3 : W.cell? ⟨B3, 0, none⟩ = some (.bool true))
    (hc : W.cell? ⟨g, h * 6, none⟩ = some (.slice a o.length cap)) (hW : n₀ ≤ W.heap.size) (hr : ∀ j, j < o.length → ∃ go, a = some ⟨go, 0, none⟩ ∧ S go ∧ ∀ d, d < 6 → W.cell? ⟨go, j * 6 + d, none⟩ = (eCells (o.getD j (nilV, nilV)))[d]?) (h0 : J [] W) :
    CallsIn Fence.wide n Tryz.prog 270 #[.func (.yield l) #[] #[], .pointer (some ⟨B1, 0, none⟩), .pointer (some ⟨B2, 0, none⟩), .pointer (some ⟨B3, 0, none⟩)] W fun e W' => (∃ v, e = .returned v) ∧
      ((∃ ys, ys = allL o p (o.length - p) ∧ J ys W') ∨ (∃ pre, (∃ d, pre = allL o p d ++ [(p + d, o.getD (p + d) (nilV, nilV))] ∧ p + d < o.length) ∧ Jx pre W')) := by
  refine callsIn_of_wp Tryz.func270 rfl trivial ?_ rfl
  simp only [Tryz.ntmps270, List.size_toArray, List.length_cons, List.length_nil, Nat.reduceAdd, Nat.reduceSub, Array.replicate_succ, Array.replicate_zero, List.push_toArray, List.append_toArray, List.nil_append, List.cons_append]
  gi_wp2
  gi_loopw [5, 6] (fun i t6 wr => ∃ d : Nat, p + d ≤ max p o.length ∧ i = .int .i64 ((p + d : Nat) : Int) ∧ J (allL o p d) wr ∧ KX S W wr)
    (fun i _ _ => 2000 - (intOf i).toNat)
  case atStart => exact ⟨0, by omega, rfl, h0, KX.refl _ _⟩
  case round =>
    obtain ⟨d, hd, rfl, hJs, hB⟩ := hrel
    have e1 : wr.cell? ⟨B2, 0, none⟩ = some (.pointer (some ⟨g, h * 6, none⟩)) := (hB.cell (p := ⟨B2, 0, none⟩) h2l).trans h2
    have e2 : wr.cell? ⟨B3, 0, none⟩ = some (.bool true) := (hB.cell (p := ⟨B3, 0, none⟩) h3l).trans h3
    have e3 : wr.cell? ⟨g, h * 6, none⟩ = some (.slice a o.length cap) := (hB.cell (p := ⟨g, h * 6, none⟩) hg).trans hc
    have hb2 : B2 < wr.heap.size := Nat.lt_of_lt_of_le (hS _ h2l) (Nat.le_trans hW hB.size)
    have hb3 : B3 < wr.heap.size := Nat.lt_of_lt_of_le (hS _ h3l) (Nat.le_trans hW hB.size)
    have hgl : g < wr.heap.size := Nat.lt_of_lt_of_le (hS _ hg) (Nat.le_trans hW hB.size)
    by_cases hlt : p + d < o.length
    · obtain ⟨go, ga, gl, gc⟩ := hr (p + d) hlt
      subst ga
      have hgol : go < wr.heap.size := Nat.lt_of_lt_of_le (hS _ gl) (Nat.le_trans hW hB.size)
      obtain ⟨⟨⟨kt, kn, ks⟩, ⟨vt, vn, vs⟩⟩, he⟩ : ∃ x, o.getD (p + d) (nilV, nilV) = x := ⟨_, rfl⟩
      have HJ : Hid (J (allL o p d) wr) := hJs
      have HB : Hid (KX S W wr) := hB
      rw [he] at gc
      have q0 := (hB.cell (p := ⟨go, (p + d) * 6 + 0, none⟩) gl).trans (gc 0 (by omega))
      have q1 := (hB.cell (p := ⟨go, (p + d) * 6 + 1, none⟩) gl).trans (gc 1 (by omega))
      have q2 := (hB.cell (p := ⟨go, (p + d) * 6 + 2, none⟩) gl).trans (gc 2 (by omega))
      have q3 := (hB.cell (p := ⟨go, (p + d) * 6 + 3, none⟩) gl).trans (gc 3 (by omega))
      have q4 := (hB.cell (p := ⟨go, (p + d) * 6 + 4, none⟩) gl).trans (gc 4 (by omega))
      have q5 := (hB.cell (p := ⟨go, (p + d) * 6 + 5, none⟩) gl).trans (gc 5 (by omega))
      simp only [eCells, vCells, List.cons_append, List.nil_append, List.getElem?_cons_succ, List.getElem?_cons_zero, Nat.add_zero] at q0 q1 q2 q3 q4 q5
      have HE : Hid (o.getD (p + d) (nilV, nilV) = (⟨kt, kn, ks⟩, ⟨vt, vn, vs⟩)) := he
      have HL : Hid (p + d < o.length) := hlt
      have HY : Hid (∀ W', J (allL o p d) W' → YieldAt Fence.wide (n - 1) Tryz.prog l #[.int .i64 ((p + d : Nat) : Int), .agg #[.int .i64 kt, .int .u64 kn, sv ks, .int .i64 vt, .int .u64 vn, sv vs]] W' fun e W2 =>
        (e = .returned (.bool true) ∧ J (allL o p d ++ [(p + d, (⟨kt, kn, ks⟩, ⟨vt, vn, vs⟩))]) W2 ∧ KX S W' W2) ∨ (e = .returned (.bool false) ∧ Jx (allL o p d ++ [(p + d, (⟨kt, kn, ks⟩, ⟨vt, vn, vs⟩))]) W2)) := fun W' hJ' => hY (allL o p d) (p + d, (⟨kt, kn, ks⟩, ⟨vt, vn, vs⟩)) W' (mem_getD hlt he) hJ' (by have := allL_len o p d; omega)
      have HAB : Hid (∀ W', Fr (fun _ => False) wr W' → J (allL o p d) W') := fun W' hf => hAb _ _ _ hJs hf
      have HSS : Hid (∀ k, S k → k < n₀) := hS
      have HSZ : Hid (n₀ ≤ wr.heap.size) := Nat.le_trans hW hB.size
      clear hJs hB gc hY hAb hr h1 h2 h3 hc he hW h2l h3l h1l h0
      have e5 : ((p + d : Nat) : Int).toNat = p + d := by omega
      obtain ⟨x, hx⟩ : ∃ x, p + d = x := ⟨_, rfl⟩
      have HX : Hid (p + d = x) := hx
      rw [hx] at q0 q1 q2 q3 q4 q5 HE HL hlt HY hd e5 ⊢
      clear hx
      have HF : Hid (Fr (fun _ => False) wr (wr.alloc (.cells #[.int .i64 kt, .int .u64 kn, sv ks, .int .i64 vt, .int .u64 vn, sv vs] 259))) := (Fr.refl _ wr).alloc _
      obtain ⟨fn, tmps, assign, body, hy, hR⟩ := HY.out (wr.alloc (.cells #[.int .i64 kt, .int .u64 kn, sv ks, .int .i64 vt, .int .u64 vn, sv vs] 259)) (HAB.out _ HF.out)
      gi_wp2
      refine ⟨trivial, ?_⟩
      gi_wp2
      refine hR.mono ?_
      rintro e' W3 (⟨rfl, hJ3, hk3⟩ | ⟨rfl, hJx3⟩)
      · have HJ3 : Hid (J (allL o p d ++ [(x, (⟨kt, kn, ks⟩, ⟨vt, vn, vs⟩))]) W3) := hJ3
        have HK3 : Hid (KX S (wr.alloc (.cells #[.int .i64 kt, .int .u64 kn, sv ks, .int .i64 vt, .int .u64 vn, sv vs] 259)) W3) := hk3
        clear hJ3 hk3
        gi_wp2
        go_roundw
        case rel => exact ⟨d + 1, by have := HL.out; have := HX.out; omega, by have := HX.out; congr 1; omega, by
          have e : allL o p (d + 1) = allL o p d ++ [(x, (⟨kt, kn, ks⟩, ⟨vt, vn, vs⟩))] := by
            rw [allL_succ, HX.out, HE.out]
          rw [e]
          exact HJ3.out, (HB.out.trans (KX.of_fr HF.out (fun k hk => ⟨Nat.lt_of_lt_of_le (HSS.out k hk) HSZ.out, fun x => x⟩))).trans HK3.out⟩
        case measure => have := HL.out; simp [intOf]; omega
      · have HJ3 : Hid (Jx (allL o p d ++ [(x, (⟨kt, kn, ks⟩, ⟨vt, vn, vs⟩))]) W3) := hJx3
        clear hJx3
        gi_wp2
        refine bodyPost_ret (results_none rfl _ _ _) rfl ?_
        exact ⟨⟨_, rfl⟩, .inr ⟨_, ⟨d, by rw [HX.out, HE.out], by rw [HX.out]; exact HL.out⟩, HJ3.out⟩⟩
    · have HJ : Hid (J (allL o p d) wr) := hJs
      have HD : Hid (p + d ≤ max p o.length ∧ ¬ p + d < o.length) := ⟨hd, hlt⟩
      clear hJs hB hY hAb hr h1 h2 h3 hc hW h2l h3l h1l h0
      gi_wp2
      go_end0
      have e : allL o p (o.length - p) = allL o p d := by
        have := HD.out
        by_cases hd0 : d = 0
        · subst hd0; rw [show o.length - p = 0 by omega]
        · rw [show o.length - p = d by omega]
      exact ⟨⟨_, rfl⟩, .inl ⟨_, e.symm, HJ.out⟩⟩
end
end Go.Proofs.Qxb6500574aGreatDoor
