/-
  THE WALK of table: Next.
-/
import Derived.Test.Qxb6500574aGreatDoorVPlaces
import Derived.Test.Qxb6500574aGreatDoorVUp
namespace Go.Proofs.Qxb6500574aGreatDoor
open Go Go.RowKit
set_option linter.unusedVariables false
set_option linter.unusedSimpArgs false
open Go.Shelf

attribute [local go_sem] Oper.semAt_some

theorem res_cell3 {fn : Func} {p q r : Tmp} {tmps : Array Value} {w : World} {b b2 b3 : Nat} {cs cs2 : Array Value} {x : Int} (h : fn.results = #[.cell p 68, .cell q 68, .cell r 52]) (hp : tmps.getD p undef = .pointer (some ⟨b, 0, none⟩)) (hb : Has w b cs 68) (hn : cs.size = 3) (hq : tmps.getD q undef = .pointer (some ⟨b2, 0, none⟩)) (hb2 : Has w b2 cs2 68) (hn2 : cs2.size = 3)
    (hr : tmps.getD r undef = .pointer (some ⟨b3, 0, none⟩)) (hb3 : Has w b3 #[.int .i64 x] 52) : (results fn tmps).run Tryz.prog w = .ok (.tuple #[.agg cs, .agg cs2, .int .i64 x]) w := by
  simp only [results, h]
  have hp' : tmps[p]?.getD undef = .pointer (some ⟨b, 0, none⟩) := by simpa using hp
  have hq' : tmps[q]?.getD undef = .pointer (some ⟨b2, 0, none⟩) := by simpa using hq
  have hr' : tmps[r]?.getD undef = .pointer (some ⟨b3, 0, none⟩) := by simpa using hr
  have c3 : w.cell? ⟨b3, 0, none⟩ = some (.int .i64 x) := by have := hb3.cell 0; simpa using this
  have l3 : (loadVar 52 ⟨b3, 0, none⟩).run Tryz.prog w = .ok (.int .i64 x) w := by simp [go_sem, c3]
  simp [Sem.run_bind, Result.andThen, hp', hq', hr', asAddr, isVal.load hb hn, isVal.load hb2 hn2, l3]
/-- Next's three results in their cells -/
structure NxI (w W : World) (r : Nat) (k v : Vl) (e : Int) : Prop where
  h6 : Has W r #[.int .i64 k.t, .int .u64 k.n, sv k.s] 68
  h7 : Has W (r + 1) #[.int .i64 v.t, .int .u64 v.n, sv v.s] 68
  h8 : Has W (r + 2) #[.int .i64 e] 52
  fr : Fr (fun _ => False) w W
theorem Fr.grown {w w' : World} (h : Fr (fun _ => False) w w') : w.grownBy w' none := ⟨h.os, h.tape, h.output, h.size, fun k hk _ => h.block k hk (fun x => x)⟩
theorem NxI.own {w W W' : World} {r : Nat} {k v : Vl} {e : Int} {row : Option Nat} {N : Nat} (h : NxI w W r k v e) (hg : W.grownBy W' row) (hr : ∀ r, row = some r → N ≤ r ∧ ∃ o : Obj, W.heap[r]? = some o ∧ o.isCells = false) (hN : w.heap.size ≤ N) : NxI w W' r k v e := by
  have hf := Fr.of_grown hg
  have nc : ∀ {b : Nat} {cs : Array Value} {T : TypeId}, Has W b cs T → ¬ (row = some b) := by
    intro b cs T hb e
    obtain ⟨_, o, ho, hc⟩ := hr b e
    have hb' : W.heap[b]? = some (.cells cs T (0, 0)) := hb
    rw [hb'] at ho
    cases ho
    cases hc
  exact ⟨h.h6.fr hf (nc h.h6), h.h7.fr hf (nc h.h7), h.h8.fr hf (nc h.h8), h.fr.trans hf (fun j hj e => by have := (hr j e).1; omega)⟩
/-- a world in which block b is known -/
structure WH (b : Nat) (cs : Array Value) (T : TypeId) where
  y : World
  h : Has y b cs T
theorem NxI.fresh {w W W' : World} {r : Nat} {k v : Vl} {e : Int} (h : NxI w W r k v e) (hf : Fr (fun _ => False) W W') : NxI w W' r k v e :=
  ⟨h.h6.fr hf (fun x => x), h.h7.fr hf (fun x => x), h.h8.fr hf (fun x => x), h.fr.trans hf (fun _ _ x => x)⟩
abbrev set7 (W : World) (r : Nat) (k' v' : Vl) (e' : Int) : World := ((((((W.setCell ⟨r, 0, none⟩ (.int .i64 k'.t)).setCell ⟨r, 1, none⟩ (.int .u64 k'.n)).setCell ⟨r, 2, none⟩ (sv k'.s)).setCell ⟨r + 1, 0, none⟩ (.int .i64 v'.t)).setCell ⟨r + 1, 1, none⟩ (.int .u64 v'.n)).setCell ⟨r + 1, 2, none⟩ (sv v'.s)).setCell ⟨r + 1 + 1, 0, none⟩ (.int .i64 e')
theorem set7_keeps (W : World) (r : Nat) (k' v' : Vl) (e' : Int) : KeepsOthers W (set7 W r k' v' e') :=
  (((((((KeepsOthers.setCell W ⟨r, 0, none⟩ _).trans (KeepsOthers.setCell _ ⟨r, 1, none⟩ _)).trans (KeepsOthers.setCell _ ⟨r, 2, none⟩ _)).trans (KeepsOthers.setCell _ ⟨r + 1, 0, none⟩ _)).trans (KeepsOthers.setCell _ ⟨r + 1, 1, none⟩ _)).trans (KeepsOthers.setCell _ ⟨r + 1, 2, none⟩ _)).trans (KeepsOthers.setCell _ ⟨r + 1 + 1, 0, none⟩ _))
theorem NxI.put {w W : World} {r : Nat} {k v : Vl} {e : Int} (h : NxI w W r k v e) {D : Nat} (hD : w.heap.size ≤ D) (hK : W.heap[D]? = some (.deferred (some []))) : NxI w (W.putObj D (.deferred none)) r k v e :=
  h.own (grownBy_putObj' _ D (.deferred none)) (fun r e => by cases e; exact ⟨hD, _, hK, rfl⟩) (Nat.le_refl _)
theorem NxI.set {w W : World} {r : Nat} {k v : Vl} {e : Int} (h : NxI w W r k v e) (hr : w.heap.size ≤ r) (k' v' : Vl) (e' : Int) :
    NxI w (set7 W r k' v' e') r k' v' e' := by
  have a6 := h.h6.put3 (.int .i64 k'.t) (.int .u64 k'.n) (sv k'.s)
  have a7 := ((h.h7.other (p := ⟨r, 0, none⟩) (by simp) (.int .i64 k'.t)).other (p := ⟨r, 1, none⟩) (by simp) (.int .u64 k'.n)).other (p := ⟨r, 2, none⟩) (by simp) (sv k'.s)
  have a8 := ((h.h8.other (p := ⟨r, 0, none⟩) (by simp) (.int .i64 k'.t)).other (p := ⟨r, 1, none⟩) (by simp) (.int .u64 k'.n)).other (p := ⟨r, 2, none⟩) (by simp) (sv k'.s)
  have b6 := ((a6.other (p := ⟨r + 1, 0, none⟩) (by simp) (.int .i64 v'.t)).other (p := ⟨r + 1, 1, none⟩) (by simp) (.int .u64 v'.n)).other (p := ⟨r + 1, 2, none⟩) (by simp) (sv v'.s)
  have b7 := a7.put3 (.int .i64 v'.t) (.int .u64 v'.n) (sv v'.s)
  have b8 := ((a8.other (p := ⟨r + 1, 0, none⟩) (by simp) (.int .i64 v'.t)).other (p := ⟨r + 1, 1, none⟩) (by simp) (.int .u64 v'.n)).other (p := ⟨r + 1, 2, none⟩) (by simp) (sv v'.s)
  refine ⟨b6.other (p := ⟨r + 2, 0, none⟩) (by simp) _, b7.other (p := ⟨r + 2, 0, none⟩) (by simp) _, ?_, ?_⟩
  · have := b8.put 0 (.int .i64 e')
    simpa using this
  · exact ((((((h.fr.setCell (p := ⟨r, 0, none⟩) (.inr hr) _).setCell (p := ⟨r, 1, none⟩) (.inr hr) _).setCell (p := ⟨r, 2, none⟩) (.inr hr) _).setCell (p := ⟨r + 1, 0, none⟩) (.inr (by simp; omega)) _).setCell (p := ⟨r + 1, 1, none⟩) (.inr (by simp; omega)) _).setCell (p := ⟨r + 1, 2, none⟩) (.inr (by simp; omega)) _).setCell (p := ⟨r + 2, 0, none⟩) (.inr (by simp; omega)) _
/-- places itself -/
theorem places_in {n : Nat} (g h : Nat) (p : Int) (w : World) : CallsIn Fence.wide n Tryz.prog 217 #[.pointer (some ⟨g, h * 6, none⟩), .int .i64 p, .bool false] w fun e w' => e = .returned (.func (.func 270) #[] #[.pointer (some ⟨w.heap.size + 1, 0, none⟩), .pointer (some ⟨w.heap.size, 0, none⟩), .pointer (some ⟨w.heap.size + 2, 0, none⟩)]) ∧ w' = ((w.alloc (.cells #[.pointer (some ⟨g, h * 6, none⟩)] 241)).alloc (.cells #[.int .i64 p] 3)).alloc (.cells #[.bool false] 4) := by
  refine callsIn_of_wp Tryz.func217 rfl trivial ?_ rfl
  simp only [Tryz.ntmps217, List.size_toArray, List.length_cons, List.length_nil, Nat.reduceAdd, Nat.reduceSub, Array.replicate_succ, Array.replicate_zero, List.push_toArray, List.append_toArray, List.nil_append, List.cons_append]
  gi_wp2
  go_ret
  exact ⟨rfl, rfl⟩
section
variable {w : World} {o : Nat → Nat} {bt bn n h g : Nat} {s : Sl} {xs : List (TabD × TbL)} {t : TabD} {l : TbL}
set_option maxRecDepth 100000
set_option maxHeartbeats 600000
def NextPost (r : Option (Vl × Vl)) (w : World) (e : Ending) (w' : World) : Prop :=
  (match r with | none => e = .returned (.tuple #[nilV.val, nilV.val, .int .i64 7]) | some kv => e = .returned (.tuple #[kv.1.val, kv.2.val, .int .i64 0])) ∧ Fr (fun _ => False) w w'
theorem next_nil (r : TabsRep w o bt bn s n xs) (hx : xs[h]? = some (t, l)) (hf : TFit t) (hn : h < n) (hn12 : n ≤ 12) :
    Calls Tryz.prog 307 #[.pointer (some ⟨bt, 0, none⟩), .int .i64 h, nilV.val] w (NextPost (some (t.nextP 0)) w) := by
  refine (callsIn_wide (n := 6)).1 ?_
  have n6 : 1 ≤ 6 := by omega
  obtain ⟨g, ga, gcap, _, gl, gc, gf⟩ := r.at hx
  have b0 := r.here.has.cell 0
  have b1 := r.here.has.cell 1
  have b2 := r.here.has.cell 2
  simp only [List.getElem?_toArray, List.getElem?_cons_zero, List.getElem?_cons_succ, Sl.v, ga] at b0 b1 b2
  have hbt := r.here.has.lt
  have hxl := (List.getElem?_eq_some_iff.1 hx).1
  have hx12 : n ≤ xs.length := r.le
  have hh1 : ¬ ((h : Int) < 0) := by omega
  have hh2 : ¬ ((n : Int) ≤ (h : Int)) := by omega
  have hW : ∀ W, Calls Tryz.prog 108 #[nilV.val] W fun e w' => e = .returned (.bool true) ∧ Fr (fun _ => False) W w' := fun W => well_any (w := W) nilV
  have HR : Hid (TabsRep w o bt bn s n xs) := r
  have HX : Hid (xs[h]? = some (t, l)) := hx
  have HF : Hid (TFit t) := hf
  obtain ⟨N, HN⟩ : ∃ N : Nat, Hid (xs.length = N) := ⟨_, rfl⟩
  rw [HN.out] at b1 gcap hxl hx12
  have HGC : Hid (∀ j, j < 6 → w.cell? ⟨g, h * 6 + j, none⟩ = (tbCells (t, l))[j]?) := gc
  have F4 : ∀ o1 o2 o3 o4 : Obj, Fr (fun _ => False) w ((((w.alloc o1).alloc o2).alloc o3).alloc o4) := fun o1 o2 o3 o4 => ((((Fr.refl _ w).alloc o1).alloc o2).alloc o3).alloc o4
  have b1' := fun o1 o2 o3 o4 => (F4 o1 o2 o3 o4).cell b1
  have b2' := fun o1 o2 o3 o4 => (F4 o1 o2 o3 o4).cell b2
  clear r hx hf gc F4
  refine callsIn_of_wp_marks Tryz.func307 rfl trivial ?_ rfl
  simp only [Tryz.ntmps307, List.size_toArray, List.length_cons, List.length_nil, Nat.reduceAdd, Nat.reduceSub, Array.replicate_succ, Array.replicate_zero, List.push_toArray, List.append_toArray, List.nil_append, List.cons_append, nilV]
  gi_wp2
  refine ⟨trivial, ?_⟩
  refine (callsIn_wide.2 (hW _)).mono ?_
  rintro e' w1 ⟨rfl, f1⟩
  have F1 : Fr (fun _ => False) w w1 := (((((Fr.refl _ w).alloc _).alloc _).alloc _).alloc _).trans f1 (fun _ _ x => x)
  have k5 : Has w1 w.heap.size #[.int .i64 0, .int .u64 0, sv []] 68 := ((((Has.new w _ _).alloc _).alloc _).alloc _).fr f1 (fun x => x)
  have k6 : Has w1 (w.heap.size + 1) #[.int .i64 0, .int .u64 0, sv []] 68 := (((Has.newC _ _ _ (by simp)).alloc _).alloc _).fr f1 (fun x => x)
  have k7 : Has w1 (w.heap.size + 1 + 1) #[.int .i64 0, .int .u64 0, sv []] 68 := ((Has.newC _ _ _ (by simp)).alloc _).fr f1 (fun x => x)
  have k8 : Has w1 (w.heap.size + 1 + 1 + 1) #[.int .i64 0] 52 := (Has.newC _ _ _ (by simp)).fr f1 (fun x => x)
  have HNX : Hid (NxI w w1 (w.heap.size + 1) nilV nilV 0) := ⟨k6, k7, k8, F1⟩
  have b11 := F1.cell b1
  have bl1 := Nat.lt_of_lt_of_le hbt F1.size
  have c5 := k5.cell 0
  simp at c5
  have HF1 : Hid (Fr (fun _ => False) w w1) := F1
  clear f1 F1 b1' b2' k6 k7 k8
  gi_wp2
  refine ⟨trivial, ?_⟩
  refine (places_in g h 0 w1).mono ?_
  rintro e' w2 ⟨rfl, hw2⟩
  have F2 : Fr (fun _ => False) w1 w2 := by rw [hw2]; exact (((Fr.refl _ w1).alloc _).alloc _).alloc _
  have j1 : Has w2 w1.heap.size #[.pointer (some ⟨g, h * 6, none⟩)] 241 := by rw [hw2]; exact ((Has.new w1 _ _).alloc _).alloc _
  have j2 : Has w2 (w1.heap.size + 1) #[.int .i64 0] 3 := by rw [hw2]; exact (Has.newC _ _ _ (by simp)).alloc _
  have j3 : Has w2 (w1.heap.size + 2) #[.bool false] 4 := by rw [hw2]; exact Has.newC _ _ _ (by simp)
  have FW := HF1.out.trans F2 (fun _ _ x => x)
  have HNX2 : Hid (NxI w w2 (w.heap.size + 1) nilV nilV 0) := ⟨HNX.out.h6.fr F2 (fun x => x), HNX.out.h7.fr F2 (fun x => x), HNX.out.h8.fr F2 (fun x => x), FW⟩
  have hsz1 := HF1.out.size
  have hsz2 := F2.size
  have hk8 := HNX.out.h8.lt
  have hj1' : w2.cell? ⟨w1.heap.size, 0, none⟩ = some (.pointer (some ⟨g, h * 6, none⟩)) := by have := j1.cell 0; simpa using this
  have HJ1 : Hid (w2.cell? ⟨w1.heap.size, 0, none⟩ = some (.pointer (some ⟨g, h * 6, none⟩))) := hj1'
  have hj2' : w2.cell? ⟨w1.heap.size + 1, 0, none⟩ = some (.int .i64 0) := by have := j2.cell 0; simpa using this
  have HJ2 : Hid (w2.cell? ⟨w1.heap.size + 1, 0, none⟩ = some (.int .i64 0)) := hj2'
  have hj3' : w2.cell? ⟨w1.heap.size + 2, 0, none⟩ = some (.bool false) := by have := j3.cell 0; simpa using this
  have HJ3 : Hid (w2.cell? ⟨w1.heap.size + 2, 0, none⟩ = some (.bool false)) := hj3'
  have hj3 := j3.lt
  have HCC : Hid (w2.cell? ⟨g, h * 6, none⟩ = some (.slice l.ord.a t.order.length l.ord.c)) := by
    have c0 := HGC.out 0 (by omega)
    simp only [tbCells, List.getElem?_cons_zero, Sl.v, Nat.add_zero] at c0
    exact FW.cell c0
  have HROW : Hid (∀ j, j < t.order.length → ∃ go, l.ord.a = some ⟨go, 0, none⟩ ∧ go < w2.heap.size ∧ ∀ d, d < 6 → w2.cell? ⟨go, j * 6 + d, none⟩ = (eCells (t.order.getD j (nilV, nilV)))[d]?) := by
    intro j hj
    obtain ⟨go, q1, q2, q3, q4, q5, q6⟩ := ((HR.out.one h _ HX.out).ord).at eCells_len (show (t, l).1.order[j]? = some t.order[j] by simp)
    refine ⟨go, q1, by omega, fun d hd => ?_⟩
    have h5 := q5 d hd
    rw [show t.order.getD j (nilV, nilV) = t.order[j] by simp [hj]]
    obtain ⟨v, hv⟩ : ∃ v, (eCells t.order[j])[d]? = some v := ⟨(eCells t.order[j])[d]'(by rw [eCells_len]; exact hd), by simp⟩
    rw [hv] at h5 ⊢
    exact FW.cell h5
  have hol := HF.out.ol
  have HFW : Hid (Fr (fun _ => False) w w2) := FW
  clear hw2 F2 j1 j2 j3 hj1' hj2' hj3' FW HNX b11 bl1 k5 c5 b0 b1 b2 hW gf ga
  gi_wp2
  generalize ha : ({ tmps := _, defers := [] } : Act) = a0
  refine wpIn_rangeFunc_ownH rfl (by omega) (gf := 270) (lb := #[.pointer (some ⟨w1.heap.size + 1, 0, none⟩), .pointer (some ⟨w1.heap.size, 0, none⟩), .pointer (some ⟨w1.heap.size + 2, 0, none⟩)]) (by rw [← ha]; rfl) trivial (enters_of Tryz.func270 (by kernel_rfl) rfl)
    (encs := fun x : Nat × (Vl × Vl) => #[.int .i64 (x.1 : Int), encE x.2]) (Kp := Below w2.heap.size) (S := fun ys => ys = liveL t.order 0 (t.order.length - 0)) (Sp := fun pre => ∃ d, pre = liveL t.order 0 d ++ [(0 + d, t.order.getD (0 + d) (nilV, nilV))] ∧ 0 + d < t.order.length ∧ isNilV (t.order.getD (0 + d) (nilV, nilV)).2 = false) (N := 33) (w0 := w2)
    (fun l' J Jx W hW hJ hJx hY h0 => places1_in (by omega) l' (w1.heap.size + 1) w1.heap.size (w1.heap.size + 2) w2.heap.size g h 0 t.order l.ord.a l.ord.c hol (by omega) (by omega) (by omega) (by omega) (by omega) (by omega) J Jx hY
      (fun pre A B hA hAB => hJ pre A B none hA (Fr.grown hAB) (fun r e => by cases e)) W ((hW.cell (p := ⟨w1.heap.size + 1, 0, none⟩) (by simp; omega)).trans HJ2.out) ((hW.cell (p := ⟨w1.heap.size, 0, none⟩) (by simp; omega)).trans HJ1.out) ((hW.cell (p := ⟨w1.heap.size + 2, 0, none⟩) (by simp; omega)).trans HJ3.out) ((hW.cell (p := ⟨g, h * 6, none⟩) (by simp; omega)).trans HCC.out) hW.size
      (fun j hj => by obtain ⟨go, q1, q2, q3⟩ := HROW.out j hj; exact ⟨go, q1, q2, fun d hd => (hW.cell (p := ⟨go, j * 6 + d, none⟩) q2).trans (q3 d hd)⟩) h0)
    belowK_t (belowK_b (Nat.le_refl _)) (Below.refl _ _) (fun _ => rfl)
    (fun pre W => pre = [] ∧ NxI w W (w.heap.size + 1) nilV nilV 0 ∧ w2.heap.size ≤ W.heap.size)
    (fun c pre W => c = .ret ∧ ∃ x : Nat × (Vl × Vl), pre = [x] ∧ NxI w W (w.heap.size + 1) x.2.1 x.2.2 0)
    (fun s A B row hs hg hr => ⟨hs.1, hs.2.1.own hg hr (by omega), Nat.le_trans hs.2.2 hg.size⟩)
    (fun c s A B row hs hg hr => by obtain ⟨h1, x, h2, h3⟩ := hs; exact ⟨h1, x, h2, h3.own hg hr (by omega)⟩)
    ⟨rfl, HNX2.out, Nat.le_refl _⟩
    (fun x a' W => ∃ Bx, w.heap.size + 3 < Bx ∧ Has W Bx #[.int .i64 x.2.1.t, .int .u64 x.2.1.n, sv x.2.1.s, .int .i64 x.2.2.t, .int .u64 x.2.2.n, sv x.2.2.s] 259 ∧ a' = { tmps := ((a0.tmps.setIfInBounds 59 (.int .i64 (x.1 : Int))).setIfInBounds 60 (encE x.2)).setIfInBounds 14 (.pointer (some ⟨Bx, 0, none⟩)), defers := [] })
    (fun x a' _ X Y row hs hg hr => by
      obtain ⟨Bx, h1, h2, h3⟩ := hs
      refine ⟨Bx, h1, h2.fr (Fr.of_grown hg) (fun e => ?_), h3⟩
      obtain ⟨_, o, ho, hc⟩ := hr Bx e
      have hb' : X.heap[Bx]? = some (.cells _ _ (0, 0)) := h2
      rw [hb'] at ho
      cases ho
      cases hc)
    ?assign ?body ?done ?stop
  case assign =>
    rintro l' pre ⟨x1, ⟨⟨kt, kn, ks⟩, ⟨vt, vn, vs⟩⟩⟩ W K ⟨rfl, hI, hsz⟩ hK
    have hsW := hI.fr.size
    have h8l := hI.h8.lt
    have HK : Hid (∀ (a' : Act) (W' : World), _) := hK
    have HA : Hid (_ = a0) := ha
    rw [← ha]
    clear hK ha
    dsimp only [encE]
    gi_wp2
    exact HK.out _ _ ((KeepsOthers.alloc _ _).from _) ((Below.refl _ W).alloc hsz _) ⟨trivial, hI.fresh ((Fr.refl _ W).alloc _), by simp; omega⟩ ⟨W.heap.size, by omega, Has.new W _ _, by rw [← HA.out]; rfl⟩
  case body =>
    rintro l' pre ⟨x1, ⟨⟨kt, kn, ks⟩, ⟨vt, vn, vs⟩⟩⟩ a' W hl ⟨r, hr⟩ ⟨rfl, hI, hsz⟩ ⟨Bx, hBx, bX, rfl⟩ hlt
    rw [← ha]
    simp only [encE, List.setIfInBounds_toArray, List.set_cons_succ, List.set_cons_zero]
    have HI2 : Hid (NxI w W (w.heap.size + 1) nilV nilV 0) := hI
    have HBX : Hid (Has W Bx #[.int .i64 kt, .int .u64 kn, sv ks, .int .i64 vt, .int .u64 vn, sv vs] 259) := bX
    clear hI bX ha hr r hlt
    refine wpIn_block ?_
    refine wpIn_seq ?_
    refine wpIn_region_any (by kernel_rfl) (anyIn_of_any (fun ⟨_, _, x⟩ => x) (by kernel_rfl) _ _ _ _ (wpAny_plan [0, 1, 2, 3] .done 4 (fun x => ∃ s : WH Bx #[.int .i64 kt, .int .u64 kn, sv ks, .int .i64 vt, .int .u64 vn, sv vs] 259, x = s.y) (by kernel_rfl) (fun _ _ _ _ _ h => h) ⟨⟨W.drew, HBX.out.drew⟩, rfl⟩ [_, _, _, _] rfl _ rfl ?_))
    have c0 : ∀ s : WH Bx #[.int .i64 kt, .int .u64 kn, sv ks, .int .i64 vt, .int .u64 vn, sv vs] 259, s.y.cell? ⟨Bx, 0, none⟩ = some (.int .i64 kt) := fun s => by have := s.h.cell 0; simpa using this
    have c1 : ∀ s : WH Bx #[.int .i64 kt, .int .u64 kn, sv ks, .int .i64 vt, .int .u64 vn, sv vs] 259, s.y.cell? ⟨Bx, 1, none⟩ = some (.int .u64 kn) := fun s => by have := s.h.cell 1; simpa using this
    have c2 : ∀ s : WH Bx #[.int .i64 kt, .int .u64 kn, sv ks, .int .i64 vt, .int .u64 vn, sv vs] 259, s.y.cell? ⟨Bx, 2, none⟩ = some (sv ks) := fun s => by have := s.h.cell 2; simpa using this
    have c3 : ∀ s : WH Bx #[.int .i64 kt, .int .u64 kn, sv ks, .int .i64 vt, .int .u64 vn, sv vs] 259, s.y.cell? ⟨Bx, 3, none⟩ = some (.int .i64 vt) := fun s => by have := s.h.cell 3; simpa using this
    have c4 : ∀ s : WH Bx #[.int .i64 kt, .int .u64 kn, sv ks, .int .i64 vt, .int .u64 vn, sv vs] 259, s.y.cell? ⟨Bx, 4, none⟩ = some (.int .u64 vn) := fun s => by have := s.h.cell 4; simpa using this
    have c5 : ∀ s : WH Bx #[.int .i64 kt, .int .u64 kn, sv ks, .int .i64 vt, .int .u64 vn, sv vs] 259, s.y.cell? ⟨Bx, 5, none⟩ = some (sv vs) := fun s => by have := s.h.cell 5; simpa using this
    have hne : Nonempty (WH Bx #[.int .i64 kt, .int .u64 kn, sv ks, .int .i64 vt, .int .u64 vn, sv vs] 259) := ⟨⟨W, HBX.out⟩⟩
    simp only [List.getElem_toArray, List.getElem_cons_succ, List.getElem_cons_zero, List.drop_succ_cons, List.drop_zero, List.length_cons, List.length_nil, Nat.zero_add]
    repeat go_big_quiet_step (fail)
    refine wpQuiet_nil ?_
    have HN2 : Hid (NxI w W.drew (w.heap.size + 1) nilV nilV 0) := HI2.out.fresh ((Fr.refl _ W).drew)
    have HB2 : Hid (Has W.drew Bx #[.int .i64 kt, .int .u64 kn, sv ks, .int .i64 vt, .int .u64 vn, sv vs] 259) := HBX.out.drew
    have HKO : Hid (KeepsOthers W W.drew) := KeepsOthers.drew _
    clear c0 c1 c2 c3 c4 c5 hne
    show ∃ G1 : Act → Act → World → Prop, (∀ (a : Act) (w : World), _ → G1 _ a w → wpChain _ _ _ _ _ _ a w) ∧ ∀ (G : Act → World → Prop), Hid (G = G1 _) → Plan.wp _ _ _ _ G Plan.done _ W.drew
    refine ⟨fun a' a Wz => a = a' ∧ Wz = W.drew, ?_, ?_⟩
    · rintro a Wz _ ⟨rfl, rfl⟩
      obtain ⟨Wd, HWd⟩ : ∃ Wd, Hid (W.drew = Wd) := ⟨_, rfl⟩
      rw [HWd.out] at HN2 HB2 HKO ⊢
      have hI := HN2.out
      obtain ⟨d0, d1, d2⟩ := Has.cells3 (v := nilV) hI.h6
      obtain ⟨d3, d4, d5⟩ := hI.h6.frz3
      obtain ⟨g0, g1, g2⟩ := Has.cells3 (v := nilV) hI.h7
      obtain ⟨g3, g4, g5⟩ := hI.h7.frz3
      have i0 := hI.h8.cell 0
      have i1 := hI.h8.frozen 0
      simp at i0
      dsimp only [nilV] at d0 d1 d2 g0 g1 g2
      have l6 := hI.h6.lt
      have l7 := hI.h7.lt
      have l8 := hI.h8.lt
      clear hI
      rw [show w.heap.size + 1 + 2 = w.heap.size + 1 + 1 + 1 from rfl] at i0 i1 l8
      unfold wpChain
      go_wp2
      refine ⟨⟨⟨_, ((HB2.out.other (p := ⟨w.heap.size + 1, 0, none⟩) (by simp; omega) _).other (p := ⟨w.heap.size + 1, 1, none⟩) (by simp; omega) _).other (p := ⟨w.heap.size + 1, 2, none⟩) (by simp; omega) _⟩, rfl⟩, ?_⟩
      unfold wpChain
      go_wp2
      refine ⟨⟨⟨_, (((((HB2.out.other (p := ⟨w.heap.size + 1, 0, none⟩) (by simp; omega) _).other (p := ⟨w.heap.size + 1, 1, none⟩) (by simp; omega) _).other (p := ⟨w.heap.size + 1, 2, none⟩) (by simp; omega) _).other (p := ⟨w.heap.size + 1 + 1, 0, none⟩) (by simp; omega) _).other (p := ⟨w.heap.size + 1 + 1, 1, none⟩) (by simp; omega) _).other (p := ⟨w.heap.size + 1 + 1, 2, none⟩) (by simp; omega) _⟩, rfl⟩, ?_⟩
      unfold wpChain
      go_wp2
      refine ⟨⟨⟨_, ((((((HB2.out.other (p := ⟨w.heap.size + 1, 0, none⟩) (by simp; omega) _).other (p := ⟨w.heap.size + 1, 1, none⟩) (by simp; omega) _).other (p := ⟨w.heap.size + 1, 2, none⟩) (by simp; omega) _).other (p := ⟨w.heap.size + 1 + 1, 0, none⟩) (by simp; omega) _).other (p := ⟨w.heap.size + 1 + 1, 1, none⟩) (by simp; omega) _).other (p := ⟨w.heap.size + 1 + 1, 2, none⟩) (by simp; omega) _).other (p := ⟨w.heap.size + 1 + 1 + 1, 0, none⟩) (by simp; omega) _⟩, rfl⟩, ?_⟩
      rw [wpChain_zero]
      have FIN : KeepsFrom w2.heap.size W (set7 Wd (w.heap.size + 1) ⟨kt, kn, ks⟩ ⟨vt, vn, vs⟩ 0) ∧ NxI w (set7 Wd (w.heap.size + 1) ⟨kt, kn, ks⟩ ⟨vt, vn, vs⟩ 0) (w.heap.size + 1) ⟨kt, kn, ks⟩ ⟨vt, vn, vs⟩ 0 := ⟨(HKO.out.trans (set7_keeps _ _ _ _ _)).from _, HN2.out.set (by omega) _ _ _⟩
      have HFIN : Hid (_ ∧ _) := FIN
      clear FIN
      unfold wpList
      refine wpIn_ret ?_
      exact ⟨HFIN.out.1, rfl, _, rfl, HFIN.out.2⟩
    · rintro G HG
      show G _ _
      rw [HG.out]
      exact ⟨rfl, rfl⟩
  case done =>
    rintro D ys W hD rfl ⟨hy0, hI, hsz⟩ hK
    have HIW : Hid (NxI w W (w.heap.size + 1) nilV nilV 0) := hI
    have HKW : Hid (W.heap[D]? = some (.deferred (some []))) := hK
    have HY0 : Hid (liveL t.order 0 (t.order.length - 0) = []) := hy0
    obtain ⟨d0, d1, d2⟩ := Has.cells3 (v := nilV) hI.h6
    obtain ⟨d3, d4, d5⟩ := hI.h6.frz3
    obtain ⟨g0, g1, g2⟩ := Has.cells3 (v := nilV) hI.h7
    obtain ⟨g3, g4, g5⟩ := hI.h7.frz3
    have i0 := hI.h8.cell 0
    have i1 := hI.h8.frozen 0
    simp at i0
    dsimp only [nilV] at d0 d1 d2 g0 g1 g2
    have l6 := hI.h6.lt
    have l7 := hI.h7.lt
    have l8 := hI.h8.lt
    rw [show w.heap.size + 1 + 2 = w.heap.size + 1 + 1 + 1 from rfl] at i0 i1 l8
    rw [← ha]
    clear hI hK hy0 ha
    gi_wp2
    have hK' := (set7_keeps W (w.heap.size + 1) nilV nilV 0).same D _ HKW.out rfl
    refine ⟨by simp, .inl ⟨_, _, rfl, run_takeDeferred hK', ?_⟩⟩
    have hN := (HIW.out.set (by omega) nilV nilV 0).put (by omega) hK'
    have e : t.nextP 0 = (nilV, nilV) := nextP_none HY0.out
    refine ⟨_, res_cell3 rfl rfl hN.h6 rfl rfl hN.h7 rfl rfl hN.h8, ?_⟩
    rw [e]
    exact ⟨rfl, hN.fr⟩
  case stop =>
    rintro D c pre W hD ⟨d, hd1, hd2, hd3⟩ ⟨rfl, x, rfl, hI⟩ hK
    rw [← ha]
    clear ha
    gi_wp2
    refine ⟨by simp, .inl ⟨_, _, rfl, run_takeDeferred hK, ?_⟩⟩
    have hN := hI.put (by omega) hK
    have e : t.nextP 0 = x.2 := by
      have hl : liveL t.order 0 d = [] := by
        cases hc : liveL t.order 0 d with
        | nil => rfl
        | cons y ys => rw [hc] at hd1; simp at hd1
      rw [hl] at hd1
      have hx : x = (0 + d, t.order.getD (0 + d) (nilV, nilV)) := List.head_eq_of_cons_eq hd1
      rw [hx]
      exact nextP_some hl hd2 hd3
    refine ⟨_, res_cell3 rfl rfl hN.h6 rfl rfl hN.h7 rfl rfl hN.h8, ?_⟩
    rw [e]
    exact ⟨rfl, hN.fr⟩
theorem next_k (r : TabsRep w o bt bn s n xs) (hx : xs[h]? = some (t, l)) (hf : TFit t) (hn : h < n) (hn12 : n ≤ 12) (k : Vl) (hk : wellV k = true) (hkn : k.t = 2 → k.n < 18446744073709551616) (hk0 : k.t ≠ 0) :
    Calls Tryz.prog 307 #[.pointer (some ⟨bt, 0, none⟩), .int .i64 h, k.val] w (NextPost (t.next k) w) := by
  obtain ⟨Qp, HQP⟩ : ∃ Qp, Hid (NextPost (t.next k) w = Qp) := ⟨_, rfl⟩
  rw [HQP.out]
  refine (callsIn_wide (n := 6)).1 ?_
  have n6 : 1 ≤ 6 := by omega
  obtain ⟨g, ga, gcap, _, gl, gc, gf⟩ := r.at hx
  have b0 := r.here.has.cell 0
  have b1 := r.here.has.cell 1
  have b2 := r.here.has.cell 2
  simp only [List.getElem?_toArray, List.getElem?_cons_zero, List.getElem?_cons_succ, Sl.v, ga] at b0 b1 b2
  have hbt := r.here.has.lt
  have hxl := (List.getElem?_eq_some_iff.1 hx).1
  have hx12 : n ≤ xs.length := r.le
  have hh1 : ¬ ((h : Int) < 0) := by omega
  have hh2 : ¬ ((n : Int) ≤ (h : Int)) := by omega
  have hb := well_bounds hk hkn
  have hW : ∀ W, Calls Tryz.prog 108 #[.agg #[.int .i64 k.t, .int .u64 k.n, sv k.s]] W fun e w' => e = .returned (.bool true) ∧ Fr (fun _ => False) W w' := fun W => by have := well_any (w := W) k; rw [hk] at this; exact this
  have hO : ∀ W, Fr (fun _ => False) w W → Calls Tryz.prog 135 #[.pointer (some ⟨bt, 0, none⟩), .agg #[.int .i64 k.t, .int .u64 k.n, sv k.s]] W fun e w' => e = .returned (oneRes k) ∧ Fr (fun _ => False) W w' := fun W hW => one_any (hW.cell b0) (Nat.lt_of_lt_of_le hbt hW.size) k
  have hk' : 0 ≤ (oneV k).1.t ∧ (oneV k).1.t ≤ 7 ∧ (oneV k).1.n < 18446744073709551616 := ⟨by rw [oneV_t]; exact hb.1, by rw [oneV_t]; exact hb.2.1, Nat.lt_of_le_of_lt (oneV_n k) hb.2.2⟩
  have hFi : ∀ W, Fr (fun _ => False) w W → Calls Tryz.prog 136 #[.pointer (some ⟨g, h * 6, none⟩), (oneV k).1.val, .int .i64 (oneV k).2] W fun e w' => e = .returned (.int .i64 (findI (t.find (oneV k).1 (oneV k).2))) ∧ Fr (fun _ => False) W w' := fun W hW => find_any (r.st (Stp.fresh (fun _ => False) o hW) (fun _ _ x => x)) hx ga hf (oneV k).1 hk' (oneV k).2
  have HFP : Hid (∀ p, t.find (oneV k).1 (oneV k).2 = some p → p < t.order.length) := fun p hp => hf.find hp
  have hnx : t.next k = match t.find (oneV k).1 (oneV k).2 with | none => none | some p => some (t.nextP (p + 1)) := by
    unfold TabD.next
    rw [hk, if_neg (by simp), if_neg hk0]
    rfl
  have HNXT : Hid (t.next k = match t.find (oneV k).1 (oneV k).2 with | none => none | some p => some (t.nextP (p + 1))) := hnx
  unfold oneRes at hO
  generalize (oneV k).1 = k', (oneV k).2 = i' at hO hFi HFP HNXT
  have hkt : k.t ≠ 0 := hk0
  clear hk' hb hk hkn hnx
  have HR : Hid (TabsRep w o bt bn s n xs) := r
  have HX : Hid (xs[h]? = some (t, l)) := hx
  have HF : Hid (TFit t) := hf
  obtain ⟨N, HN⟩ : ∃ N : Nat, Hid (xs.length = N) := ⟨_, rfl⟩
  rw [HN.out] at b1 gcap hxl hx12
  have HGC : Hid (∀ j, j < 6 → w.cell? ⟨g, h * 6 + j, none⟩ = (tbCells (t, l))[j]?) := gc
  have F4 : ∀ o1 o2 o3 o4 : Obj, Fr (fun _ => False) w ((((w.alloc o1).alloc o2).alloc o3).alloc o4) := fun o1 o2 o3 o4 => ((((Fr.refl _ w).alloc o1).alloc o2).alloc o3).alloc o4
  have b1' := fun o1 o2 o3 o4 => (F4 o1 o2 o3 o4).cell b1
  have b2' := fun o1 o2 o3 o4 => (F4 o1 o2 o3 o4).cell b2
  clear r hx hf gc F4 hk0
  refine callsIn_of_wp_marks Tryz.func307 rfl trivial ?_ rfl
  simp only [Tryz.ntmps307, List.size_toArray, List.length_cons, List.length_nil, Nat.reduceAdd, Nat.reduceSub, Array.replicate_succ, Array.replicate_zero, List.push_toArray, List.append_toArray, List.nil_append, List.cons_append]
  gi_wp2
  refine ⟨trivial, ?_⟩
  refine (callsIn_wide.2 (hW _)).mono ?_
  rintro e' w1 ⟨rfl, f1⟩
  have F1 : Fr (fun _ => False) w w1 := (((((Fr.refl _ w).alloc _).alloc _).alloc _).alloc _).trans f1 (fun _ _ x => x)
  have k5 : Has w1 w.heap.size #[.int .i64 k.t, .int .u64 k.n, sv k.s] 68 := ((((Has.new w _ _).alloc _).alloc _).alloc _).fr f1 (fun x => x)
  have k6 : Has w1 (w.heap.size + 1) #[.int .i64 0, .int .u64 0, sv []] 68 := (((Has.newC _ _ _ (by simp)).alloc _).alloc _).fr f1 (fun x => x)
  have k7 : Has w1 (w.heap.size + 1 + 1) #[.int .i64 0, .int .u64 0, sv []] 68 := ((Has.newC _ _ _ (by simp)).alloc _).fr f1 (fun x => x)
  have k8 : Has w1 (w.heap.size + 1 + 1 + 1) #[.int .i64 0] 52 := (Has.newC _ _ _ (by simp)).fr f1 (fun x => x)
  have HNX : Hid (NxI w w1 (w.heap.size + 1) nilV nilV 0) := ⟨k6, k7, k8, F1⟩
  have b11 := F1.cell b1
  have bl1 := Nat.lt_of_lt_of_le hbt F1.size
  obtain ⟨k50, k51, k52⟩ := k5.cells3
  have kl5 := k5.lt
  have HF1 : Hid (Fr (fun _ => False) w w1) := F1
  clear f1 F1 b1' b2' k6 k7 k8
  gi_wp2
  refine ⟨trivial, ?_⟩
  refine (callsIn_wide.2 (hO _ HF1.out)).mono ?_
  rintro e' w3 ⟨rfl, f3⟩
  have HF3 : Hid (Fr (fun _ => False) w w3) := HF1.out.trans f3 (fun _ _ x => x)
  have HNX3 : Hid (NxI w w3 (w.heap.size + 1) nilV nilV 0) := HNX.out.fresh f3
  clear f3 k50 k51 k52 kl5 k5
  gi_wp2
  refine ⟨trivial, ?_⟩
  refine (callsIn_wide.2 (hFi _ (HF3.out.alloc _))).mono ?_
  rintro e' w4 ⟨rfl, f4⟩
  have HF4 : Hid (Fr (fun _ => False) w w4) := (HF3.out.alloc _).trans f4 (fun _ _ x => x)
  have HNX4 : Hid (NxI w w4 (w.heap.size + 1) nilV nilV 0) := (HNX3.out.fresh ((Fr.refl _ _).alloc _)).fresh f4
  clear f4 HNX HF1 HF3 HNX3 hO hFi hW b11 bl1
  cases hq : t.find k' i' with
  | none =>
    have HN1 : Hid (t.next k = none) := by
      show _ = _
      rw [HNXT.out, hq]
    simp only [findI]
    obtain ⟨d0, d1, d2⟩ := Has.cells3 (v := nilV) HNX4.out.h6
    obtain ⟨d3, d4, d5⟩ := HNX4.out.h6.frz3
    obtain ⟨g0, g1, g2⟩ := Has.cells3 (v := nilV) HNX4.out.h7
    obtain ⟨g3, g4, g5⟩ := HNX4.out.h7.frz3
    have i0 := HNX4.out.h8.cell 0
    have i1 := HNX4.out.h8.frozen 0
    simp at i0
    dsimp only [nilV] at d0 d1 d2 g0 g1 g2
    have l6 := HNX4.out.h6.lt
    have l7 := HNX4.out.h7.lt
    have l8 := HNX4.out.h8.lt
    rw [show w.heap.size + 1 + 2 = w.heap.size + 1 + 1 + 1 from rfl] at i0 i1 l8
    clear hq HNXT HFP
    gi_wp2
    have hN := HNX4.out.set (by omega) nilV nilV 7
    refine ⟨_, res_cell3 rfl rfl hN.h6 rfl rfl hN.h7 rfl rfl hN.h8, ?_⟩
    rw [← HQP.out, HN1.out]
    exact ⟨rfl, hN.fr⟩
  | some p =>
    have HN1 : Hid (t.next k = some (t.nextP (p + 1))) := by
      show _ = _
      rw [HNXT.out, hq]
    have hpl := HFP.out p hq
    have hol0 := HF.out.ol
    simp only [findI]
    obtain ⟨w1, HW1⟩ : ∃ w1, Hid (w4 = w1) := ⟨_, rfl⟩
    have HF1 : Hid (Fr (fun _ => False) w w1) := by rw [← HW1.out]; exact HF4.out
    have HNX : Hid (NxI w w1 (w.heap.size + 1) nilV nilV 0) := by rw [← HW1.out]; exact HNX4.out
    rw [HW1.out]
    clear hq HNXT HFP HF4 HNX4 HW1
    gi_wp2
    refine ⟨trivial, ?_⟩
    refine (places_in g h ((p : Int) + 1) w1).mono ?_
    rintro e' w2 ⟨rfl, hw2⟩
    have F2 : Fr (fun _ => False) w1 w2 := by rw [hw2]; exact (((Fr.refl _ w1).alloc _).alloc _).alloc _
    have j1 : Has w2 w1.heap.size #[.pointer (some ⟨g, h * 6, none⟩)] 241 := by rw [hw2]; exact ((Has.new w1 _ _).alloc _).alloc _
    have j2 : Has w2 (w1.heap.size + 1) #[.int .i64 ((p : Int) + 1)] 3 := by rw [hw2]; exact (Has.newC _ _ _ (by simp)).alloc _
    have j3 : Has w2 (w1.heap.size + 2) #[.bool false] 4 := by rw [hw2]; exact Has.newC _ _ _ (by simp)
    have FW := HF1.out.trans F2 (fun _ _ x => x)
    have HNX2 : Hid (NxI w w2 (w.heap.size + 1) nilV nilV 0) := ⟨HNX.out.h6.fr F2 (fun x => x), HNX.out.h7.fr F2 (fun x => x), HNX.out.h8.fr F2 (fun x => x), FW⟩
    have hsz1 := HF1.out.size
    have hsz2 := F2.size
    have hk8 := HNX.out.h8.lt
    have hj1' : w2.cell? ⟨w1.heap.size, 0, none⟩ = some (.pointer (some ⟨g, h * 6, none⟩)) := by have := j1.cell 0; simpa using this
    have HJ1 : Hid (w2.cell? ⟨w1.heap.size, 0, none⟩ = some (.pointer (some ⟨g, h * 6, none⟩))) := hj1'
    have hj2' : w2.cell? ⟨w1.heap.size + 1, 0, none⟩ = some (.int .i64 ((p : Int) + 1)) := by have := j2.cell 0; simpa using this
    have HJ2 : Hid (w2.cell? ⟨w1.heap.size + 1, 0, none⟩ = some (.int .i64 ((p : Int) + 1))) := hj2'
    have hj3' : w2.cell? ⟨w1.heap.size + 2, 0, none⟩ = some (.bool false) := by have := j3.cell 0; simpa using this
    have HJ3 : Hid (w2.cell? ⟨w1.heap.size + 2, 0, none⟩ = some (.bool false)) := hj3'
    have hj3 := j3.lt
    have HCC : Hid (w2.cell? ⟨g, h * 6, none⟩ = some (.slice l.ord.a t.order.length l.ord.c)) := by
      have c0 := HGC.out 0 (by omega)
      simp only [tbCells, List.getElem?_cons_zero, Sl.v, Nat.add_zero] at c0
      exact FW.cell c0
    have HROW : Hid (∀ j, j < t.order.length → ∃ go, l.ord.a = some ⟨go, 0, none⟩ ∧ go < w2.heap.size ∧ ∀ d, d < 6 → w2.cell? ⟨go, j * 6 + d, none⟩ = (eCells (t.order.getD j (nilV, nilV)))[d]?) := by
      intro j hj
      obtain ⟨go, q1, q2, q3, q4, q5, q6⟩ := ((HR.out.one h _ HX.out).ord).at eCells_len (show (t, l).1.order[j]? = some t.order[j] by simp)
      refine ⟨go, q1, by omega, fun d hd => ?_⟩
      have h5 := q5 d hd
      rw [show t.order.getD j (nilV, nilV) = t.order[j] by simp [hj]]
      obtain ⟨v, hv⟩ : ∃ v, (eCells t.order[j])[d]? = some v := ⟨(eCells t.order[j])[d]'(by rw [eCells_len]; exact hd), by simp⟩
      rw [hv] at h5 ⊢
      exact FW.cell h5
    have hol := HF.out.ol
    have HFW : Hid (Fr (fun _ => False) w w2) := FW
    clear hw2 F2 j1 j2 j3 hj1' hj2' hj3' FW HNX b0 b1 b2 gf ga
    gi_wp2
    generalize ha : ({ tmps := _, defers := [] } : Act) = a0
    refine wpIn_rangeFunc_ownH rfl (by omega) (gf := 270) (lb := #[.pointer (some ⟨w1.heap.size + 1, 0, none⟩), .pointer (some ⟨w1.heap.size, 0, none⟩), .pointer (some ⟨w1.heap.size + 2, 0, none⟩)]) (by rw [← ha]; rfl) trivial (enters_of Tryz.func270 (by kernel_rfl) rfl)
      (encs := fun x : Nat × (Vl × Vl) => #[.int .i64 (x.1 : Int), encE x.2]) (Kp := Below w2.heap.size) (S := fun ys => ys = liveL t.order (p + 1) (t.order.length - (p + 1))) (Sp := fun pre => ∃ d, pre = liveL t.order (p + 1) d ++ [(p + 1 + d, t.order.getD (p + 1 + d) (nilV, nilV))] ∧ p + 1 + d < t.order.length ∧ isNilV (t.order.getD (p + 1 + d) (nilV, nilV)).2 = false) (N := 33) (w0 := w2)
      (fun l' J Jx W hW hJ hJx hY h0 => places1_in (by omega) l' (w1.heap.size + 1) w1.heap.size (w1.heap.size + 2) w2.heap.size g h (p + 1) t.order l.ord.a l.ord.c hol (by omega) (by omega) (by omega) (by omega) (by omega) (by omega) J Jx hY
        (fun pre A B hA hAB => hJ pre A B none hA (Fr.grown hAB) (fun r e => by cases e)) W ((hW.cell (p := ⟨w1.heap.size + 1, 0, none⟩) (by simp; omega)).trans HJ2.out) ((hW.cell (p := ⟨w1.heap.size, 0, none⟩) (by simp; omega)).trans HJ1.out) ((hW.cell (p := ⟨w1.heap.size + 2, 0, none⟩) (by simp; omega)).trans HJ3.out) ((hW.cell (p := ⟨g, h * 6, none⟩) (by simp; omega)).trans HCC.out) hW.size
        (fun j hj => by obtain ⟨go, q1, q2, q3⟩ := HROW.out j hj; exact ⟨go, q1, q2, fun d hd => (hW.cell (p := ⟨go, j * 6 + d, none⟩) q2).trans (q3 d hd)⟩) h0)
      belowK_t (belowK_b (Nat.le_refl _)) (Below.refl _ _) (fun _ => rfl)
      (fun pre W => pre = [] ∧ NxI w W (w.heap.size + 1) nilV nilV 0 ∧ w2.heap.size ≤ W.heap.size)
      (fun c pre W => c = .ret ∧ ∃ x : Nat × (Vl × Vl), pre = [x] ∧ NxI w W (w.heap.size + 1) x.2.1 x.2.2 0)
      (fun s A B row hs hg hr => ⟨hs.1, hs.2.1.own hg hr (by omega), Nat.le_trans hs.2.2 hg.size⟩)
      (fun c s A B row hs hg hr => by obtain ⟨h1, x, h2, h3⟩ := hs; exact ⟨h1, x, h2, h3.own hg hr (by omega)⟩)
      ⟨rfl, HNX2.out, Nat.le_refl _⟩
      (fun x a' W => ∃ Bx, w.heap.size + 3 < Bx ∧ Has W Bx #[.int .i64 x.2.1.t, .int .u64 x.2.1.n, sv x.2.1.s, .int .i64 x.2.2.t, .int .u64 x.2.2.n, sv x.2.2.s] 259 ∧ a' = { tmps := ((a0.tmps.setIfInBounds 59 (.int .i64 (x.1 : Int))).setIfInBounds 60 (encE x.2)).setIfInBounds 14 (.pointer (some ⟨Bx, 0, none⟩)), defers := [] })
      (fun x a' _ X Y row hs hg hr => by
        obtain ⟨Bx, h1, h2, h3⟩ := hs
        refine ⟨Bx, h1, h2.fr (Fr.of_grown hg) (fun e => ?_), h3⟩
        obtain ⟨_, o, ho, hc⟩ := hr Bx e
        have hb' : X.heap[Bx]? = some (.cells _ _ (0, 0)) := h2
        rw [hb'] at ho
        cases ho
        cases hc)
      ?assign ?body ?done ?stop
    case assign =>
      rintro l' pre ⟨x1, ⟨⟨kt, kn, ks⟩, ⟨vt, vn, vs⟩⟩⟩ W K ⟨rfl, hI, hsz⟩ hK
      have hsW := hI.fr.size
      have h8l := hI.h8.lt
      have HK : Hid (∀ (a' : Act) (W' : World), _) := hK
      have HA : Hid (_ = a0) := ha
      rw [← ha]
      clear hK ha
      dsimp only [encE]
      gi_wp2
      exact HK.out _ _ ((KeepsOthers.alloc _ _).from _) ((Below.refl _ W).alloc hsz _) ⟨trivial, hI.fresh ((Fr.refl _ W).alloc _), by simp; omega⟩ ⟨W.heap.size, by omega, Has.new W _ _, by rw [← HA.out]; rfl⟩
    case body =>
      rintro l' pre ⟨x1, ⟨⟨kt, kn, ks⟩, ⟨vt, vn, vs⟩⟩⟩ a' W hl ⟨r, hr⟩ ⟨rfl, hI, hsz⟩ ⟨Bx, hBx, bX, rfl⟩ hlt
      rw [← ha]
      simp only [encE, List.setIfInBounds_toArray, List.set_cons_succ, List.set_cons_zero]
      have HI2 : Hid (NxI w W (w.heap.size + 1) nilV nilV 0) := hI
      have HBX : Hid (Has W Bx #[.int .i64 kt, .int .u64 kn, sv ks, .int .i64 vt, .int .u64 vn, sv vs] 259) := bX
      clear hI bX ha hr r hlt
      refine wpIn_block ?_
      refine wpIn_seq ?_
      refine wpIn_region_any (by kernel_rfl) (anyIn_of_any (fun ⟨_, _, x⟩ => x) (by kernel_rfl) _ _ _ _ (wpAny_plan [0, 1, 2, 3] .done 4 (fun x => ∃ s : WH Bx #[.int .i64 kt, .int .u64 kn, sv ks, .int .i64 vt, .int .u64 vn, sv vs] 259, x = s.y) (by kernel_rfl) (fun _ _ _ _ _ h => h) ⟨⟨W.drew, HBX.out.drew⟩, rfl⟩ [_, _, _, _] rfl _ rfl ?_))
      have c0 : ∀ s : WH Bx #[.int .i64 kt, .int .u64 kn, sv ks, .int .i64 vt, .int .u64 vn, sv vs] 259, s.y.cell? ⟨Bx, 0, none⟩ = some (.int .i64 kt) := fun s => by have := s.h.cell 0; simpa using this
      have c1 : ∀ s : WH Bx #[.int .i64 kt, .int .u64 kn, sv ks, .int .i64 vt, .int .u64 vn, sv vs] 259, s.y.cell? ⟨Bx, 1, none⟩ = some (.int .u64 kn) := fun s => by have := s.h.cell 1; simpa using this
      have c2 : ∀ s : WH Bx #[.int .i64 kt, .int .u64 kn, sv ks, .int .i64 vt, .int .u64 vn, sv vs] 259, s.y.cell? ⟨Bx, 2, none⟩ = some (sv ks) := fun s => by have := s.h.cell 2; simpa using this
      have c3 : ∀ s : WH Bx #[.int .i64 kt, .int .u64 kn, sv ks, .int .i64 vt, .int .u64 vn, sv vs] 259, s.y.cell? ⟨Bx, 3, none⟩ = some (.int .i64 vt) := fun s => by have := s.h.cell 3; simpa using this
      have c4 : ∀ s : WH Bx #[.int .i64 kt, .int .u64 kn, sv ks, .int .i64 vt, .int .u64 vn, sv vs] 259, s.y.cell? ⟨Bx, 4, none⟩ = some (.int .u64 vn) := fun s => by have := s.h.cell 4; simpa using this
      have c5 : ∀ s : WH Bx #[.int .i64 kt, .int .u64 kn, sv ks, .int .i64 vt, .int .u64 vn, sv vs] 259, s.y.cell? ⟨Bx, 5, none⟩ = some (sv vs) := fun s => by have := s.h.cell 5; simpa using this
      have hne : Nonempty (WH Bx #[.int .i64 kt, .int .u64 kn, sv ks, .int .i64 vt, .int .u64 vn, sv vs] 259) := ⟨⟨W, HBX.out⟩⟩
      simp only [List.getElem_toArray, List.getElem_cons_succ, List.getElem_cons_zero, List.drop_succ_cons, List.drop_zero, List.length_cons, List.length_nil, Nat.zero_add]
      repeat go_big_quiet_step (fail)
      refine wpQuiet_nil ?_
      have HN2 : Hid (NxI w W.drew (w.heap.size + 1) nilV nilV 0) := HI2.out.fresh ((Fr.refl _ W).drew)
      have HB2 : Hid (Has W.drew Bx #[.int .i64 kt, .int .u64 kn, sv ks, .int .i64 vt, .int .u64 vn, sv vs] 259) := HBX.out.drew
      have HKO : Hid (KeepsOthers W W.drew) := KeepsOthers.drew _
      clear c0 c1 c2 c3 c4 c5 hne
      show ∃ G1 : Act → Act → World → Prop, (∀ (a : Act) (w : World), _ → G1 _ a w → wpChain _ _ _ _ _ _ a w) ∧ ∀ (G : Act → World → Prop), Hid (G = G1 _) → Plan.wp _ _ _ _ G Plan.done _ W.drew
      refine ⟨fun a' a Wz => a = a' ∧ Wz = W.drew, ?_, ?_⟩
      · rintro a Wz _ ⟨rfl, rfl⟩
        obtain ⟨Wd, HWd⟩ : ∃ Wd, Hid (W.drew = Wd) := ⟨_, rfl⟩
        rw [HWd.out] at HN2 HB2 HKO ⊢
        have hI := HN2.out
        obtain ⟨d0, d1, d2⟩ := Has.cells3 (v := nilV) hI.h6
        obtain ⟨d3, d4, d5⟩ := hI.h6.frz3
        obtain ⟨g0, g1, g2⟩ := Has.cells3 (v := nilV) hI.h7
        obtain ⟨g3, g4, g5⟩ := hI.h7.frz3
        have i0 := hI.h8.cell 0
        have i1 := hI.h8.frozen 0
        simp at i0
        dsimp only [nilV] at d0 d1 d2 g0 g1 g2
        have l6 := hI.h6.lt
        have l7 := hI.h7.lt
        have l8 := hI.h8.lt
        clear hI
        rw [show w.heap.size + 1 + 2 = w.heap.size + 1 + 1 + 1 from rfl] at i0 i1 l8
        unfold wpChain
        go_wp2
        refine ⟨⟨⟨_, ((HB2.out.other (p := ⟨w.heap.size + 1, 0, none⟩) (by simp; omega) _).other (p := ⟨w.heap.size + 1, 1, none⟩) (by simp; omega) _).other (p := ⟨w.heap.size + 1, 2, none⟩) (by simp; omega) _⟩, rfl⟩, ?_⟩
        unfold wpChain
        go_wp2
        refine ⟨⟨⟨_, (((((HB2.out.other (p := ⟨w.heap.size + 1, 0, none⟩) (by simp; omega) _).other (p := ⟨w.heap.size + 1, 1, none⟩) (by simp; omega) _).other (p := ⟨w.heap.size + 1, 2, none⟩) (by simp; omega) _).other (p := ⟨w.heap.size + 1 + 1, 0, none⟩) (by simp; omega) _).other (p := ⟨w.heap.size + 1 + 1, 1, none⟩) (by simp; omega) _).other (p := ⟨w.heap.size + 1 + 1, 2, none⟩) (by simp; omega) _⟩, rfl⟩, ?_⟩
        unfold wpChain
        go_wp2
        refine ⟨⟨⟨_, ((((((HB2.out.other (p := ⟨w.heap.size + 1, 0, none⟩) (by simp; omega) _).other (p := ⟨w.heap.size + 1, 1, none⟩) (by simp; omega) _).other (p := ⟨w.heap.size + 1, 2, none⟩) (by simp; omega) _).other (p := ⟨w.heap.size + 1 + 1, 0, none⟩) (by simp; omega) _).other (p := ⟨w.heap.size + 1 + 1, 1, none⟩) (by simp; omega) _).other (p := ⟨w.heap.size + 1 + 1, 2, none⟩) (by simp; omega) _).other (p := ⟨w.heap.size + 1 + 1 + 1, 0, none⟩) (by simp; omega) _⟩, rfl⟩, ?_⟩
        rw [wpChain_zero]
        have FIN : KeepsFrom w2.heap.size W (set7 Wd (w.heap.size + 1) ⟨kt, kn, ks⟩ ⟨vt, vn, vs⟩ 0) ∧ NxI w (set7 Wd (w.heap.size + 1) ⟨kt, kn, ks⟩ ⟨vt, vn, vs⟩ 0) (w.heap.size + 1) ⟨kt, kn, ks⟩ ⟨vt, vn, vs⟩ 0 := ⟨(HKO.out.trans (set7_keeps _ _ _ _ _)).from _, HN2.out.set (by omega) _ _ _⟩
        have HFIN : Hid (_ ∧ _) := FIN
        clear FIN
        unfold wpList
        refine wpIn_ret ?_
        exact ⟨HFIN.out.1, rfl, _, rfl, HFIN.out.2⟩
      · rintro G HG
        show G _ _
        rw [HG.out]
        exact ⟨rfl, rfl⟩
    case done =>
      rintro D ys W hD rfl ⟨hy0, hI, hsz⟩ hK
      have HIW : Hid (NxI w W (w.heap.size + 1) nilV nilV 0) := hI
      have HKW : Hid (W.heap[D]? = some (.deferred (some []))) := hK
      have HY0 : Hid (liveL t.order (p + 1) (t.order.length - (p + 1)) = []) := hy0
      obtain ⟨d0, d1, d2⟩ := Has.cells3 (v := nilV) hI.h6
      obtain ⟨d3, d4, d5⟩ := hI.h6.frz3
      obtain ⟨g0, g1, g2⟩ := Has.cells3 (v := nilV) hI.h7
      obtain ⟨g3, g4, g5⟩ := hI.h7.frz3
      have i0 := hI.h8.cell 0
      have i1 := hI.h8.frozen 0
      simp at i0
      dsimp only [nilV] at d0 d1 d2 g0 g1 g2
      have l6 := hI.h6.lt
      have l7 := hI.h7.lt
      have l8 := hI.h8.lt
      rw [show w.heap.size + 1 + 2 = w.heap.size + 1 + 1 + 1 from rfl] at i0 i1 l8
      rw [← ha]
      clear hI hK hy0 ha
      gi_wp2
      have hK' := (set7_keeps W (w.heap.size + 1) nilV nilV 0).same D _ HKW.out rfl
      refine ⟨by simp, .inl ⟨_, _, rfl, run_takeDeferred hK', ?_⟩⟩
      have hN := (HIW.out.set (by omega) nilV nilV 0).put (by omega) hK'
      have e : t.nextP (p + 1) = (nilV, nilV) := nextP_none HY0.out
      refine ⟨_, res_cell3 rfl rfl hN.h6 rfl rfl hN.h7 rfl rfl hN.h8, ?_⟩
      rw [← HQP.out, HN1.out, e]
      exact ⟨rfl, hN.fr⟩
    case stop =>
      rintro D c pre W hD ⟨d, hd1, hd2, hd3⟩ ⟨rfl, x, rfl, hI⟩ hK
      rw [← ha]
      clear ha
      gi_wp2
      refine ⟨by simp, .inl ⟨_, _, rfl, run_takeDeferred hK, ?_⟩⟩
      have hN := hI.put (by omega) hK
      have e : t.nextP (p + 1) = x.2 := by
        have hl : liveL t.order (p + 1) d = [] := by
          cases hc : liveL t.order (p + 1) d with
          | nil => rfl
          | cons y ys => rw [hc] at hd1; simp at hd1
        rw [hl] at hd1
        have hx : x = (p + 1 + d, t.order.getD (p + 1 + d) (nilV, nilV)) := List.head_eq_of_cons_eq hd1
        rw [hx]
        exact nextP_some hl hd2 hd3
      refine ⟨_, res_cell3 rfl rfl hN.h6 rfl rfl hN.h7 rfl rfl hN.h8, ?_⟩
      rw [← HQP.out, HN1.out, e]
      exact ⟨rfl, hN.fr⟩
theorem well_nil {k : Vl} (h : wellV k = true) (h0 : k.t = 0) : k = nilV := by
  obtain ⟨kt, kn, ks⟩ := k
  dsimp only at h0
  subst h0
  unfold wellV at h
  dsimp only at h
  rw [if_neg (by omega)] at h
  split at h
  · cases h
  · rename_i hx
    rw [if_pos rfl] at h
    have h1 : kn = 0 := by simpa using h
    have h2 : ks = [] := by
      cases ks with
      | nil => rfl
      | cons a b => exact absurd (Or.inl (by simp)) hx
    subst h1 h2
    rfl
theorem next_any (r : TabsRep w o bt bn s n xs) (hx : xs[h]? = some (t, l)) (hf : TFit t) (hn : h < n) (hn12 : n ≤ 12) (k : Vl) (hk : wellV k = true) (hkn : k.t = 2 → k.n < 18446744073709551616) :
    Calls Tryz.prog 307 #[.pointer (some ⟨bt, 0, none⟩), .int .i64 h, k.val] w (NextPost (t.next k) w) := by
  by_cases h0 : k.t = 0
  · obtain rfl := well_nil hk h0
    exact next_nil r hx hf hn hn12
  · exact next_k r hx hf hn hn12 k hk hkn h0
end
end Go.Proofs.Qxb6500574aGreatDoor
