/-
  THE WALK of table: Show: the walk.
-/
import Derived.Test.Qxb6500579aGreatUShowT
import Derived.Test.Qxb6500579aGreatVLd2
namespace Go.Proofs.Qxb6500579aGreat
open Go Go.RowKit
set_option linter.unusedVariables false
set_option linter.unusedSimpArgs false
open Go.Shelf

attribute [local go_sem] Oper.semAt_some

/-- the frame of Show in its loop -/
def Fr18 (bt B n h : Nat) (ds : List Deferred) (a : Act) : Prop := ∃ v4 v5 v6 v7 v8 v14 v15 v16 v17 v18 v19 v20 v21 v22 v23 v24 v25 v26 v27 v28 v29 v30 v31 v32 v33 v34 v35 v36 v37 v38 v39 v40 v41 v42 v43 v44 v45 v46 v47 v48 v49 v50 v51 : Value, a = { tmps := #[.pointer (some ⟨bt, 0, none⟩), undef, .string ⟨#[]⟩, .pointer (some ⟨B, 0, none⟩), v4, v5, v6, v7, v8, .pointer (some ⟨bt, 0, none⟩), .pointer (some ⟨bt, 0, none⟩), .pointer (some ⟨bt, 2, none⟩), .int .i64 n, .int .i64 h, v14, v15, v16, v17, v18, v19, v20, v21, v22, v23, v24, v25, v26, v27, v28, v29, v30, v31, v32, v33, v34, v35, v36, v37, v38, v39, v40, v41, v42, v43, v44, v45, v46, v47, v48, v49, v50, v51], defers := ds }
theorem allL_flat (o : List (Vl × Vl)) : ∀ d, d ≤ o.length → (allL o 0 d).flatMap (fun x => showE x.2) = (o.take d).flatMap showE := by
  intro d
  induction d with
  | zero => intro _; rfl
  | succ d ih =>
    intro h
    rw [allL_succ, List.flatMap_append, ih (by omega), List.take_add_one, List.flatMap_append]
    have : o[d]? = some (o.getD d (nilV, nilV)) := by rw [List.getD_eq_getElem?_getD, List.getElem?_eq_getElem (show d < o.length by omega)]; rfl
    rw [this]
    simp
theorem row_u8b : IsRow Tryz.prog 59 5 (.int .u8 0) 1 1 := ⟨by kernel_rfl, by kernel_rfl, rfl, by decide⟩
/-- an entry that can be shown -/
abbrev EnX := { x : Nat × (Vl × Vl) // Shw x.2.1 ∧ Shw x.2.2 }
def esN (pre : List EnX) : Bs := pre.flatMap fun x => showE x.1.2
def shN (xs : List (TabD × TbL)) (h : Nat) : Bs := showT ((xs.take h).map (·.1))
theorem shN_succ {xs : List (TabD × TbL)} {h : Nat} {x : TabD × TbL} (hx : xs[h]? = some x) : shN xs (h + 1) = shN xs h ++ showTb x.1 := by
  unfold shN showT
  rw [List.take_add_one, hx, List.map_append, List.flatMap_append]
  simp
theorem showE_len {e : Vl × Vl} (h : Shw e.1 ∧ Shw e.2) : (showE e).length ≤ 130 := by
  have h1 := h.1.len
  have h2 := h.2.len
  simp only [showE, List.length_append, List.length_cons, List.length_nil]
  omega
theorem es_len : ∀ l : List (Vl × Vl), (∀ e ∈ l, Shw e.1 ∧ Shw e.2) → (l.flatMap showE).length ≤ 130 * l.length := by
  intro l
  induction l with
  | nil => intro _; simp
  | cons a r ih =>
    intro h
    have h1 := ih (fun e he => h e (by simp [he]))
    have h2 := showE_len (h a (by simp))
    simp only [List.flatMap_cons, List.length_append, List.length_cons, Nat.mul_add, Nat.mul_one]
    omega
theorem shN_len {xs : List (TabD × TbL)} (hf : ∀ x ∈ xs, TFit x.1) (hv : ∀ x ∈ xs, ∀ e ∈ x.1.order, Shw e.1 ∧ Shw e.2) : ∀ h, (shN xs h).length ≤ 4200 * h := by
  intro h
  induction h with
  | zero => simp [shN, showT]
  | succ h ih =>
    cases hx : xs[h]? with
    | none =>
      have : xs.take (h + 1) = xs.take h := by rw [List.take_add_one, hx]; simp
      unfold shN at ih ⊢
      rw [this]
      omega
    | some x =>
      rw [shN_succ hx, List.length_append]
      have h1 := es_len x.1.order (hv x (List.mem_of_getElem? hx))
      have h2 := (hf x (List.mem_of_getElem? hx)).ol
      simp only [showTb, List.length_append, List.length_cons, List.length_nil]
      omega
section
variable {w : World} {o : Nat → Nat} {bt bn n : Nat} {s : Sl} {xs : List (TabD × TbL)}
set_option maxRecDepth 100000
set_option maxHeartbeats 600000
theorem showT_any (r : TabsRep w o bt bn s n xs) (hf : ∀ x ∈ xs, TFit x.1) (hv : ∀ x ∈ xs, ∀ e ∈ x.1.order, Shw e.1 ∧ Shw e.2) (hn12 : n ≤ 12) :
    Calls Tryz.prog 18 #[.pointer (some ⟨bt, 0, none⟩)] w fun e' w' => e' = .returned (sv (showT ((xs.take n).map (·.1)))) ∧ Fr (fun _ => False) w w' := by
  obtain ⟨Q, HQ⟩ : ∃ Q : Ending → World → Prop, Hid ((fun e' w' => e' = .returned (sv (showT ((xs.take n).map (·.1)))) ∧ Fr (fun _ => False) w w') = Q) := ⟨_, rfl⟩
  rw [HQ.out]
  refine (callsIn_wide (n := 6)).1 ?_
  have b2 := r.here.has.cell 2
  have hbt := r.here.has.lt
  simp only [List.getElem?_toArray, List.getElem?_cons_zero, List.getElem?_cons_succ, Sl.v] at b2
  have HR : Hid (TabsRep w o bt bn s n xs) := r
  have HF : Hid (∀ x ∈ xs, TFit x.1) := hf
  have HV : Hid (∀ x ∈ xs, ∀ e ∈ x.1.order, Shw e.1 ∧ Shw e.2) := hv
  clear r hf hv
  refine callsIn_of_wp_marks Tryz.func18 rfl trivial ?_ rfl
  simp only [Tryz.ntmps18, List.size_toArray, List.length_cons, List.length_nil, Nat.reduceAdd, Nat.reduceSub, Array.replicate_succ, Array.replicate_zero, List.push_toArray, List.append_toArray, List.nil_append, List.cons_append]
  have HI0 : Hid (OutI w (w.alloc (.cells #[.slice none 0 0] 59)) w.heap.size [] (.slice none 0 0)) := ⟨Has.newC _ _ _ rfl, World.ownsRow_nil _ _ _ _, fun g hg => by simp [Value.ownBlock] at hg, (Fr.refl _ _).alloc _, Nat.le_refl _⟩
  gi_wp2
  obtain ⟨B, HB⟩ : ∃ B, Hid (w.heap.size = B) := ⟨_, rfl⟩
  obtain ⟨W0, HW0⟩ : ∃ W0, Hid (w.alloc (.cells #[.slice none 0 0] 59) = W0) := ⟨_, rfl⟩
  rw [HB.out, HW0.out] at HI0
  rw [HB.out, HW0.out]
  refine wpIn_loop (fun a W => ∃ (h : Nat) (Ds : List Nat) (ba : Option Addr) (bc : Nat), h ≤ n ∧ Fr18 bt B n h (Ds.map mrk) a ∧ Hid (OutI w W B (shN xs h) (.slice ba (shN xs h).length bc)) ∧ Hid (Marks w W Ds)) (fun a _ => n - (intOf (a.tmps.getD 13 undef)).toNat) ?_ ?_
  · exact ⟨0, [], none, 0, by omega, ⟨_, _, _, _, _, _, _, _, _, _, _, _, _, _, _, _, _, _, _, _, _, _, _, _, _, _, _, _, _, _, _, _, _, _, _, _, _, _, _, _, _, _, _, rfl⟩, HI0, ⟨fun D hD => by simp at hD, List.nodup_nil⟩⟩
  rintro a W ⟨h, Ds, ba, bc, hh, ⟨v4, v5, v6, v7, v8, v14, v15, v16, v17, v18, v19, v20, v21, v22, v23, v24, v25, v26, v27, v28, v29, v30, v31, v32, v33, v34, v35, v36, v37, v38, v39, v40, v41, v42, v43, v44, v45, v46, v47, v48, v49, v50, v51, rfl⟩, HO, HM⟩
  have hol := shN_len HF.out HV.out h
  have o0 := HO.out.h.cell 0
  have o1 := HO.out.h.frozen 0
  have ol := HO.out.h.lt
  simp only [List.getElem?_toArray, List.getElem?_cons_zero] at o0
  by_cases hn : n = h
  · subst hn
    have hcv : (convert 59 9 (.slice ba (shN xs n).length bc)).run Tryz.prog W = .ok (sv (shN xs n)) W := by
      refine conv_text ba bc (shN xs n) (fun h0 => ?_)
      obtain ⟨g, h1, h2⟩ := owns_some HO.out.own h0
      refine ⟨_, h1, fun j hj => ?_⟩
      subst h1
      refine HO.out.own.cells (g := g) rfl j _ ?_
      simp [byteCells, hj]
    have FIN : Hid (∀ W', Fr (fun _ => False) w W' → Q (.returned (sv (shN xs n))) W') := fun W' hF => by rw [← HQ.out]; exact ⟨rfl, hF⟩
    obtain ⟨SN, HSN⟩ : ∃ sn, Hid (shN xs n = sn) := ⟨_, rfl⟩
    rw [HSN.out] at hcv FIN o0
    gi_wp2
    exact marks_leave (v := sv SN) (fun W => results_tmp (t := 2) rfl _ _ W) FIN.out Ds W HM.out HO.out.fr
  · obtain ⟨⟨t, l⟩, hx⟩ : ∃ x, xs[h]? = some x := ⟨_, List.getElem?_eq_getElem (by have := HR.out.le; omega)⟩
    obtain ⟨g, ga, gcap, _, gl, gc, gf⟩ := HR.out.at hx
    have FW := HO.out.fr
    have b1 : W.cell? ⟨bt, 1, none⟩ = some (.slice (some ⟨g, 0, none⟩) xs.length s.c) := by rw [← ga]; exact FW.cell (HR.out.here.has.cell 1)
    have HGA : Hid (s.a = some ⟨g, 0, none⟩) := ga
    have hbtW := Nat.lt_of_lt_of_le hbt FW.size
    have hxl := (List.getElem?_eq_some_iff.1 hx).1
    have HX : Hid (xs[h]? = some (t, l)) := hx
    have HGC : Hid (∀ j, j < 6 → w.cell? ⟨g, h * 6 + j, none⟩ = (tbCells (t, l))[j]?) := gc
    have HGL : Hid (g < w.heap.size) := gl
    obtain ⟨N, HN⟩ : ∃ N : Nat, Hid (xs.length = N) := ⟨_, rfl⟩
    rw [HN.out] at b1 gcap hxl
    have hlt : (h : Int) < (n : Int) := by omega
    have hf := HF.out (t, l) (List.mem_of_getElem? hx)
    have hvv := HV.out (t, l) (List.mem_of_getElem? hx)
    have HT : Hid (TFit t) := hf
    have HVV : Hid (∀ e ∈ t.order, Shw e.1 ∧ Shw e.2) := hvv
    have ho32 := hf.ol
    clear hf hvv gc gf hx FW ga
    obtain ⟨S0, HS0⟩ : ∃ s0, Hid (shN xs h = s0) := ⟨_, rfl⟩
    rw [HS0.out] at HO hol o0
    gi_wp2_with (gi_at_builtin; go_must (refine wpListIn_appN row_u8b _ rfl (.tmp 16) (.tmp 17) rfl (.slice ba S0.length bc) S0.length (byteCells S0) rfl ?own W.heap.size 1 1 [.int .u8 91] rfl ?hB rfl (by omega) (by simp [Value.oneCell']) ?bd ?go))
    case own => exact owns_alloc HO.out.own _
    case hB => exact Has.new _ _ _
    case bd => omega
    case go =>
      intro g1 cap1 w1 q1 q2 q3 q4
      have HS1 : Hid (OutS w W B S0 (.slice ba S0.length bc) (w1.setCell ⟨B, 0, none⟩ (.slice (some ⟨g1, 0, none⟩) (S0.length + 1) cap1)) (S0 ++ [91]) (.slice (some ⟨g1, 0, none⟩) (S0.length + 1) cap1)) :=
        HO.out.step (t := [91]) ((Fr.refl _ _).alloc _) q1 rfl q2 (fun g' hg' => by
          have e : g' = g1 := by simpa [Value.ownBlock] using hg'.symm
          rw [e]
          rcases q3 with x | x
          · exact .inl x
          · exact .inr (by rw [x]; simp))
      have h1B : Has w1 B #[.slice ba S0.length bc] 59 := (HO.out.h.alloc _).fr q2 (fun e => HO.out.ne e)
      have p0 := h1B.cell 0
      have p1 := h1B.frozen 0
      have p2 := h1B.lt
      simp only [List.getElem?_toArray, List.getElem?_cons_zero] at p0
      have F01 : Fr (fun _ => False) w w1 := (HO.out.fr.alloc _).trans q2 (fun j hj e => by have := HO.out.new j e; omega)
      have c1 : w1.cell? ⟨bt, 1, none⟩ = some (.slice (some ⟨g, 0, none⟩) N s.c) := by rw [← HGA.out, ← HN.out]; exact F01.cell (HR.out.here.has.cell 1)
      have c1l := Nat.lt_of_lt_of_le hbt F01.size
      have hneB : bt ≠ B := by have := HB.out; omega
      clear q1 q2 q3 q4 h1B F01
      gi_wp2
      refine ⟨trivial, ?_⟩
      obtain ⟨W1, HW1⟩ : ∃ W1, Hid (w1.setCell ⟨B, 0, none⟩ (.slice (some ⟨g1, 0, none⟩) (S0.length + 1) cap1) = W1) := ⟨_, rfl⟩
      rw [HW1.out] at HS1
      rw [HW1.out]
      refine (places_inA g h 0 W1).mono ?_
      rintro e' w2 ⟨rfl, hw2⟩
      have F2 : Fr (fun _ => False) W1 w2 := by rw [hw2]; exact (((Fr.refl _ W1).alloc _).alloc _).alloc _
      have j1 : Has w2 W1.heap.size #[.pointer (some ⟨g, h * 6, none⟩)] 119 := by rw [hw2]; exact ((Has.new W1 _ _).alloc _).alloc _
      have j2 : Has w2 (W1.heap.size + 1) #[.int .i64 0] 3 := by rw [hw2]; exact (Has.newC _ _ _ (by simp)).alloc _
      have j3 : Has w2 (W1.heap.size + 2) #[.bool true] 4 := by rw [hw2]; exact Has.newC _ _ _ (by simp)
      have FW := HS1.out.o.fr.trans F2 (fun _ _ x => x)
      have hsz2 := F2.size
      have hbl1 := HS1.out.o.h.lt
      have hg1l := owns_lt HS1.out.o.own g1 rfl
      have hj1' : w2.cell? ⟨W1.heap.size, 0, none⟩ = some (.pointer (some ⟨g, h * 6, none⟩)) := by have := j1.cell 0; simpa using this
      have HJ1 : Hid (w2.cell? ⟨W1.heap.size, 0, none⟩ = some (.pointer (some ⟨g, h * 6, none⟩))) := hj1'
      have hj2' : w2.cell? ⟨W1.heap.size + 1, 0, none⟩ = some (.int .i64 0) := by have := j2.cell 0; simpa using this
      have HJ2 : Hid (w2.cell? ⟨W1.heap.size + 1, 0, none⟩ = some (.int .i64 0)) := hj2'
      have hj3' : w2.cell? ⟨W1.heap.size + 2, 0, none⟩ = some (.bool true) := by have := j3.cell 0; simpa using this
      have HJ3 : Hid (w2.cell? ⟨W1.heap.size + 2, 0, none⟩ = some (.bool true)) := hj3'
      have hj3 := j3.lt
      have HCC : Hid (w2.cell? ⟨g, h * 6, none⟩ = some (.slice l.ord.a t.order.length l.ord.c)) := by
        have c0 := HGC.out 0 (by omega)
        simp only [tbCells, List.getElem?_cons_zero, Sl.v, Nat.add_zero] at c0
        exact FW.cell c0
      have HROW : Hid (∀ j, j < t.order.length → ∃ go, l.ord.a = some ⟨go, 0, none⟩ ∧ go < w.heap.size ∧ ∀ d, d < 6 → w2.cell? ⟨go, j * 6 + d, none⟩ = (eCells (t.order.getD j (nilV, nilV)))[d]?) := by
        intro j hj
        obtain ⟨go, q1, q2, q3, q4, q5, q6⟩ := ((HR.out.one h _ HX.out).ord).at eCells_len (show (t, l).1.order[j]? = some t.order[j] by simp)
        refine ⟨go, q1, q4, fun d hd => ?_⟩
        have h5 := q5 d hd
        rw [show t.order.getD j (nilV, nilV) = t.order[j] by simp [hj]]
        obtain ⟨v, hv⟩ : ∃ v, (eCells t.order[j])[d]? = some v := ⟨(eCells t.order[j])[d]'(by rw [eCells_len]; exact hd), by simp⟩
        rw [hv] at h5 ⊢
        exact FW.cell h5
      have HS2 : Hid (OutS w W B S0 (.slice ba S0.length bc) w2 (S0 ++ [91]) (.slice (some ⟨g1, 0, none⟩) (S0.length + 1) cap1)) := HS1.out.trans (OutS.fresh HS1.out.o F2)
      have HM2 : Hid (Marks w w2 Ds) := HM.out.keep HS2.out.k
      have HSB : Hid (w.heap.size ≤ B ∧ w.heap.size ≤ g1 ∧ B < W1.heap.size ∧ g1 < W1.heap.size ∧ W1.heap.size + 2 < w2.heap.size) := ⟨HS1.out.o.b, HS1.out.o.new g1 rfl, hbl1, hg1l, hj3⟩
      have hwB := HSB.out.1
      have hwg := HSB.out.2.1
      have HDL : Hid (∀ D ∈ Ds, D < w2.heap.size) := fun D hD => (Array.getElem?_eq_some_iff.1 (HM2.out.h D hD).1).1
      clear hw2 F2 j1 j2 j3 hj1' hj2' hj3' FW hbl1 hg1l p0 p1 p2 c1 c1l o0 o1 ol b1 hbtW
      gi_wp2
      generalize ha : ({ tmps := _, defers := _ } : Act) = a0
      refine wpIn_rangeFunc_ownH (α := EnX) rfl (by omega) (gf := 49) (lb := #[.pointer (some ⟨W1.heap.size + 1, 0, none⟩), .pointer (some ⟨W1.heap.size, 0, none⟩), .pointer (some ⟨W1.heap.size + 2, 0, none⟩)]) (by rw [← ha]; rfl) trivial (enters_of Tryz.func49 (by kernel_rfl) rfl)
        (encs := fun x : EnX => #[.int .i64 (x.1.1 : Int), encE x.1.2]) (Kp := KX (fun k => k < w2.heap.size ∧ k ≠ B ∧ k ≠ g1)) (S := fun ys => ys.map Subtype.val = allL t.order 0 (t.order.length - 0)) (Sp := fun _ => True) (N := 33) (w0 := w2)
        (fun l' J Jx W hW hJ hJx hY h0 => (placesA_in (by omega) l' (W1.heap.size + 1) W1.heap.size (W1.heap.size + 2) w2.heap.size g h 0 t.order l.ord.a l.ord.c ho32 (by omega) (by omega) (fun k => k < w2.heap.size ∧ k ≠ B ∧ k ≠ g1) (fun k hk => hk.1) (by have := HGL.out; have := HSB.out; exact ⟨by omega, by omega, by omega⟩) (by have := HSB.out; exact ⟨by omega, by omega, by omega⟩) (by have := HSB.out; exact ⟨by omega, by omega, by omega⟩) (by have := HSB.out; exact ⟨by omega, by omega, by omega⟩)
          (fun pre W => ∃ pre' : List EnX, pre'.map Subtype.val = pre ∧ J pre' W) (fun pre W => ∃ pre' : List EnX, Jx pre' W)
          (fun pre x W hx hJp hlen => by
            obtain ⟨pre', rfl, hJ'⟩ := hJp
            obtain ⟨fn, tmps, assign, body, hy, hR⟩ := hY pre' ⟨x, HVV.out _ hx⟩ W hJ' (by simpa using hlen)
            refine ⟨fn, tmps, assign, body, hy, hR.mono ?_⟩
            rintro e W' (⟨h1, h2, h3⟩ | ⟨h1, h2⟩)
            · exact .inl ⟨h1, ⟨pre' ++ [⟨x, HVV.out _ hx⟩], by simp, h2⟩, h3⟩
            · exact .inr ⟨h1, _, h2⟩)
          (fun pre A B hA hAB => by obtain ⟨pre', e, hA⟩ := hA; exact ⟨pre', e, hJ pre' A B none hA (Fr.grown hAB) (fun r e => by cases e)⟩) W ((hW.cell (p := ⟨W1.heap.size + 1, 0, none⟩) (by have := HSB.out; simp; omega)).trans HJ2.out) ((hW.cell (p := ⟨W1.heap.size, 0, none⟩) (by have := HSB.out; simp; omega)).trans HJ1.out) ((hW.cell (p := ⟨W1.heap.size + 2, 0, none⟩) (by have := HSB.out; simp; omega)).trans HJ3.out) ((hW.cell (p := ⟨g, h * 6, none⟩) (by have := HGL.out; have := HSB.out; simp; omega)).trans HCC.out) hW.size
          (fun j hj => by
            obtain ⟨go, q1, q2, q3⟩ := HROW.out j hj
            have hSB := HSB.out
            exact ⟨go, q1, ⟨by omega, by omega, by omega⟩, fun d hd => (hW.cell (p := ⟨go, j * 6 + d, none⟩) (by simp; omega)).trans (q3 d hd)⟩) ⟨[], rfl, h0⟩).mono (by
            rintro e W' ⟨h1, ⟨ys, rfl, pre', e1, h2⟩ | ⟨pre, _, pre', h2⟩⟩
            · exact ⟨h1, .inl ⟨pre', e1, h2⟩⟩
            · exact ⟨h1, .inr ⟨pre', trivial, h2⟩⟩))
        KX.trans (fun W l o o' hl => KX.put (fun k hk => hk.1) W l o o' hl) (Below.refl _ _) (fun _ => rfl)
        (fun pre W => ∃ (ba : Option Addr) (bc : Nat), OutI w W B (S0 ++ [91] ++ esN pre) (.slice ba (S0 ++ [91] ++ esN pre).length bc) ∧ (∀ g', (Value.slice ba (S0 ++ [91] ++ esN pre).length bc).ownBlock = some g' → g' = g1 ∨ w2.heap.size ≤ g') ∧ w2.heap.size ≤ W.heap.size ∧ Marks w W Ds)
        (fun _ _ _ => False)
        ?ownI (fun _ _ _ _ _ x => x.elim) ?start
        (fun x a' W => ∃ Bx, w2.heap.size ≤ Bx ∧ Has W Bx #[.int .i64 x.1.2.1.t, .int .u64 x.1.2.1.n, sv x.1.2.1.s, .int .i64 x.1.2.2.t, .int .u64 x.1.2.2.n, sv x.1.2.2.s] 108 ∧ a' = { tmps := ((a0.tmps.setIfInBounds 26 (.int .i64 (x.1.1 : Int))).setIfInBounds 27 (encE x.1.2)).setIfInBounds 6 (.pointer (some ⟨Bx, 0, none⟩)), defers := [] })
        ?ownA ?assign ?body ?done ?stop
      case ownI =>
        rintro pre W W' row ⟨ba, bc, h1, h2, h3, h4⟩ hg hr
        refine ⟨ba, bc, h1.own' hg (fun r e => ⟨by have := (hr r e).1; have := HSB.out; omega, (hr r e).2⟩), h2, Nat.le_trans h3 hg.size, ⟨fun D hD => ⟨?_, (h4.h D hD).2⟩, h4.nd⟩⟩
        rw [← (h4.h D hD).1]
        exact hg.block D (Array.getElem?_eq_some_iff.1 (h4.h D hD).1).1 (fun e => by have := (hr D e.symm).1; have := HDL.out D hD; omega)
      case start => exact ⟨some ⟨g1, 0, none⟩, cap1, by have := HS2.out.o; simpa [esN] using this, fun g' hg' => .inl (by simpa [Value.ownBlock] using hg'.symm), Nat.le_refl _, HM2.out⟩
      case ownA =>
        intro x a' u X Y row hs hg hr
        obtain ⟨Bx, h1, h2, h3⟩ := hs
        refine ⟨Bx, h1, h2.fr (Fr.of_grown hg) (fun e => ?_), h3⟩
        obtain ⟨_, o, ho, hc⟩ := hr Bx e
        have hb' : X.heap[Bx]? = some (.cells _ _ (0, 0)) := h2
        rw [hb'] at ho
        cases ho
        cases hc
      case assign =>
        rintro l' pre ⟨⟨x1, ⟨⟨kt, kn, ks⟩, ⟨vt, vn, vs⟩⟩⟩, hxs⟩ W K ⟨ba, bc, h1, h2, h3, h4⟩ hK
        have HK : Hid (∀ (a' : Act) (W' : World), _) := hK
        have HA : Hid (_ = a0) := ha
        have HI : Hid (OutI w W B (S0 ++ [91] ++ esN pre) (.slice ba (S0 ++ [91] ++ esN pre).length bc)) := h1
        have HI2 : Hid (∀ g', (Value.slice ba (S0 ++ [91] ++ esN pre).length bc).ownBlock = some g' → g' = g1 ∨ w2.heap.size ≤ g') := h2
        have HI4 : Hid (Marks w W Ds) := h4
        rw [← ha]
        clear hK ha h1 h2 h4
        dsimp only [encE]
        gi_wp2
        refine HK.out _ _ ((KeepsOthers.alloc _ _).from _) (KX.of_fr ((Fr.refl _ W).alloc _) (fun k hk => ⟨by omega, fun x => x⟩)) ⟨ba, bc, HI.out.mono ((Fr.refl _ W).alloc _), HI2.out, by simp; omega, HI4.out.keep (KeepsOthers.alloc _ _)⟩ ⟨W.heap.size, h3, Has.new W _ _, by rw [← HA.out]; rfl⟩
      case body =>
        rintro l' pre ⟨⟨x1', ⟨⟨kt, kn, ks⟩, ⟨vt, vn, vs⟩⟩⟩, hxs⟩ a' W hl ⟨r, hr⟩ ⟨ba, bc, h1, h2, h3, h4⟩ ⟨Bx, hBx, bX, rfl⟩ hlen
        rw [← ha]
        simp only [encE, List.setIfInBounds_toArray, List.set_cons_succ, List.set_cons_zero]
        dsimp only at bX hxs
        have HXS : Hid (Shw ⟨kt, kn, ks⟩ ∧ Shw ⟨vt, vn, vs⟩) := hxs
        have x0 := bX.cell 0
        have x1 := bX.cell 1
        have x2 := bX.cell 2
        have x3 := bX.cell 3
        have x4 := bX.cell 4
        have x5 := bX.cell 5
        simp only [List.getElem?_toArray, List.getElem?_cons_succ, List.getElem?_cons_zero] at x0 x1 x2 x3 x4 x5
        have xl := bX.lt
        have HI : Hid (OutI w W B (S0 ++ [91] ++ esN pre) (.slice ba (S0 ++ [91] ++ esN pre).length bc)) := h1
        have HI2 : Hid (∀ g', (Value.slice ba (S0 ++ [91] ++ esN pre).length bc).ownBlock = some g' → g' = g1 ∨ w2.heap.size ≤ g') := h2
        have HI4 : Hid (Marks w W Ds) := h4
        have HBX : Hid (Has W Bx #[.int .i64 kt, .int .u64 kn, sv ks, .int .i64 vt, .int .u64 vn, sv vs] 108) := bX
        have pl : (S0 ++ [91] ++ esN pre).length ≤ 60000 := by
          have e1 : (esN pre).length ≤ 130 * pre.length := by
            have := es_len (pre.map (fun x => x.1.2)) (fun e he => by obtain ⟨x, _, rfl⟩ := List.mem_map.1 he; exact x.2)
            unfold esN
            rw [List.flatMap_map] at this
            simpa using this
          simp only [List.length_append, List.length_cons, List.length_nil]
          omega
        generalize hqb : ownPostG w2.heap.size _ _ _ _ W = QB
        have HQB : Hid (∀ a' W', KeepsFrom w2.heap.size W W' ∧ KX (fun k => k < w2.heap.size ∧ k ≠ B ∧ k ≠ g1) W W' ∧ (∃ (ba : Option Addr) (bc : Nat), OutI w W' B (S0 ++ [91] ++ esN (pre ++ [(⟨(x1', (⟨kt, kn, ks⟩, ⟨vt, vn, vs⟩)), hxs⟩ : EnX)])) (.slice ba (S0 ++ [91] ++ esN (pre ++ [(⟨(x1', (⟨kt, kn, ks⟩, ⟨vt, vn, vs⟩)), hxs⟩ : EnX)])).length bc) ∧ (∀ g', (Value.slice ba (S0 ++ [91] ++ esN (pre ++ [(⟨(x1', (⟨kt, kn, ks⟩, ⟨vt, vn, vs⟩)), hxs⟩ : EnX)])).length bc).ownBlock = some g' → g' = g1 ∨ w2.heap.size ≤ g') ∧ w2.heap.size ≤ W'.heap.size ∧ Marks w W' Ds) → QB .normal a' W') := by
          rw [← hqb]
          exact fun a' W' h => h
        have eN : esN (pre ++ [(⟨(x1', (⟨kt, kn, ks⟩, ⟨vt, vn, vs⟩)), hxs⟩ : EnX)]) = esN pre ++ showE (⟨kt, kn, ks⟩, ⟨vt, vn, vs⟩) := by unfold esN; rw [List.flatMap_append]; simp
        rw [eN] at HQB
        obtain ⟨P0, HP0⟩ : ∃ p0 : Bs, Hid (S0 ++ [91] ++ esN pre = p0) := ⟨S0 ++ [91] ++ esN pre, Eq.refl (S0 ++ [91] ++ esN pre)⟩
        rw [← List.append_assoc, HP0.out] at HQB
        rw [HP0.out] at HI HI2 pl
        clear h1 h2 h4 bX ha hr hl r hlen hqb eN hxs
        have l1 := HXS.out.1.len
        have l2 := HXS.out.2.len
        gi_wp2
        refine ⟨trivial, ?_⟩
        refine (CallsIn.inRound l' (callsIn_wide.2 (showVal_shw (v := ⟨kt, kn, ks⟩) HXS.out.1))).mono ?_
        rintro e' w3 ⟨rfl, f3⟩
        have HA3 : Hid (OutS w W B P0 (.slice ba P0.length bc) w3 P0 (.slice ba P0.length bc)) := OutS.fresh HI.out f3
        have x3 := f3.cell x3
        have x4 := f3.cell x4
        have x5 := f3.cell x5
        have xl := Nat.lt_of_lt_of_le xl f3.size
        clear f3 x0 x1 x2
        gi_wp2
        refine ⟨trivial, ?_⟩
        refine (CallsIn.inRound l' (callsIn_wide.2 (showVal_shw (v := ⟨vt, vn, vs⟩) HXS.out.2))).mono ?_
        rintro e' w4 ⟨rfl, f4⟩
        have HA4 : Hid (OutS w W B P0 (.slice ba P0.length bc) w4 P0 (.slice ba P0.length bc)) := HA3.out.trans (OutS.fresh HA3.out.o f4)
        clear f4 x3 x4 x5 xl HA3
        obtain ⟨K1, HK1⟩ : ∃ k1, Hid (showV ⟨kt, kn, ks⟩ = k1) := ⟨_, rfl⟩
        obtain ⟨K2, HK2⟩ : ∃ k2, Hid (showV ⟨vt, vn, vs⟩ = k2) := ⟨_, rfl⟩
        have HSE : Hid (showE (⟨kt, kn, ks⟩, ⟨vt, vn, vs⟩) = K1 ++ [61] ++ K2 ++ [59]) := by rw [← HK1.out, ← HK2.out]; exact rfl
        rw [HK1.out] at l1 ⊢
        rw [HK2.out] at l2 ⊢
        have y0 := HA4.out.o.h.cell 0
        have y1 := HA4.out.o.h.frozen 0
        have yl := HA4.out.o.h.lt
        simp only [List.getElem?_toArray, List.getElem?_cons_zero] at y0
        gi_wp2_with (gi_at_builtin; go_must (refine wpListIn_appStr row_u8b (by kernel_rfl) _ rfl (.tmp 34) (.tmp 35) rfl (.slice ba P0.length bc) P0.length (byteCells P0) rfl HA4.out.o.own K1 rfl ?bd ?go))
        case bd => omega
        case go =>
          intro b5 cap5 w5 q1 q2 q3
          have HA5 : Hid (OutS w W B P0 (.slice ba P0.length bc) (w5.setCell ⟨B, 0, none⟩ (.slice b5 (P0.length + K1.length) cap5)) (P0 ++ K1) (.slice b5 (P0.length + K1.length) cap5)) := HA4.out.trans (HA4.out.o.step (Fr.refl _ _) q1 rfl q2 q3)
          have hz : Has w5 B #[.slice ba P0.length bc] 59 := HA4.out.o.h.fr q2 (fun e => HA4.out.o.ne e)
          have y0 := hz.cell 0
          have y1 := hz.frozen 0
          have yl := hz.lt
          simp only [List.getElem?_toArray, List.getElem?_cons_zero] at y0
          obtain ⟨P1, HP1⟩ : ∃ p : Bs, Hid (P0 ++ K1 = p) := ⟨P0 ++ K1, Eq.refl (P0 ++ K1)⟩
          rw [HP1.out] at HA5
          have HE1 : Hid (P1.length = P0.length + K1.length) := by rw [← HP1.out, List.length_append]; exact rfl
          clear q1 q2 q3 hz
          gi_wp2_with (gi_at_builtin; go_must (refine wpListIn_appN row_u8b _ rfl (.tmp 37) (.tmp 38) rfl (.slice b5 (P0.length + K1.length) cap5) (P0.length + K1.length) (byteCells P1) rfl ?own w5.heap.size 1 1 [.int .u8 61] rfl ?hB rfl (by omega) (by simp [Value.oneCell']) ?bd ?go2))
          case own => have := HA5.out.o.own; rw [HE1.out] at this; exact owns_alloc this _
          case hB => exact Has.newC _ _ _ (by simp [World.setCell])
          case bd => omega
          case go2 =>
            intro g6 cap6 w6 q1 q2 q3 q4
            have HA6 : Hid (OutS w W B P0 (.slice ba P0.length bc) (w6.setCell ⟨B, 0, none⟩ (.slice (some ⟨g6, 0, none⟩) (P0.length + K1.length + 1) cap6)) (P1 ++ [61]) (.slice (some ⟨g6, 0, none⟩) (P0.length + K1.length + 1) cap6)) :=
              HA5.out.trans (HA5.out.o.step (t := [61]) ((Fr.refl _ _).alloc _) q1 (by rw [HE1.out]; rfl) q2 (fun g' hg' => by
                have e : g' = g6 := by simpa [Value.ownBlock] using hg'.symm
                rw [e]
                rcases q3 with x | x
                · exact .inl x
                · exact .inr (by rw [x]; simp [World.setCell])))
            obtain ⟨P2, HP2⟩ : ∃ p : Bs, Hid (P1 ++ [61] = p) := ⟨P1 ++ [61], Eq.refl (P1 ++ [61])⟩
            rw [HP2.out] at HA6
            have HE2 : Hid (P2.length = P0.length + K1.length + 1) := by rw [← HP2.out, List.length_append, HE1.out]; exact rfl
            have hz : Has w6 B #[.slice b5 (P0.length + K1.length) cap5] 59 := (HA5.out.o.h.alloc _).fr q2 (fun e => HA5.out.o.ne e)
            have y0 := hz.cell 0
            have y1 := hz.frozen 0
            have yl := hz.lt
            simp only [List.getElem?_toArray, List.getElem?_cons_zero] at y0
            clear q1 q2 q3 q4 hz HA5
            gi_wp2_with (gi_at_builtin; go_must (refine wpListIn_appStr row_u8b (by kernel_rfl) _ rfl (.tmp 40) (.tmp 41) rfl (.slice (some ⟨g6, 0, none⟩) (P0.length + K1.length + 1) cap6) (P0.length + K1.length + 1) (byteCells P2) rfl ?own K2 rfl ?bd ?go3))
            case own => have := HA6.out.o.own; rw [HE2.out] at this; exact this
            case bd => omega
            case go3 =>
              intro b7 cap7 w7 q1 q2 q3
              have HA7 : Hid (OutS w W B P0 (.slice ba P0.length bc) (w7.setCell ⟨B, 0, none⟩ (.slice b7 (P0.length + K1.length + 1 + K2.length) cap7)) (P2 ++ K2) (.slice b7 (P0.length + K1.length + 1 + K2.length) cap7)) := HA6.out.trans (HA6.out.o.step (Fr.refl _ _) q1 (by rw [HE2.out]) q2 (fun g' hg' => by have := q3 g' hg'; simpa [World.setCell] using this))
              obtain ⟨P3, HP3⟩ : ∃ p : Bs, Hid (P2 ++ K2 = p) := ⟨P2 ++ K2, Eq.refl (P2 ++ K2)⟩
              rw [HP3.out] at HA7
              have HE3 : Hid (P3.length = P0.length + K1.length + 1 + K2.length) := by rw [← HP3.out, List.length_append, HE2.out]; exact rfl
              have hz : Has w7 B #[.slice (some ⟨g6, 0, none⟩) (P0.length + K1.length + 1) cap6] 59 := HA6.out.o.h.fr q2 (fun e => HA6.out.o.ne e)
              have y0 := hz.cell 0
              have y1 := hz.frozen 0
              have yl := hz.lt
              simp only [List.getElem?_toArray, List.getElem?_cons_zero] at y0
              clear q1 q2 q3 hz HA6
              gi_wp2_with (gi_at_builtin; go_must (refine wpListIn_appN row_u8b _ rfl (.tmp 43) (.tmp 44) rfl (.slice b7 (P0.length + K1.length + 1 + K2.length) cap7) (P0.length + K1.length + 1 + K2.length) (byteCells P3) rfl ?own w7.heap.size 1 1 [.int .u8 59] rfl ?hB rfl (by omega) (by simp [Value.oneCell']) ?bd ?go4))
              case own => have := HA7.out.o.own; rw [HE3.out] at this; exact owns_alloc this _
              case hB => exact Has.newC _ _ _ (by simp [World.setCell])
              case bd => omega
              case go4 =>
                intro g8 cap8 w8 q1 q2 q3 q4
                have HA8 : Hid (OutS w W B P0 (.slice ba P0.length bc) (w8.setCell ⟨B, 0, none⟩ (.slice (some ⟨g8, 0, none⟩) (P0.length + K1.length + 1 + K2.length + 1) cap8)) (P3 ++ [59]) (.slice (some ⟨g8, 0, none⟩) (P0.length + K1.length + 1 + K2.length + 1) cap8)) :=
                  HA7.out.trans (HA7.out.o.step (t := [59]) ((Fr.refl _ _).alloc _) q1 (by rw [HE3.out]; rfl) q2 (fun g' hg' => by
                    have e : g' = g8 := by simpa [Value.ownBlock] using hg'.symm
                    rw [e]
                    rcases q3 with x | x
                    · exact .inl x
                    · exact .inr (by rw [x]; simp [World.setCell])))
                have hz : Has w8 B #[.slice b7 (P0.length + K1.length + 1 + K2.length) cap7] 59 := (HA7.out.o.h.alloc _).fr q2 (fun e => HA7.out.o.ne e)
                have y0 := hz.cell 0
                have y1 := hz.frozen 0
                have yl := hz.lt
                simp only [List.getElem?_toArray, List.getElem?_cons_zero] at y0
                have eS : P0 ++ showE (⟨kt, kn, ks⟩, ⟨vt, vn, vs⟩) = P3 ++ [59] := by rw [HSE.out, ← HP3.out, ← HP2.out, ← HP1.out]; simp
                have eL : (P3 ++ [59]).length = P0.length + K1.length + 1 + K2.length + 1 := by rw [List.length_append, HE3.out]; rfl
                rw [eS] at HQB
                have FIN : Hid (∀ a', QB .normal a' (w8.setCell ⟨B, 0, none⟩ (.slice (some ⟨g8, 0, none⟩) (P0.length + K1.length + 1 + K2.length + 1) cap8))) := fun a' => by
                  refine HQB.out a' _ ⟨HA8.out.k.from _, HA8.out.x _ (fun k hk => by omega) (fun x => x.2.1 rfl) (fun g' hg' x => ?_), some ⟨g8, 0, none⟩, cap8, by rw [eL]; exact HA8.out.o, fun g' hg' => ?_, Nat.le_trans h3 HA8.out.k.size, HI4.out.keep HA8.out.k⟩
                  · rcases HI2.out g' hg' with e | e
                    · exact x.2.2 e
                    · exact Nat.lt_irrefl _ (Nat.lt_of_lt_of_le x.1 e)
                  · rw [eL] at hg'
                    rcases HA8.out.n g' hg' with e | e
                    · exact HI2.out g' e
                    · exact .inr (by omega)
                clear q1 q2 q3 q4 hz HA7 eS eL HQB HA8 HSE
                gi_wp2
                exact FIN.out _
      case done =>
        rintro D ys W9 hD hS ⟨ba, bc, h1, h2, h3, h4⟩ hK
        have eY : esN ys = t.order.flatMap showE := by
          have e1 : esN ys = (ys.map Subtype.val).flatMap (fun x => showE x.2) := by unfold esN; rw [List.flatMap_map]
          rw [e1, hS, allL_flat _ _ (by omega), show t.order.length - 0 = t.order.length from rfl, List.take_length]
        have eS0 : S0 ++ [91] ++ esN ys ++ [93] = shN xs (h + 1) := by rw [shN_succ HX.out, HS0.out, eY]; simp [showTb]
        have eS : Hid (S0 ++ [91] ++ esN ys ++ [93] = shN xs (h + 1)) := eS0
        have eL : (esN ys).length ≤ 4160 := by rw [eY]; have := es_len t.order HVV.out; omega
        have pl : (S0 ++ [91] ++ esN ys).length ≤ 60000 := by simp only [List.length_append, List.length_cons, List.length_nil]; omega
        have HI : Hid (OutI w W9 B (S0 ++ [91] ++ esN ys) (.slice ba (S0 ++ [91] ++ esN ys).length bc)) := h1
        have HMK : Hid (Marks w W9 (D :: Ds)) := ⟨fun D' hD' => by
          rcases List.mem_cons.1 hD' with e | e
          · rw [e]; exact ⟨hK, by have := HSB.out; omega⟩
          · exact h4.h D' e, List.nodup_cons.2 ⟨fun hm => by have := HDL.out D hm; omega, h4.nd⟩⟩
        obtain ⟨P0, HP0⟩ : ∃ p0 : Bs, Hid (S0 ++ [91] ++ esN ys = p0) := ⟨S0 ++ [91] ++ esN ys, Eq.refl (S0 ++ [91] ++ esN ys)⟩
        rw [HP0.out] at HI eS pl
        have y0 := HI.out.h.cell 0
        have y1 := HI.out.h.frozen 0
        have yl := HI.out.h.lt
        simp only [List.getElem?_toArray, List.getElem?_cons_zero] at y0
        rw [← ha]
        clear h1 h2 h4 hK ha hS eY eL eS0
        gi_wp2_with (gi_at_builtin; go_must (refine wpListIn_appN row_u8b _ rfl (.tmp 46) (.tmp 47) rfl (.slice ba P0.length bc) P0.length (byteCells P0) rfl ?own W9.heap.size 1 1 [.int .u8 93] rfl ?hB rfl (by omega) (by simp [Value.oneCell']) ?bd ?go))
        case own => exact owns_alloc HI.out.own _
        case hB => exact Has.new _ _ _
        case bd => omega
        case go =>
          intro g9 cap9 w9 q1 q2 q3 q4
          have HA9 : Hid (OutS w W9 B P0 (.slice ba P0.length bc) (w9.setCell ⟨B, 0, none⟩ (.slice (some ⟨g9, 0, none⟩) (P0.length + 1) cap9)) (P0 ++ [93]) (.slice (some ⟨g9, 0, none⟩) (P0.length + 1) cap9)) :=
            HI.out.step (t := [93]) ((Fr.refl _ _).alloc _) q1 rfl q2 (fun g' hg' => by
              have e : g' = g9 := by simpa [Value.ownBlock] using hg'.symm
              rw [e]
              rcases q3 with x | x
              · exact .inl x
              · exact .inr (by rw [x]; simp))
          have hz : Has w9 B #[.slice ba P0.length bc] 59 := (HI.out.h.alloc _).fr q2 (fun e => HI.out.ne e)
          have y0 := hz.cell 0
          have y1 := hz.frozen 0
          have yl := hz.lt
          simp only [List.getElem?_toArray, List.getElem?_cons_zero] at y0
          have HFIN : Hid (OutI w (w9.setCell ⟨B, 0, none⟩ (.slice (some ⟨g9, 0, none⟩) (P0.length + 1) cap9)) B (shN xs (h + 1)) (.slice (some ⟨g9, 0, none⟩) (shN xs (h + 1)).length cap9)) := by
            rw [← eS.out, List.length_append]
            exact HA9.out.o
          have HMF : Hid (Marks w (w9.setCell ⟨B, 0, none⟩ (.slice (some ⟨g9, 0, none⟩) (P0.length + 1) cap9)) (D :: Ds)) := HMK.out.keep HA9.out.k
          clear q1 q2 q3 q4 hz HA9 eS
          gi_wp2
          exact ⟨⟨h + 1, D :: Ds, some ⟨g9, 0, none⟩, cap9, by omega, ⟨_, _, _, _, _, _, _, _, _, _, _, _, _, _, _, _, _, _, _, _, _, _, _, _, _, _, _, _, _, _, _, _, _, _, _, _, _, _, _, _, _, _, _, rfl⟩, HFIN, HMF⟩, by simp [intOf]; omega⟩
      case stop => exact fun _ _ _ _ _ _ x => x.elim
end
end Go.Proofs.Qxb6500579aGreat
