/-
  THE WALK of the parser layer: flat.go: chain.
-/
import Derived.Test.Qxb6500574aGreatDoorWFl1
import Derived.Test.Qxb6500574aGreatDoorWFlK
import Derived.Handy
import Derived.Deep.LoopGhost
namespace Go.Proofs.Qxb6500574aGreatDoor
open Go Go.RowKit
set_option linter.unusedVariables false
set_option linter.unusedSimpArgs false
open Go.Lib
section
set_option maxRecDepth 100000
set_option maxHeartbeats 1000000
variable {w : World} {o : Nat → Nat} {sb : Nat} {nm tk : Value} {sn : Sl} {A N : List Nd} {P : Nat → Prop} {lo hi n f : Nat} {v V : Value} {ms : List Mb} {m : Bks}
/-- what laying a tree comes to -/
def LayQ (w : World) (o : Nat → Nat) (sb : Nat) (nm tk : Value) (A N : List Nd) (lo n : Nat) (e : Ending) (w' : World) : Prop := e = .returned (.int .i64 (n : Nat)) ∧ ∃ o' sn', FRep w' o' sb nm tk sn' (A ++ segN N lo n) ∧ Stp QF w o w' o'
/-- what laying a list comes to -/
def ChQ (w : World) (o : Nat → Nat) (sb : Nat) (nm tk : Value) (A N : List Nd) (lo hi f : Nat) (e : Ending) (w' : World) : Prop := e = .returned (.int .i64 (f : Nat)) ∧ ∃ o' sn', FRep w' o' sb nm tk sn' (A ++ fulN N lo hi) ∧ Stp QF w o w' o'
theorem Shp.k0 {d : Nd} {kids : List Mb} {ls : List Ls} (h : Shp d lo n v kids m ls) : 1 ≤ d.k := by
  cases h using Shp.on <;> dsimp only <;> omega
theorem TrA.in_ (h : TrA w P N lo n v) : n < N.length := by
  cases h using TrA.on with
  | mk lo n v d kids mem ls hd hm hl hk hb hz hn sh =>
    apply Decidable.byContradiction
    intro hc
    have e : N.getD n nd0 = nd0 := by rw [List.getD_eq_getElem?_getD, List.getElem?_eq_none (by omega)]; rfl
    have := sh.k0
    rw [← hd, e] at this
    exact absurd this (by decide)
theorem TrA.st {Q : Nat → Prop} {w' : World} {o' : Nat → Nat} (h : TrA w P N lo n v) (hP : ∀ k, P k → k < w.heap.size ∧ o k = 0) (t : Stp Q w o w' o') (hq : ¬ Q 0) : TrA w' P N lo n v :=
  h.up (fun k hk => ⟨hk, t.fr.block k (hP k hk).1 (by rw [(hP k hk).2]; exact hq)⟩) (fun _ _ _ => rfl) rfl
theorem Mm.st {Q : Nat → Prop} {w' : World} {o' : Nat → Nat} (h : Mm w P m) (hP : ∀ k, P k → k < w.heap.size ∧ o k = 0) (t : Stp Q w o w' o') (hq : ¬ Q 0) : Mm w' P m := fun x hx => ⟨(h x hx).1, t.has (h x hx).2 (by rw [(hP x.1 (h x hx).1).2]; exact hq)⟩
/-- the blocks of the tree, in a later world -/
theorem pst {Q : Nat → Prop} {w' : World} {o' : Nat → Nat} (hP : ∀ k, P k → k < w.heap.size ∧ o k = 0) (t : Stp Q w o w' o') : ∀ k, P k → k < w'.heap.size ∧ o' k = 0 := fun k hk => ⟨Nat.lt_of_lt_of_le (hP k hk).1 t.fr.size, (t.ext k (hP k hk).1).trans (hP k hk).2⟩
/-- laying a member, by its contract -/
def LayC (N : List Nd) (mx : Nat) : Prop := ∀ {w o sb nm tk sn A lo n v} {P : Nat → Prop}, TrA w P N lo n v → Ok3 N n → (∀ k, P k → k < w.heap.size ∧ o k = 0) → n < mx → FRep w o sb nm tk sn A → A.length = lo + 1 → Calls Tryz.prog 99 #[.pointer (some ⟨sb, 0, none⟩), v] w (LayQ w o sb nm tk A N lo n)
/-- a round's state -/
def ChI (w : World) (o : Nat → Nat) (sb : Nat) (nm tk : Value) (A N : List Nd) (lo f : Nat) (ms : List Mb) (g : Nat) (v5 v6 v12 : Value) (w1 : World) : Prop :=
  ∃ j, j + g = ms.length ∧ v12 = .int .i64 (j : Nat) ∧ v5 = .int .i64 ((if j = 0 then 0 else f : Nat) : Int) ∧ v6 = .int .i64 ((if j = 0 then 0 else endJ lo ms j : Nat) : Int) ∧ ∃ o' sn', FRep w1 o' sb nm tk sn' (if j = 0 then A else A ++ segN N lo (endJ lo ms j)) ∧ Stp QF w o w1 o'
theorem chain_any {mx : Nat} (LC : LayC N mx) (hN : N.length ≤ 3000) (hL : Lst N lo hi f ms) (hT : ∀ x ∈ ms, TrA w P N x.1 x.2.1 x.2.2) (hO : ∀ x ∈ ms, Ok3 N x.2.1) (hx : hi < mx) (hV : SlM ms V m) (hM : Mm w P m) (hP : ∀ k, P k → k < w.heap.size ∧ o k = 0) (F : FRep w o sb nm tk sn A) (hA : A.length = lo + 1) :
    Calls Tryz.prog 63 #[.pointer (some ⟨sb, 0, none⟩), V] w (ChQ w o sb nm tk A N lo hi f) := by
  have HL : Hid (Lst N lo hi f ms) := hL
  have HT : Hid (∀ x ∈ ms, TrA w P N x.1 x.2.1 x.2.2) := hT
  have HP : Hid (∀ k, P k → k < w.heap.size ∧ o k = 0) := hP
  have HO : Hid (∀ x ∈ ms, Ok3 N x.2.1) := hO
  have HF : Hid (FRep w o sb nm tk sn A) := F
  have HLC : Hid (LayC N mx) := LC
  have HM : Hid (Mm w P m) := hM
  have hlen : ms.length ≤ 3000 := by
    have h1 : ∀ {l : List Mb} {lo hi f : Nat}, Lst N lo hi f l → lo + l.length ≤ hi := by
      intro l
      induction l with
      | nil => intro lo hi f h; rw [h.1]; exact Nat.le_refl _
      | cons y r ih => intro lo hi f h; have := ih h.2.2.2; have := h.2.1; simp only [List.length_cons]; omega
    have h2 := h1 hL
    cases ms with
    | nil => simp
    | cons y r =>
      have h3 := (hL.mem y (by simp))
      have h4 : ∀ (l : List Mb) (lo hi f : Nat), Lst N lo hi f l → l ≠ [] → ∃ x ∈ l, x.2.1 = hi := by
        intro l
        induction l with
        | nil => intro _ _ _ _ h; exact absurd rfl h
        | cons z q ih =>
          intro lo hi f h _
          cases q with
          | nil => exact ⟨z, by simp, h.2.2.2.1.symm⟩
          | cons z2 q2 =>
            obtain ⟨x, a, b⟩ := ih _ _ _ h.2.2.2 (by simp)
            exact ⟨x, List.mem_cons_of_mem _ a, b⟩
      obtain ⟨x, a, b⟩ := h4 _ _ _ _ hL (by simp)
      have := (hT x a).in_
      omega
  have hVF : ∃ sa cp, V = .slice sa ms.length cp ∧ Hid (∀ (j : Nat) (x : Mb), ms[j]? = some x → ∃ g, sa = some ⟨g, 0, none⟩ ∧ P g ∧ ms.length ≤ cp ∧ w.cell? ⟨g, j, none⟩ = some x.2.2) := by
    rcases hV with ⟨h1, h2, h3⟩ | ⟨g, c, cs, h1, h2, h3, h4, h5⟩
    · subst h1
      exact ⟨_, _, h2, fun j x hx => by simp at hx⟩
    · subst h5
      refine ⟨_, _, h1, fun j x hx => ⟨g, rfl, (hM (g, cs, 206) (by simp)).1, h3, ?_⟩⟩
      rw [(hM (g, cs, 206) (by simp)).2.cell]
      exact h4 j x hx
  obtain ⟨sa, cp, rfl, HV⟩ := hVF
  have HS : Hid (ChI w o sb nm tk A N lo f ms ms.length (.int .i64 0) (.int .i64 0) (.int .i64 0) w) := ⟨0, by omega, rfl, rfl, rfl, o, sn, F, Stp.refl _ _ _⟩
  have HX : Hid (hi < mx) := hx
  have HA : Hid (A.length = lo + 1) := hA
  clear hL hT hP hO F LC hM hV hx hA
  obtain ⟨c, HCC⟩ : ∃ c, Hid (ms.length = c) := ⟨_, rfl⟩
  rw [HCC.out] at hlen HS ⊢
  go_enter Tryz.func63, Tryz.ntmps63
  go_wp2_with fail
  go_loopg [5, 6, 12] c (fun g v5 v6 v12 w1 => Hid (ChI w o sb nm tk A N lo f ms g v5 v6 v12 w1))
  case atStart => exact HS
  case round =>
    obtain ⟨j, hj, rfl, rfl, rfl, o1, sn1, hF1, hS1⟩ := hrel.out
    have hQ0 : ¬ QF 0 := by unfold QF; omega
    have HF1 : Hid (FRep wr o1 sb nm tk sn1 (if j = 0 then A else A ++ segN N lo (endJ lo ms j))) := hF1
    have HS1 : Hid (Stp QF w o wr o1) := hS1
    rw [HCC.out] at hj
    have HP1 : Hid (∀ k, P k → k < wr.heap.size ∧ o1 k = 0) := pst HP.out hS1
    clear hF1 hS1 hrel HS
    by_cases hjl : j < c
    · obtain ⟨x, hx⟩ : ∃ x, ms[j]? = some x := ⟨_, List.getElem?_eq_getElem (by rw [HCC.out]; exact hjl)⟩
      have hmem := List.mem_of_getElem? hx
      obtain ⟨y1, y2, y3, y4, y5, y6⟩ := HL.out.at hx
      have hxm := HL.out.mem x hmem
      have hxx := HX.out
      obtain ⟨g, hsa, hPg, hcap, hcell⟩ := HV.out j x hx
      subst hsa
      rw [HCC.out] at hcap
      have hgl := (HP1.out g hPg).1
      have hc : wr.cell? ⟨g, j, none⟩ = some x.2.2 := by
        rw [HS1.out.cellQ (HP.out g hPg).1 (by rw [(HP.out g hPg).2]; exact hQ0)]
        exact hcell
      have hT1 : TrA wr P N x.1 x.2.1 x.2.2 := (HT.out x hmem).st HP.out HS1.out hQ0
      have hin := hT1.in_
      have HT1 : Hid (TrA wr P N x.1 x.2.1 x.2.2) := hT1
      obtain ⟨tt, bb, hv⟩ := hT1.ptr
      have e1 : decide (j < c) = true := decide_eq_true hjl
      have hxj : Hid (ms[j]? = some x) := hx
      have HO1 : Hid (Ok3 N x.2.1) := HO.out x hmem
      obtain ⟨x1, x2, x3⟩ := x
      dsimp only at y1 y2 y3 y4 y5 y6 hxm hc hv hin
      subst hv
      clear hT1 hcell hx hmem
      by_cases hj0 : j = 0
      · subst hj0
        have HY : Hid (f = x2 ∧ x1 = lo) := y5 rfl
        have HF2 : Hid (FRep wr o1 sb nm tk sn1 A) := HF1.out
        have CL : Hid (Calls Tryz.prog 99 #[.pointer (some ⟨sb, 0, none⟩), .iface tt (.pointer (some ⟨bb, 0, none⟩))] wr (LayQ wr o1 sb nm tk A N x1 x2)) := HLC.out HT1.out HO1.out HP1.out (by omega) HF2.out (by rw [HA.out, HY.out.2])
        clear y5 y6 y3 HF1
        simp only [if_true]
        go_wp2_with fail
        refine CL.out.mono ?_
        rintro e9 w2 ⟨rfl, o2, sn2, q1, q2⟩
        have HF3 : Hid (FRep w2 o2 sb nm tk sn2 (A ++ segN N x1 x2)) := q1
        have HS3 : Hid (Stp QF wr o1 w2 o2) := q2
        clear q1 q2 CL
        go_wp2_with fail
        obtain ⟨c', HC'⟩ : ∃ c', Hid (c = c' + 1) := ⟨c - 1, by show c = _; omega⟩
        go_roundg c'
        case measure => have := HC'.out; omega
        case rel =>
          have hc' := HC'.out
          obtain ⟨h1, h2⟩ := HY.out
          have h3 := (HL.out.at hxj.out).2.2.1
          dsimp only at h3
          refine ⟨1, by rw [HCC.out]; omega, rfl, ?_, ?_, o2, sn2, ?_, HS1.out.trans HS3.out⟩
          · rw [if_neg (by decide), h1]
          · rw [if_neg (by decide), h3]
          · rw [if_neg (by decide), h3, ← h2]
            exact HF3.out
      · obtain ⟨z1, z2⟩ := y6 (by omega)
        rw [if_neg hj0] at HF1
        simp only [if_neg hj0]
        rw [← y1] at HF1 ⊢
        have HF2 : Hid (FRep wr o1 sb nm tk sn1 (A ++ segN N lo x1)) := HF1.out
        have hA1 : (A ++ segN N lo x1).length = x1 + 1 := by
          rw [List.length_append, segN_len, HA.out]
          omega
        have CL : Hid (Calls Tryz.prog 99 #[.pointer (some ⟨sb, 0, none⟩), .iface tt (.pointer (some ⟨bb, 0, none⟩))] wr (LayQ wr o1 sb nm tk (A ++ segN N lo x1) N x1 x2)) := HLC.out HT1.out HO1.out HP1.out (by omega) HF2.out hA1
        have hx1 : ((x1 : Int) == 0) = false := by simp; omega
        have HY3 : Hid (endJ lo ms (j + 1) = x2) := y3
        have HZ2 : Hid ((N.getD x1 nd0).next = x2) := z2
        clear y5 y6 HF1 y1 y3 z2
        go_wp2_with fail
        refine CL.out.mono ?_
        rintro e9 w2 ⟨rfl, o2, sn2, q1, q2⟩
        have hAl : (A ++ segN N lo x1 ++ segN N x1 x2).length = x2 + 1 := by
          rw [List.length_append, segN_len, hA1]
          omega
        obtain ⟨gn, r1, r2, r3, r4, r5, r6⟩ := q1.row.cells (by rw [hAl]; omega)
        rw [hAl] at r2 r5
        have b2 := q1.blk.has.cell 2
        have bl := q1.blk.has.lt
        rw [hAl] at b2
        simp only [List.getElem?_toArray, List.getElem?_cons_succ, List.getElem?_cons_zero, Sl.v, r1] at b2
        have n4 : ∃ u, w2.cell? ⟨gn, x1 * 8 + 4, none⟩ = some (.int .i64 u) := by
          rw [r5 _ (by omega), flat_at4 (by rw [hAl]; omega)]
          exact ⟨_, rfl⟩
        obtain ⟨u4, n4⟩ := n4
        have z4 := r6 (x1 * 8 + 4)
        obtain ⟨p1, p2⟩ := q1.link r1 (i := x1) (x := x2) (by rw [hAl]; omega)
        have hsg := seg_link (N := N) HA.out (by omega) y2
        rw [HZ2.out] at hsg
        rw [hsg] at p1
        have HF3 : Hid (FRep (w2.setCell ⟨gn, x1 * 8 + 4, none⟩ (.int .i64 (x2 : Nat))) o2 sb nm tk sn2 (A ++ segN N lo x2)) := p1
        have HS3 : Hid (Stp QF wr o1 (w2.setCell ⟨gn, x1 * 8 + 4, none⟩ (.int .i64 (x2 : Nat))) o2) := q2.trans p2
        clear q1 q2 CL p1 p2 r5 r6
        go_wp2_with fail
        obtain ⟨g', HG'⟩ : ∃ g', Hid (gk = g' + 1) := ⟨gk - 1, by show gk = _; omega⟩
        go_roundg g'
        case measure => have := HG'.out; omega
        case rel =>
          have hg' := HG'.out
          refine ⟨j + 1, by rw [HCC.out]; omega, by simp, ?_, ?_, o2, sn2, ?_, HS1.out.trans HS3.out⟩
          · rw [if_neg (by omega)]
          · rw [if_neg (by omega), HY3.out]
          · rw [if_neg (by omega), HY3.out]
            exact HF3.out
    · have e1 : decide (j < c) = false := decide_eq_false hjl
      have hjc : j = c := by omega
      have HJC : Hid (j = c) := hjc
      clear hjc
      have hend := HL.out.end
      rw [HCC.out, ← HJC.out] at hend
      by_cases hj0 : j = 0
      · have hms : ms = [] := List.length_eq_zero_iff.1 (by rw [HCC.out, ← HJC.out]; exact hj0)
        have hl := HL.out
        rw [hms] at hl
        obtain ⟨h1, h2⟩ := hl
        rw [if_pos hj0] at HF1
        simp only [if_pos hj0]
        have H1 : Hid (hi = lo ∧ f = 0) := ⟨h1, h2⟩
        clear hms h1 h2 hend
        go_wp2_with fail
        go_ret
        obtain ⟨h1, h2⟩ := H1.out
        refine ⟨by rw [h2]; rfl, o1, sn1, ?_, HS1.out⟩
        rw [h1, fulN_self, List.append_nil]
        exact HF1.out
      · rw [if_neg hj0] at HF1
        simp only [if_neg hj0]
        have HEND : Hid (endJ lo ms j = hi) := hend
        clear hend
        go_wp2_with fail
        go_ret
        refine ⟨rfl, o1, sn1, ?_, HS1.out⟩
        have := HF1.out
        rw [HEND.out, seg_ful (HL.out.last (fun e => hj0 (by rw [HJC.out, ← HCC.out, e]; rfl)))] at this
        exact this
end
end Go.Proofs.Qxb6500574aGreatDoor
