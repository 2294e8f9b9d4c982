/-
  THE WALK of table: CheckMid: the numbers.
-/
import Derived.Test.Qxb6500574aGreatDoorUCkM1
namespace Go.Proofs.Qxb6500574aGreatDoor
open Go Go.RowKit
set_option linter.unusedVariables false
set_option linter.unusedSimpArgs false
section
variable {w W : World} {o : Nat → Nat} {bt bn n h g : Nat} {s : Sl} {xs : List (TabD × TbL)} {t : TabD} {l : TbL} {D B : Nat} {sn : List Bool}
set_option maxRecDepth 100000
set_option maxHeartbeats 1000000
theorem cm_nums (r : TabsRep w o bt bn s n xs) (hx : xs[h]? = some (t, l)) (hg : s.a = some ⟨g, 0, none⟩) (hm : TMid t) {es : Array MapEntry} {c : Nat} (h1 : w.heap[l.nums]? = some (.map es c)) (h2 : es.toList.map (fun e => (e.key, e.val)) = ents nk t.nums) (h3 : MapKept.Stamped es c) (hS : Seen w W D B sn (fun q => q ∈ t.arr)) {ri : Nat} (hri : w.heap.size ≤ ri) (hrB : ri ≠ B) (hrD : ri ≠ D) (hit : W.heap[ri]? = some (.mapIter (some l.nums) c #[] c)) {a : Act} (ha : FrM bt g h D B a) (hsl : a.tmps[125]? = some (.pointer (some ⟨ri, 0, none⟩)))
    {Q : Exit → Act → World → Prop} (hE : ∀ a' W' sn', FrM bt g h D B a' → Seen w W' D B sn' (fun q => (q ∈ t.arr) ∨ q ∈ t.nums.map (fun e => e.2)) → Q (.exit 2) a' W') : (loopM Tryz.f145.body 7).wp Tryz.prog Q a W := by
  have HE : Hid (∀ a' W' sn', FrM bt g h D B a' → Seen w W' D B sn' (fun q => (q ∈ t.arr) ∨ q ∈ t.nums.map (fun e => e.2)) → Q (.exit 2) a' W') := hE
  have HR : Hid (TabsRep w o bt bn s n xs) := r
  have HX : Hid (xs[h]? = some (t, l)) := hx
  have HG : Hid (s.a = some ⟨g, 0, none⟩) := hg
  have HM : Hid (TMid t) := hm
  have HM1 : Hid (w.heap[l.nums]? = some (.map es c)) := h1
  have HM2 : Hid (es.toList.map (fun e => (e.key, e.val)) = ents nk t.nums) := h2
  have HM3 : Hid (MapKept.Stamped es c) := h3
  have hal : t.arr.length ≤ 32 := by have := hm.sz; have := hm.ol; omega
  have hml := (Array.getElem?_eq_some_iff.1 h1).1
  simp only [loopM, restM, codeL, codeR, codeIn, Tryz.f145, Option.getD_some]
  refine wp_loop_ghost_k (fun n a' W' => ∃ (seen : Array Nat) (sn : List Bool), n = (leftOf es seen).size ∧ FrM bt g h D B a' ∧ a'.tmps[125]? = some (.pointer (some ⟨ri, 0, none⟩)) ∧ W'.heap[ri]? = some (.mapIter (some l.nums) c seen c) ∧ Seen w W' D B sn (fun q => (q ∈ t.arr) ∨ Gone es seen q)) _ ⟨#[], sn, rfl, ha, hsl, hit, hS.wide (fun q x => .inl x)⟩ ?_
  clear hS ha hsl hit hE r hx hg hm h1 h2 h3
  rintro n a W ⟨seen, sn, rfl, ha, hsl, hit, hS⟩ J KK hJ hKK
  have HJ : Hid (∀ k a' w', _ → J k a' w') := hJ
  have HKK : Hid (∀ a' w', Handed J _ a' w' → KK a' w') := hKK
  clear hJ hKK
  have b0 : W.cell? ⟨bt, 0, none⟩ = some (.pointer (some ⟨bn, 0, none⟩)) := hS.fr.cell (HR.out.here.has.cell 0)
  have bl := Nat.lt_of_lt_of_le HR.out.here.has.lt hS.fr.size
  obtain ⟨u, e, hu⟩ := form249 ha.size ha.df
  have e0 := hu 0 _ ha.t0
  have e4 := hu 4 _ ha.t4
  have e5 := hu 5 _ ha.t5
  have e6 := hu 6 _ ha.t6
  have esl := hu 125 _ hsl
  rw [e0, e4, e5, e6, esl] at e
  subst e
  clear hu e0 e4 e5 e6 esl ha hsl
  have hb : W.heap[l.nums]? = some (.map es c) := (hS.fr.block _ hml (fun x => x)).trans HM1.out
  rcases next_gen (P := Tryz.prog) W 0 ri l.nums c c c seen es hit hb HM3.out.1 (Nat.le_refl _) with ⟨hz, hrun⟩ | ⟨en, hen, W1, hrun, hF1, hit1⟩
  · have hnx : ∀ ty, (Instr.next (.pointer (some ⟨ri, 0, none⟩)) false ty).run Tryz.prog W = .ok (.tuple #[.bool false]) W := fun _ => hrun
    have HS : Hid (Seen w W D B sn (fun q => (q ∈ t.arr) ∨ q ∈ t.nums.map (fun e => e.2))) := hS.wide (fun q x => x.elim .inl (fun y => .inr (gone_mem HM2.out y)))
    clear hrun hb hit hS hz
    go_wp2_with fail
    exact HE.out _ _ _ ⟨by kernel_rfl, rfl, by kernel_rfl, by kernel_rfl, by kernel_rfl, by kernel_rfl⟩ HS.out
  · obtain ⟨hmem, hnb⟩ := left_mem hen
    obtain ⟨⟨yk, yp⟩, hy, hk, hv⟩ := es_mem HM2.out hmem
    dsimp only at hk hv
    have F1 : Fr (fun _ => False) w W1 := hS.fr.trans hF1 (fun j hj x => by omega)
    have hb1 : W1.heap[l.nums]? = some (.map es c) := (F1.block _ hml (fun x => x)).trans HM1.out
    have hent := entry_gen (P := Tryz.prog) W1 ri l.nums c c seen es en hit1 hb1 hmem HM3.out.2.1
    rw [hk, hv] at hrun hent
    have hnx : ∀ ty, (Instr.next (.pointer (some ⟨ri, 0, none⟩)) false ty).run Tryz.prog W = .ok (.tuple #[.bool true, nk yk, .int .i32 yp]) W1 := fun _ => hrun
    have HS1 : Hid (Seen w W1 D B sn (fun q => (q ∈ t.arr) ∨ Gone es seen q)) := hS.mono (hF1.weaken (fun j _ e => by subst e; exact ⟨hri, hrB, hrD⟩))
    have b0 : W1.cell? ⟨bt, 0, none⟩ = some (.pointer (some ⟨bn, 0, none⟩)) := F1.cell (HR.out.here.has.cell 0)
    have bl := Nat.lt_of_lt_of_le HR.out.here.has.lt F1.size
    have hnd := HM.out.nd
    have HNG : Hid (¬ ((yp ∈ t.arr) ∨ Gone es seen yp)) := by
      have hyp : yp ∈ t.nums.map (fun e => e.2) := List.mem_map.2 ⟨_, hy, rfl⟩
      rintro (hq | hq)
      · rw [List.nodup_append, List.nodup_append, List.nodup_append] at hnd
        exact hnd.1.1.2.2 _ hq _ hyp rfl
      · exact not_gone HM2.out (by
          rw [List.nodup_append, List.nodup_append, List.nodup_append] at hnd
          exact hnd.1.1.2.1) hen hv hq
    have HIT : Hid (W1.heap[ri]? = some (.mapIter (some l.nums) c (seen.push en.born) c)) := hit1
    have HNX : Hid (∀ (a' : Act) (W' : World) (sn' : List Bool), FrM bt g h D B a' → a'.tmps[125]? = some (.pointer (some ⟨ri, 0, none⟩)) → W'.heap[ri]? = some (.mapIter (some l.nums) c (seen.push en.born) c) → Seen w W' D B sn' (fun q => ((q ∈ t.arr) ∨ Gone es seen q) ∨ q = yp) → KK a' W') :=
      fun a' W' sn' h1 h2 h3 h4 => HKK.out _ _ (Handed.intro _ (left_shrinks es seen en hen) (HJ.out _ _ _ ⟨seen.push en.born, sn', rfl, h1, h2, h3, h4.wide (fun q hq => by
        rcases hq with (hq | hq) | hq
        · exact .inl hq
        · exact .inr (gone_push hmem hv (.inl hq))
        · exact .inr (gone_push hmem hv (.inr hq)))⟩))
    have HPT : Hid (∃ x, t.order[yp]? = some x ∧ x.1 = numV yk) := HM.out.pn _ hy
    obtain ⟨z1, z2, z3, z4⟩ := HM.out.nz _ hy
    dsimp only at z1 z2 z3 z4
    have hc3 : cmpN 2 yk yk = false := z3
    have g1 : ((yk : Int) == 9223372036854775808) = false := by rw [beq_eq_false_iff_ne]; omega
    have hC : ∀ W, Calls Tryz.prog 134 #[.pointer (some ⟨bn, 0, none⟩), .int .i64 2, .int .u64 yk, .int .u64 yk] W fun e w' => e = .returned (.bool false) ∧ w' = W := fun W => by have := cmp_any (w := W) (.pointer (some ⟨bn, 0, none⟩)) 2 yk yk; rw [hc3] at this; exact this
    have HC : Hid (∀ W, Calls Tryz.prog 134 #[.pointer (some ⟨bn, 0, none⟩), .int .i64 2, .int .u64 yk, .int .u64 yk] W fun e w' => e = .returned (.bool false) ∧ w' = W) := hC
    have HT : Hid (∀ W, Calls Tryz.prog 210 #[.pointer (some ⟨bn, 0, none⟩), .int .u64 yk] W fun e w' => e = .returned (toIntV (toIntN yk)) ∧ w' = W) := fun W => toInt_any _ yk
    have HZ4 : Hid (∀ i : Int, toIntN yk = some i → ¬ (1 ≤ i ∧ i ≤ t.arr.length)) := z4
    clear z1 z2 z3 z4 hc3 hC
    clear hrun hb hb1 hit hit1 hS hF1 F1 hk hv hnd hen hmem hnb
    go_wp2_with fail
    refine (points_seen HR.out HX.out HG.out HM.out.ol HS1.out HPT.out HNG.out).mono ?_
    rintro e' w2 ⟨rfl, q2, q3⟩
    have HIT2 : Hid (w2.heap[ri]? = some (.mapIter (some l.nums) c (seen.push en.born) c)) := by
      have hl := (Array.getElem?_eq_some_iff.1 HIT.out).1
      rw [q3.block ri hl hrB]
      exact HIT.out
    have HQ2 : Hid (Seen w w2 D B (sn.set yp true) (fun q => ((q ∈ t.arr) ∨ Gone es seen q) ∨ q = yp)) := q2
    have b0 : w2.cell? ⟨bt, 0, none⟩ = some (.pointer (some ⟨bn, 0, none⟩)) := q2.fr.cell (HR.out.here.has.cell 0)
    have bl := Nat.lt_of_lt_of_le HR.out.here.has.lt q2.fr.size
    have c1 : w2.cell? ⟨g, h * 6 + 1, none⟩ = some (.slice l.arr.a t.arr.length l.arr.c) := by
      obtain ⟨g', ga, _, _, gl, gc, gf⟩ := HR.out.at HX.out
      rw [HG.out] at ga
      cases ga
      exact q2.fr.cell (gc 1 (by omega))
    have gl2 : g < w2.heap.size := by
      obtain ⟨g', ga, _, _, gl, gc, gf⟩ := HR.out.at HX.out
      rw [HG.out] at ga
      cases ga
      exact Nat.lt_of_lt_of_le gl q2.fr.size
    clear q2 q3
    obtain ⟨NA, HNA⟩ : ∃ x, Hid (t.arr.length = x) := ⟨_, rfl⟩
    rw [HNA.out] at hal c1
    go_wp2_with fail
    refine (HC.out _).mono ?_
    rintro e' w3 ⟨rfl, rfl⟩
    go_wp2_with fail
    refine (HT.out _).mono ?_
    rintro e' w3 ⟨rfl, rfl⟩
    have hz4 := HZ4.out
    rw [HNA.out] at hz4
    cases hti : toIntN yk with
    | none =>
      clear hz4
      simp only [toIntV, Option.getD_none, Option.isSome_none]
      go_wp2_with fail
      refine HNX.out _ _ (sn.set yp true) ?_ ?_ ?_ ?_
      · exact ⟨by kernel_rfl, rfl, by kernel_rfl, by kernel_rfl, by kernel_rfl, by kernel_rfl⟩
      · kernel_rfl
      · exact HIT2.out
      · exact HQ2.out
    | some i =>
      have hz := hz4 i hti
      clear hz4
      simp only [toIntV, Option.getD_some, Option.isSome_some]
      by_cases hi1 : 1 ≤ i
      · have hi2 : (NA : Int) < i := by omega
        have g5 : decide (i ≤ (NA : Int)) = false := by rw [decide_eq_false_iff_not]; omega
        clear hz
        go_wp2_with fail
        refine HNX.out _ _ (sn.set yp true) ?_ ?_ ?_ ?_
        · exact ⟨by kernel_rfl, rfl, by kernel_rfl, by kernel_rfl, by kernel_rfl, by kernel_rfl⟩
        · kernel_rfl
        · exact HIT2.out
        · exact HQ2.out
      · have g5 : decide (1 ≤ i) = false := by rw [decide_eq_false_iff_not]; omega
        clear hz
        go_wp2_with fail
        refine HNX.out _ _ (sn.set yp true) ?_ ?_ ?_ ?_
        · exact ⟨by kernel_rfl, rfl, by kernel_rfl, by kernel_rfl, by kernel_rfl, by kernel_rfl⟩
        · kernel_rfl
        · exact HIT2.out
        · exact HQ2.out
end
end Go.Proofs.Qxb6500574aGreatDoor
