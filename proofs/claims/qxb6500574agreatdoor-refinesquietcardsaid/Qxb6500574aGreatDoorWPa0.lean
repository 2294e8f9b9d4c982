/-
  THE WALK of the parser layer: the parser: its block, its small steps.
-/
import Derived.Test.Qxb6500574aGreatDoorWAs0
import Derived.Test.Qxb6500574aGreatDoorReg9
import Derived.Test.Qxb6500574aGreatDoorVUp
namespace Go.Proofs.Qxb6500574aGreatDoor
open Go Go.RowKit
set_option linter.unusedVariables false
set_option linter.unusedSimpArgs false
open Go.Lib
/-- the parser's cells -/
def pC (sl : Sl) (L i : Nat) (t : Tok) (al lp fu er pl : Nat) : Array Value := #[sl.v L, .int .i64 i, .int .i64 t.k, .int .i64 t.p, sv t.s, .int .u64 t.n, .int .i64 t.e, .int .i64 al, .int .i64 lp, .int .i64 fu, .int .i64 er, .int .i64 pl]
/-- an error stands in the parser -/
def PErr (w : World) (o : Nat → Nat) (bp er p : Nat) : Prop := ∃ cs, Blk w o 1043 bp cs 146 ∧ cs[10]? = some (.int .i64 er) ∧ cs[11]? = some (.int .i64 p)
section
set_option maxRecDepth 100000
set_option maxHeartbeats 1000000
variable {w : World} {o : Nat → Nat} {bp : Nat} {sl : Sl} {L i : Nat} {t : Tok} {al lp fu er pl : Nat}
/-- the parser passes a token -/
theorem pnext_any {T : List Tok} {t' : Tok} (hB : Blk w o 1043 bp (pC sl T.length i t al lp fu er pl) 146) (hR : Row w o 1041 132 5 sl T.length (T.flatMap tokC)) (hi : i ≤ 3000) (ht : T[i + 1]? = some t') :
    Calls Tryz.prog 155 #[.pointer (some ⟨bp, 0, none⟩)] w fun e w' => e = .returned (.tuple #[]) ∧ Blk w' o 1043 bp (pC sl T.length (i + 1) t' al lp fu er pl) 146 ∧ Stp (fun l => l = 1043) w o w' o := by
  obtain ⟨g, g1, g2, g3, g4, g5, g6⟩ := hR.at tokC_len ht
  have hlt := (List.getElem?_eq_some_iff.1 ht).1
  have hne : g ≠ bp := fun e => by
    have := hB.lb
    rw [← e, g3] at this
    omega
  have f0 := g5 0 (by decide)
  have f1 := g5 1 (by decide)
  have f2 := g5 2 (by decide)
  have f3 := g5 3 (by decide)
  have f4 := g5 4 (by decide)
  simp only [tokC, List.getElem?_cons_succ, List.getElem?_cons_zero, Nat.add_zero] at f0 f1 f2 f3 f4
  have b := hB.has.lt
  have z := hB.has.frozen
  have c0 := hB.has.cell 0
  have c1 := hB.has.cell 1
  have c2 := hB.has.cell 2
  have c3 := hB.has.cell 3
  have c4 := hB.has.cell 4
  have c5 := hB.has.cell 5
  have c6 := hB.has.cell 6
  simp only [pC, List.getElem?_toArray, List.getElem?_cons_succ, List.getElem?_cons_zero, Sl.v, g1] at c0 c1 c2 c3 c4 c5 c6
  have z1 := z 1
  have z2 := z 2
  have z3 := z 3
  have z4 := z 4
  have z5 := z 5
  have z6 := z 6
  have HFIN : Hid (Blk (((((((w.setCell ⟨bp, 1, none⟩ (.int .i64 ((i : Int) + 1))).setCell ⟨bp, 2, none⟩ (.int .i64 t'.k)).setCell ⟨bp, 3, none⟩ (.int .i64 t'.p)).setCell ⟨bp, 4, none⟩ (sv t'.s)).setCell ⟨bp, 5, none⟩ (.int .u64 t'.n)).setCell ⟨bp, 6, none⟩ (.int .i64 t'.e)).drew) o 1043 bp (pC sl T.length (i + 1) t' al lp fu er pl) 146 ∧ Stp (fun l => l = 1043) w o (((((((w.setCell ⟨bp, 1, none⟩ (.int .i64 ((i : Int) + 1))).setCell ⟨bp, 2, none⟩ (.int .i64 t'.k)).setCell ⟨bp, 3, none⟩ (.int .i64 t'.p)).setCell ⟨bp, 4, none⟩ (sv t'.s)).setCell ⟨bp, 5, none⟩ (.int .u64 t'.n)).setCell ⟨bp, 6, none⟩ (.int .i64 t'.e)).drew) o) := by
    obtain ⟨p1, q1⟩ := hB.put 1 (.int .i64 ((i : Int) + 1)) rfl
    obtain ⟨p2, q2⟩ := p1.put 2 (.int .i64 t'.k) rfl
    obtain ⟨p3, q3⟩ := p2.put 3 (.int .i64 t'.p) rfl
    obtain ⟨p4, q4⟩ := p3.put 4 (sv t'.s) rfl
    obtain ⟨p5, q5⟩ := p4.put 5 (.int .u64 t'.n) rfl
    obtain ⟨p6, q6⟩ := p5.put 6 (.int .i64 t'.e) rfl
    exact ⟨⟨p6.has.drew, p6.lb⟩, (q1.trans (q2.trans (q3.trans (q4.trans (q5.trans q6))))).drew⟩
  clear hB hR z g5 g6
  go_enter Tryz.func155, Tryz.ntmps155
  go_wp2_with fail
  refine wp_region_tail 11 (by kernel_rfl) (by kernel_rfl) (fun _ _ _ _ _ h => h) ?_
  simp only [List.take_succ_cons, List.take_zero, List.drop_succ_cons, List.drop_zero]
  repeat go_big_quiet_step (fail)
  refine wpQuiet_nil ?_
  go_wp2_with fail
  go_end0
  exact ⟨rfl, HFIN.out⟩
/-- the parser fails -/
theorem fail_any {T : List Tok} {x : Nat} (hB : Blk w o 1043 bp (pC sl T.length i t al lp fu er pl) 146) :
    Calls Tryz.prog 62 #[.pointer (some ⟨bp, 0, none⟩), .int .i64 x] w fun e w' => e = .returned (.tuple #[]) ∧ PErr w' o bp (if t.k = 1 then t.e else x) t.p ∧ Stp (fun l => l = 1043) w o w' o := by
  have b := hB.has.lt
  have z := hB.has.frozen
  have c2 := hB.has.cell 2
  have c3 := hB.has.cell 3
  have c6 := hB.has.cell 6
  have c10 := hB.has.cell 10
  have c11 := hB.has.cell 11
  simp only [pC, List.getElem?_toArray, List.getElem?_cons_succ, List.getElem?_cons_zero] at c2 c3 c6 c10 c11
  have z1 := z 10
  have z2 := z 11
  have HFIN : ∀ y : Nat, y = (if t.k = 1 then t.e else x) → Hid (PErr ((w.setCell ⟨bp, 10, none⟩ (.int .i64 y)).setCell ⟨bp, 11, none⟩ (.int .i64 t.p)) o bp (if t.k = 1 then t.e else x) t.p ∧ Stp (fun l => l = 1043) w o ((w.setCell ⟨bp, 10, none⟩ (.int .i64 y)).setCell ⟨bp, 11, none⟩ (.int .i64 t.p)) o) := by
    intro y hy
    rw [← hy]
    obtain ⟨p1, q1⟩ := hB.put 10 (.int .i64 y) rfl
    obtain ⟨p2, q2⟩ := p1.put 11 (.int .i64 t.p) rfl
    exact ⟨⟨_, p2, rfl, rfl⟩, q1.trans q2⟩
  clear hB z
  by_cases hk : t.k = 1
  · have hb : ((t.k : Int) == 1) = true := by simp; omega
    have F := HFIN t.e (by rw [if_pos hk])
    rw [if_pos hk] at F ⊢
    clear HFIN
    go_enter Tryz.func62, Tryz.ntmps62
    go_wp2_with fail
    go_end0
    exact ⟨rfl, F.out⟩
  · have hb : ((t.k : Int) == 1) = false := by simp; omega
    have F := HFIN x (by rw [if_neg hk])
    rw [if_neg hk] at F ⊢
    clear HFIN
    go_enter Tryz.func62, Tryz.ntmps62
    go_wp2_with fail
    go_end0
    exact ⟨rfl, F.out⟩
/-- does a block end here? -/
theorem pends_any (hB : Blk w o 1043 bp (pC sl L i t al lp fu er pl) 146) :
    Calls Tryz.prog 97 #[.pointer (some ⟨bp, 0, none⟩)] w fun e w' => e = .returned (.bool (endsB t.k)) ∧ w' = w := by
  have b := hB.has.lt
  have c2 := hB.has.cell 2
  simp only [pC, List.getElem?_toArray, List.getElem?_cons_succ, List.getElem?_cons_zero] at c2
  clear hB
  have hE : Hid (endsB t.k = (t.k == 0 || t.k == 9 || t.k == 7 || t.k == 8)) := rfl
  generalize endsB t.k = E at *
  generalize t.k = k at *
  have e0 : ((k : Int) == 0) = (k == 0) := by rw [Bool.eq_iff_iff]; simp
  have e1 : ((k : Int) == 9) = (k == 9) := by rw [Bool.eq_iff_iff]; simp; omega
  have e2 : ((k : Int) == 7) = (k == 7) := by rw [Bool.eq_iff_iff]; simp; omega
  have e3 : ((k : Int) == 8) = (k == 8) := by rw [Bool.eq_iff_iff]; simp; omega
  go_enter Tryz.func97, Tryz.ntmps97
  cases h0 : (k == 0) <;> cases h1 : (k == 9) <;> cases h2 : (k == 7) <;> cases h3 : (k == 8) <;> rw [h0, h1, h2, h3] at hE <;> rw [h0] at e0 <;> rw [h1] at e1 <;> rw [h2] at e2 <;> rw [h3] at e3 <;> have hE := hE.out <;> simp only [Bool.or_self, Bool.or_true, Bool.true_or, Bool.or_false, Bool.false_or] at hE <;> subst hE
  all_goals
    go_wp2_with fail
    go_ret
    exact ⟨rfl, rfl⟩
end
end Go.Proofs.Qxb6500574aGreatDoor
