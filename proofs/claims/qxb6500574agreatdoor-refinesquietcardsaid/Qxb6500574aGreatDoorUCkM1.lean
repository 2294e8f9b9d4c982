/-
  THE WALK of table: CheckMid: the array part.
-/
import Derived.Test.Qxb6500574aGreatDoorUCkM0
namespace Go.Proofs.Qxb6500574aGreatDoor
open Go Go.RowKit
set_option linter.unusedVariables false
set_option linter.unusedSimpArgs false
def restM (c : Option Code) : Nat → Code
  | 0 => c.getD .skip
  | n + 1 => codeR (restM c n)
def loopM (c : Option Code) (n : Nat) : Code := codeIn (codeR (codeL (restM c n)))
section
variable {w W : World} {o : Nat → Nat} {bt bn n h g : Nat} {s : Sl} {xs : List (TabD × TbL)} {t : TabD} {l : TbL} {D B : Nat} {sn : List Bool}
set_option maxRecDepth 100000
set_option maxHeartbeats 1000000
theorem cm_arr (r : TabsRep w o bt bn s n xs) (hx : xs[h]? = some (t, l)) (hg : s.a = some ⟨g, 0, none⟩) (hm : TMid t) (hS : Seen w W D B sn (fun _ => False)) {a : Act} (ha : FrM bt g h D B a) (h100 : a.tmps[100]? = some (.slice l.arr.a t.arr.length l.arr.c)) (h101 : a.tmps[101]? = some (.int .i64 t.arr.length)) (h102 : a.tmps[102]? = some (.int .i64 0))
    {Q : Exit → Act → World → Prop} (hE : ∀ a' W' sn', FrM bt g h D B a' → Seen w W' D B sn' (fun q => q ∈ t.arr) → Q (.exit 0) a' W') : (loopM Tryz.f145.body 6).wp Tryz.prog Q a W := by
  have HE : Hid (∀ a' W' sn', FrM bt g h D B a' → Seen w W' D B sn' (fun q => q ∈ t.arr) → Q (.exit 0) a' W') := hE
  have HR : Hid (TabsRep w o bt bn s n xs) := r
  have HX : Hid (xs[h]? = some (t, l)) := hx
  have HG : Hid (s.a = some ⟨g, 0, none⟩) := hg
  have HM : Hid (TMid t) := hm
  have hal : t.arr.length ≤ 32 := by have := hm.sz; have := hm.ol; omega
  simp only [loopM, restM, codeL, codeR, codeIn, Tryz.f145, Option.getD_some]
  refine wp_loop_ghost_k (fun n a' W' => ∃ (j : Nat) (sn : List Bool), n = t.arr.length - j ∧ j ≤ t.arr.length ∧ FrM bt g h D B a' ∧ a'.tmps[100]? = some (.slice l.arr.a t.arr.length l.arr.c) ∧ a'.tmps[101]? = some (.int .i64 t.arr.length) ∧ a'.tmps[102]? = some (.int .i64 j) ∧ Seen w W' D B sn (fun q => ∃ k, k < j ∧ t.arr[k]? = some q)) _ ⟨0, sn, rfl, Nat.zero_le _, ha, h100, h101, h102, hS.wide (fun q x => x.elim)⟩ ?_
  clear hS ha h100 h101 h102 hE r hx hg hm
  rintro n a W ⟨j, sn, rfl, hj, ha, h100, h101, h102, hS⟩ J KK hJ hKK
  have HJ : Hid (∀ k a' w', _ → J k a' w') := hJ
  have HKK : Hid (∀ a' w', Handed J _ a' w' → KK a' w') := hKK
  clear hJ hKK
  have HS : Hid (Seen w W D B sn (fun q => ∃ k, k < j ∧ t.arr[k]? = some q)) := hS
  have b0 : W.cell? ⟨bt, 0, none⟩ = some (.pointer (some ⟨bn, 0, none⟩)) := hS.fr.cell (HR.out.here.has.cell 0)
  have bl := Nat.lt_of_lt_of_le HR.out.here.has.lt hS.fr.size
  obtain ⟨u, e, hu⟩ := form249 ha.size ha.df
  have e0 := hu 0 _ ha.t0
  have e4 := hu 4 _ ha.t4
  have e5 := hu 5 _ ha.t5
  have e6 := hu 6 _ ha.t6
  rcases Nat.eq_or_lt_of_le hj with heq | hlt
  · have e100 := hu 100 _ h100
    have e101 := hu 101 _ h101
    have e102 := hu 102 _ h102
    rw [e0, e4, e5, e6, e100, e101, e102] at e
    subst e
    subst heq
    clear hu e0 e4 e5 e6 e100 e101 e102 ha h100 h101 h102 hS
    go_wp2_with fail
    exact HE.out _ _ _ ⟨by kernel_rfl, rfl, by kernel_rfl, by kernel_rfl, by kernel_rfl, by kernel_rfl⟩ (HS.out.wide (fun q ⟨k, _, hk⟩ => List.mem_of_getElem? hk))
  · obtain ⟨p, hp⟩ : ∃ p, t.arr[j]? = some p := ⟨_, List.getElem?_eq_getElem hlt⟩
    obtain ⟨ga, x1, x2, x3, x4, x5, x6⟩ := ((HR.out.one h _ HX.out).arr).at aCells_len (show (t, l).1.arr[j]? = some p from hp)
    dsimp only at x1
    rw [x1] at h100
    have p0 := hS.fr.cell (x5 0 (by omega))
    simp only [aCells, List.getElem?_cons_zero, Nat.add_zero, Nat.mul_one] at p0
    have gl := Nat.lt_of_lt_of_le x4 hS.fr.size
    have HPT : Hid (∃ x, t.order[p]? = some x ∧ x.1 = numV (fromIntN ((j : Int) + 1))) := HM.out.pa j p hp
    have HNS : Hid (¬ ∃ k, k < j ∧ t.arr[k]? = some p) := by
      rintro ⟨k, hk, hk2⟩
      have hnd := HM.out.nd
      rw [List.append_assoc, List.append_assoc, List.nodup_append] at hnd
      have h1 := hnd.1
      obtain ⟨l1, e1⟩ := List.getElem?_eq_some_iff.1 hk2
      obtain ⟨l2, e2⟩ := List.getElem?_eq_some_iff.1 hp
      have := (List.getElem_inj h1).1 (e1.trans e2.symm)
      omega
    have HNX : Hid (∀ (a' : Act) (W' : World) (sn' : List Bool), FrM bt g h D B a' → a'.tmps[100]? = some (.slice (some ⟨ga, 0, none⟩) t.arr.length l.arr.c) → a'.tmps[101]? = some (.int .i64 t.arr.length) → a'.tmps[102]? = some (.int .i64 ((j : Int) + 1)) → Seen w W' D B sn' (fun q => (∃ k, k < j ∧ t.arr[k]? = some q) ∨ q = p) → KK a' W') :=
      fun a' W' sn' h1 h2 h3 h4 h5 => HKK.out _ _ (Handed.intro (t.arr.length - (j + 1)) (by omega) (HJ.out _ _ _ ⟨j + 1, sn', rfl, hlt, h1, by rw [x1]; exact h2, h3, h4, h5.wide (fun q hq => by
        rcases hq with ⟨k, hk, hk2⟩ | rfl
        · exact ⟨k, by omega, hk2⟩
        · exact ⟨j, by omega, hp⟩)⟩))
    have e100 := hu 100 _ h100
    have e101 := hu 101 _ h101
    have e102 := hu 102 _ h102
    rw [e0, e4, e5, e6, e100, e101, e102] at e
    subst e
    obtain ⟨NA, HNA⟩ : ∃ x, Hid (t.arr.length = x) := ⟨_, rfl⟩
    rw [HNA.out] at hlt hj hal HNX ⊢
    clear hu e0 e4 e5 e6 e100 e101 e102 ha h100 h101 h102 hS x1 x2 x3 x4 x5 x6 hp
    go_wp2_with fail
    refine (fromInt_any _ _).mono ?_
    rintro e' w1 ⟨rfl, rfl⟩
    go_wp2_with fail
    refine (points_seen HR.out HX.out HG.out HM.out.ol HS.out HPT.out HNS.out).mono ?_
    rintro e' w1 ⟨rfl, q2, q3⟩
    have HQ2 : Hid (Seen w w1 D B (sn.set p true) (fun q => (∃ k, k < j ∧ t.arr[k]? = some q) ∨ q = p)) := q2
    clear q2 q3
    go_wp2_with fail
    refine HNX.out _ _ (sn.set p true) ?_ ?_ ?_ ?_ ?_
    · exact ⟨by kernel_rfl, rfl, by kernel_rfl, by kernel_rfl, by kernel_rfl, by kernel_rfl⟩
    · kernel_rfl
    · kernel_rfl
    · kernel_rfl
    · exact HQ2.out
end
end Go.Proofs.Qxb6500574aGreatDoor
