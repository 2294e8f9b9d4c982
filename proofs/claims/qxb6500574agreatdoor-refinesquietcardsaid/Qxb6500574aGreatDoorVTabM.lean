/-
  THE TABLES UNDER THE MACHINE: Get, Set, Make, Reset, Len seen from the machine.
-/
import Derived.Test.Qxb6500574aGreatDoorVBri
import Derived.Test.Qxb6500574aGreatDoorVSet
import Derived.Test.Qxb6500574aGreatDoorVGet
import Derived.Test.Qxb6500574aGreatDoorVNewT
import Derived.Test.Qxb6500574aGreatDoorVMake
import Derived.Test.Qxb6500574aGreatDoorVReset
import Derived.Test.Qxb6500574aGreatDoorVCore
namespace Go.Proofs.Qxb6500574aGreatDoor
open Go Go.RowKit
set_option linter.unusedVariables false
set_option linter.unusedSimpArgs false

theorem rep_at {α : Type} {n j : Nat} {a : α} (h : j < n) : (List.replicate n a)[j]? = some a := by
  rw [List.getElem?_replicate, if_pos h]
section
variable {w w1 w2 : World} {A : VL} {m : VMD} {f e i h : Nat} {td : TabD}
theorem VRep.setTabs (r : VRep w A m f e) {o' : Nat → Nat} (s : Stp isTb w A.o w1 o') {s' : Sl} {tl' : List TbL} {tabs' : List TabD} (hk : ∃ k, (tl'.length = tabs'.length + k ∧ tl'.length ≤ 12) ∧ TabsRep w1 o' A.bt A.bn s' tabs'.length ((tabs' ++ List.replicate k tab0).zip tl')) :
    VRep w1 { A with o := o', ts := s', tl := tl' } { m with tabs := tabs' } f e ∧ VSt isVM w A w1 { A with o := o', ts := s', tl := tl' } := by
  have c := r.core.st s (fun l hl hq => by unfold isCo at hl; unfold isTb at hq; omega)
  have hX := r.lenX
  have h5 := r.len5
  refine ⟨⟨⟨c.here, c.protos, c.descs, c.consts, c.code, c.clos, c.upix, c.cells, c.out⟩, r.ths.st s (by simp [hX]; omega) (fun l hl hq => by unfold isTh at hl; unfold isTb at hq; omega), r.lenX, r.len5, r.num.st s (by unfold isTb; omega) (by unfold isTb; omega), hk, s.hi r.own⟩, s.weaken (fun k hk => by unfold isVM; unfold isTb at hk; omega), rfl, rfl, rfl, rfl, rfl⟩
/-- table h, where it lies -/
theorem VRep.tabAt (r : VRep w A m f e) (ht : m.tabs[h]? = some td) : ∃ k l g, (A.tl.length = m.tabs.length + k ∧ A.tl.length ≤ 12) ∧ TabsRep w A.o A.bt A.bn A.ts m.tabs.length ((m.tabs ++ List.replicate k tab0).zip A.tl) ∧ ((m.tabs ++ List.replicate k tab0).zip A.tl)[h]? = some (td, l) ∧ A.ts.a = some ⟨g, 0, none⟩ := by
  obtain ⟨k, hk, hT⟩ := r.tabs
  have hlt := (List.getElem?_eq_some_iff.1 ht).1
  have hl : h < A.tl.length := by omega
  have hx : ((m.tabs ++ List.replicate k tab0).zip A.tl)[h]? = some (td, A.tl[h]) := by
    rw [List.getElem?_zip_eq_some]
    exact ⟨by rw [List.getElem?_append_left hlt]; exact ht, List.getElem?_eq_getElem hl⟩
  obtain ⟨g, ga, _⟩ := hT.at hx
  exact ⟨k, _, g, hk, hT, hx, ga⟩
theorem set_vm (r : VRep w A m f e) (ht : m.tabs[h]? = some td) (hf : TFit td) (h12 : m.tabs.length ≤ 12) {k v : Vl} (hk : wellV k = true) (hv : wellV v = true) (hkn : k.t = 2 → k.n < 18446744073709551616) :
    Calls Tryz.prog 82 #[.pointer (some ⟨A.bt, 0, none⟩), .int .i64 h, k.val, v.val] w fun e' w' => e' = .returned (.int .i64 (td.put k v).1) ∧ ∃ A', VRep w' A' { m with tabs := m.tabs.set h (td.put k v).2 } f e ∧ VSt isVM w A w' A' ∧ A'.X = A.X := by
  obtain ⟨kk, l, g, h1, h2, h3, h4⟩ := r.tabAt ht
  have hlt := (List.getElem?_eq_some_iff.1 ht).1
  refine (set_any (⟨h2, h3, h4, hf, hlt, h12, r.own, hk, hv, hkn⟩ : SetP _ _ _ _ _ _ _ _ _ _ _ _ _)).mono ?_
  rintro e' w' ⟨rfl, o', l', q1, q2⟩
  have hz : ((m.tabs ++ List.replicate kk tab0).zip A.tl).set h ((td.put k v).2, l') = ((m.tabs.set h (td.put k v).2) ++ List.replicate kk tab0).zip (A.tl.set h l') := by
    rw [← zip_set, List.set_append_left _ _ hlt]
  rw [hz] at q1
  obtain ⟨s1, s2⟩ := r.setTabs (tabs' := m.tabs.set h (td.put k v).2) (tl' := A.tl.set h l') (s' := A.ts) (q2.weaken (fun k hk => by unfold isB at hk; unfold isTb; omega)) ⟨kk, by simpa using h1, by simpa using q1⟩
  exact ⟨rfl, _, s1, s2, rfl⟩
theorem get_vm (r : VRep w A m f e) (ht : m.tabs[h]? = some td) (hf : TFit td) (h12 : m.tabs.length ≤ 12) {k : Vl} (hk : wellV k = true) (hkn : k.t = 2 → k.n < 18446744073709551616) :
    Calls Tryz.prog 296 #[.pointer (some ⟨A.bt, 0, none⟩), .int .i64 h, k.val] w fun e w' => e = .returned (.tuple #[(td.get k).val, .int .i64 0]) ∧ Fr (fun _ => False) w w' := by
  obtain ⟨kk, l, g, h1, h2, h3, h4⟩ := r.tabAt ht
  exact get_any h2 h3 hf (List.getElem?_eq_some_iff.1 ht).1 h12 k hk hkn
theorem len_vm (r : VRep w A m f e) (ht : m.tabs[h]? = some td) (hf : TFit td) (h12 : m.tabs.length ≤ 12) :
    Calls Tryz.prog 313 #[.pointer (some ⟨A.bt, 0, none⟩), .int .i64 h] w fun e w' => e = .returned (.tuple #[.int .i64 td.len, .int .i64 0]) ∧ Fr (fun _ => False) w w' := by
  obtain ⟨kk, l, g, h1, h2, h3, h4⟩ := r.tabAt ht
  exact len_any h2 h3 hf (List.getElem?_eq_some_iff.1 ht).1 h12
theorem make_vm (r : VRep w A m f e) (h12 : m.tabs.length < 12) :
    Calls Tryz.prog 81 #[.pointer (some ⟨A.bt, 0, none⟩)] w fun e' w' => e' = .returned (.tuple #[.int .i64 m.tabs.length, .int .i64 0]) ∧ ∃ A', VRep w' A' { m with tabs := m.tabs ++ [tab0] } f e ∧ VSt isVM w A w' A' ∧ A'.X = A.X := by
  obtain ⟨k, hk, hT⟩ := r.tabs
  have hzl : ((m.tabs ++ List.replicate k tab0).zip A.tl).length = m.tabs.length + k := by simp [hk.1]
  cases k with
  | zero =>
    refine (make_grow hT h12 (by rw [hzl]; rfl)).mono ?_
    rintro e' w' ⟨rfl, o', s', l', q1, q2⟩
    have hz : (m.tabs ++ List.replicate 0 tab0).zip A.tl ++ [(tab0, l')] = ((m.tabs ++ [tab0]) ++ List.replicate 0 tab0).zip (A.tl ++ [l']) := by
      simp only [List.replicate_zero, List.append_nil]
      rw [List.zip_append (by omega)]
      rfl
    rw [hz] at q1
    obtain ⟨s1, s2⟩ := r.setTabs (tabs' := m.tabs ++ [tab0]) (tl' := A.tl ++ [l']) (s' := s') q2 ⟨0, by simp [hk.1]; omega, by simpa using q1⟩
    exact ⟨rfl, _, s1, s2, rfl⟩
  | succ k =>
    have hle : ((m.tabs ++ List.replicate (k + 1) tab0).zip A.tl).length ≤ 12 := by
      rw [hzl]; omega
    refine (make_wait hT h12 (by rw [hzl]; omega) hle).mono ?_
    rintro e' w' ⟨rfl, q1, q2⟩
    have hz : (m.tabs ++ List.replicate (k + 1) tab0) = (m.tabs ++ [tab0]) ++ List.replicate k tab0 := by
      rw [List.replicate_succ]; simp
    rw [hz] at q1
    obtain ⟨s1, s2⟩ := r.setTabs (tabs' := m.tabs ++ [tab0]) (tl' := A.tl) (s' := A.ts) q2 ⟨k, ⟨by simp; omega, hk.2⟩, by simpa using q1⟩
    exact ⟨rfl, _, s1, s2, rfl⟩
theorem makeFull_vm (r : VRep w A m f e) (h12 : m.tabs.length = 12) : Calls Tryz.prog 81 #[.pointer (some ⟨A.bt, 0, none⟩)] w fun e w' => e = .returned (.tuple #[.int .i64 (-1), .int .i64 8]) ∧ w' = w := by
  obtain ⟨k, hk, hT⟩ := r.tabs
  exact make_full hT h12
theorem reset_vm (r : VRep w A m f e) (h12 : m.tabs.length ≤ 12) :
    Calls Tryz.prog 79 #[.pointer (some ⟨A.bt, 0, none⟩)] w fun e' w' => e' = .returned (.tuple #[]) ∧ ∃ A', VRep w' A' { m with tabs := [] } f e ∧ VSt isVM w A w' A' ∧ A'.X = A.X := by
  obtain ⟨k, hk, hT⟩ := r.tabs
  refine (reset_any hT h12).mono ?_
  rintro e' w' ⟨rfl, q1, q2⟩
  have hz : wiped m.tabs.length ((m.tabs ++ List.replicate k tab0).zip A.tl) = (([] : List TabD) ++ List.replicate (m.tabs.length + k) tab0).zip A.tl := by
    apply List.ext_getElem?
    intro j
    have hk1 := hk.1
    unfold wiped
    by_cases hj : j < m.tabs.length
    · have hjl : j < A.tl.length := by omega
      rw [List.getElem?_append_left (by simp; omega)]
      rw [List.getElem?_map, List.getElem?_take_of_lt hj]
      have e1 : ((m.tabs ++ List.replicate k tab0).zip A.tl)[j]? = some (m.tabs[j], A.tl[j]) := by
        rw [List.getElem?_zip_eq_some]
        exact ⟨by rw [List.getElem?_append_left hj]; exact List.getElem?_eq_getElem hj, List.getElem?_eq_getElem hjl⟩
      rw [e1]
      symm
      rw [Option.map_some, List.getElem?_zip_eq_some]
      exact ⟨by rw [List.nil_append]; exact rep_at (by omega), List.getElem?_eq_getElem hjl⟩
    · rw [List.getElem?_append_right (by simp; omega)]
      have hlen : ((((m.tabs ++ List.replicate k tab0).zip A.tl).take m.tabs.length).map (fun x => (tab0, x.2))).length = m.tabs.length := by simp; omega
      rw [hlen, List.getElem?_drop, show m.tabs.length + (j - m.tabs.length) = j by omega]
      by_cases hjl : j < A.tl.length
      · have e1 : ((m.tabs ++ List.replicate k tab0).zip A.tl)[j]? = some (tab0, A.tl[j]) := by
          rw [List.getElem?_zip_eq_some]
          exact ⟨by rw [List.getElem?_append_right (by omega)]; exact rep_at (by omega), List.getElem?_eq_getElem hjl⟩
        rw [e1]
        symm
        rw [List.getElem?_zip_eq_some]
        exact ⟨by rw [List.nil_append]; exact rep_at (by omega), List.getElem?_eq_getElem hjl⟩
      · rw [List.getElem?_eq_none (by simp; omega), List.getElem?_eq_none (by simp; omega)]
  rw [hz] at q1
  obtain ⟨s1, s2⟩ := r.setTabs (tabs' := []) (tl' := A.tl) (s' := A.ts) q2 ⟨m.tabs.length + k, ⟨by simp [hk.1], hk.2⟩, by simpa using q1⟩
  exact ⟨rfl, _, s1, s2, rfl⟩
end
end Go.Proofs.Qxb6500574aGreatDoor
