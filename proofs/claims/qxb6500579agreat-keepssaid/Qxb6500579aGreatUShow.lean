/-
  THE WALKS of vm: Out, Ended, Show.
-/
import Derived.Test.Qxb6500579aGreatUSf
import Derived.Test.Qxb6500579aGreatVLd2
import Derived.Test.Qxb6500579aGreatVBri
import Derived.Test.Qxb6500579aGreatU2
namespace Go.Proofs.Qxb6500579aGreat
open Go Go.RowKit
set_option linter.unusedVariables false
set_option linter.unusedSimpArgs false
def showTh (m : VMD) (t : ThD) : Bs := [32, 84] ++ itoaN t.st ++ [44] ++ itoaN t.fn ++ (List.range t.frames.length).flatMap (showF m t)
def upsN (m : VMD) (i k : Nat) : Bs := (List.range k).flatMap fun x => showV (getUp m i x) ++ [44]
def showCl (m : VMD) (i : Nat) : Bs := [32, 67] ++ itoaN (m.clos.getD i cl0).p ++ [91] ++ upsN m i (m.clos.getD i cl0).nup ++ [93]
def showHd (m : VMD) (f e : Nat) : Bs := flat3 [[70], itoaN f, [32, 69], itoaN e, [32, 79], itoaN m.out.length, [58], m.out]
def showM (σ : St) : Bs := showHd σ.m σ.f σ.e ++ σ.m.ths.flatMap (showTh σ.m) ++ (List.range σ.m.clos.length).flatMap (showCl σ.m)
/-- what Show asks of the machine -/
structure ShOk (K : Cx) (m : VMD) : Prop where
  th : m.ths ≠ [] → Slp K m
  cl : m.clos ≠ [] → Slp K m
  ol : m.out.length ≤ 200
theorem DI.sh {σ : St} (D : DI σ) : ∃ K, ShOk K σ.m := by
  by_cases h : σ.e = 0
  · obtain ⟨⟨K, S⟩, _⟩ := D.live h
    exact ⟨K, fun _ => S, fun _ => S, D.ol⟩
  · obtain ⟨E, _⟩ := D.dead h
    exact ⟨⟨0, 0, 0, fun _ => 0, fun _ => 0⟩, fun x => absurd E.h x, fun x => absurd E.l x, D.ol⟩
theorem Slp.stk {K : Cx} {m : VMD} (S : Slp K m) {y : Nat} {u : ThD} (hu : m.ths[y]? = some u) : u.stack.length ≤ 1120 := by
  have T := S.vi.th y u hu
  by_cases hf : u.frames = []
  · rw [T.em hf]; simp
  · have hl : 0 < u.frames.length := List.length_pos_iff.2 hf
    have hft := List.getElem?_eq_getElem (show u.frames.length - 1 < u.frames.length by omega)
    exact T.fr.stackLe hft (by have := (S.sl y u hu).2 _ hft; omega) S.vi.ns12
theorem Room.zero {K : Cx} {t : ThD} (h : Room K 2 t) : Room K 0 t := fun f hf => by have := h f hf; omega
section
variable {w : World} {A : VL} {m : VMD} {f e i : Nat} {t : ThD} {K : Cx}
set_option maxRecDepth 100000
set_option maxHeartbeats 1000000
theorem out_conv (h : VRep w A m f e) : (convert 59 9 (.slice A.C.out.a m.out.length A.C.out.c)).run Tryz.prog w = .ok (sv m.out) w := by
  refine conv_text A.C.out.a A.C.out.c m.out (fun h0 => ?_)
  obtain ⟨g, u1, _, _, _, u5, _⟩ := h.core.out.at bCells_len (j := 0) (List.getElem?_eq_getElem h0)
  refine ⟨_, u1, fun j hj => ?_⟩
  obtain ⟨g2, v1, _, _, _, v5, _⟩ := h.core.out.at bCells_len (j := j) (List.getElem?_eq_getElem hj)
  rw [u1] at v1
  cases v1
  have := v5 0 (by omega)
  rw [addr_lit, Nat.zero_add]
  rw [Nat.mul_one, Nat.add_zero] at this
  rw [this]
  rfl
theorem out_any (h : VRep w A m f e) : Calls Tryz.prog 24 #[.pointer (some ⟨A.b, 0, none⟩)] w fun e' w' => e' = .returned (sv m.out) ∧ w' = w := by
  have d := h.cell0 11
  have dl := h.bl
  simp only [vmCells, List.getElem?_toArray, List.getElem?_cons_succ, List.getElem?_cons_zero, Sl.v] at d
  have hcv := out_conv h
  clear h
  go_enter Tryz.func24, Tryz.ntmps24
  go_wp2_with fail
  go_ret
  exact ⟨rfl, rfl⟩
theorem ended_any (h : VRep w A m f e) : Calls Tryz.prog 41 #[.pointer (some ⟨A.b, 0, none⟩)] w fun e' w' => e' = .returned (.int .i64 e) ∧ w' = w := by
  have d := h.cell0 12
  have dl := h.bl
  simp only [vmCells, List.getElem?_toArray, List.getElem?_cons_succ, List.getElem?_cons_zero, Sl.v] at d
  clear h
  go_enter Tryz.func41, Tryz.ntmps41
  go_wp2_with fail
  go_ret
  exact ⟨rfl, rfl⟩
theorem getUp_any (R : VRep w A m f e) (S : Slp K m) {clo x : Nat} {q : ClD} (hq : m.clos[clo]? = some q) (hx : x < q.nup) {fa : Addr} (hfa : w.cell? fa = some (.int .i64 clo)) (hfb : fa.spot = none) (hfl : fa.block < w.heap.size) :
    Calls Tryz.prog 16 #[.pointer (some ⟨A.b, 0, none⟩), .pointer (some fa), .int .i64 x] w fun e' w' => e' = .returned (getUp m clo x).val ∧ Fr (fun _ => False) w w' := by
  have V := S.vi
  have hcl : clo < K.nc := by rw [← V.kc]; exact (List.getElem?_eq_some_iff.1 hq).1
  have hgd : m.clos.getD clo cl0 = q := by simp [hq]
  obtain ⟨q', c, ce, h1, h2, h3, h4⟩ := UpAt_of V hcl (x := x) (by rw [hgd]; exact hx)
  have hu := UpL.le V S.up
  have hcu := V.cu
  have ee : m.cells.getD (m.upix.getD ((m.clos.getD clo cl0).up + x) 0) ce0 = ce := by simp [h1, h2, h3]
  have U : UpAt m clo x c q' ce := ⟨h1, h2, h3, by have := V.kc; have := V.cn; omega, by omega, by omega⟩
  have hx3 : x < 65536 := by
    obtain ⟨k1, k2, k3⟩ := V.cl q (List.mem_of_getElem? hq)
    omega
  rcases h4 with ⟨h4, _⟩ | ⟨y, u, v, h4, h5, h6, _⟩
  · have e0 : getUp m clo x = ce.v := by unfold getUp; dsimp only; rw [ee, if_neg (by omega)]
    rw [e0]
    exact getUp_closed R U hx3 hfa hfb hfl (by omega)
  · have e0 : getUp m clo x = v := by
      unfold getUp
      dsimp only
      rw [ee, if_pos (by omega), h4]
      simp [VMD.th, h5, h6]
    rw [e0]
    exact getUp_open R U hx3 hfa hfb hfl h4 h5 h6 (by have := S.stk h5; omega)
end
end Go.Proofs.Qxb6500579aGreat
