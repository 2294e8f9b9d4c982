/-
  THE WALK of vm: text.
-/
import Derived.Test.Qxb6500574aGreatDoorVJoin
import Derived.Test.Qxb6500574aGreatDoorVFmt
import Derived.Test.Qxb6500574aGreatDoorVBri
import Derived.Test.Qxb6500574aGreatDoorVFly
import Derived.Test.Qxb6500574aGreatDoorVApi
namespace Go.Proofs.Qxb6500574aGreatDoor
open Go Go.RowKit
set_option linter.unusedVariables false
set_option linter.unusedSimpArgs false

/-- a step that turns the numbers' buffer alone -/
theorem VRep.bufSt {w w1 : World} {A : VL} {m : VMD} {f e : Nat} (h : VRep w A m f e) (hf : Fr (fun j => j = A.bf) w w1) (hT : ∃ S, Txt w1 A.bf S) : VRep w1 A m f e ∧ VSt isVM w A w1 A := by
  obtain ⟨l0, hl0, hb0⟩ := h.num.buf
  have hlb : A.o A.bf = 3 := hb0.lb
  have s : Stp (fun k => k = 3) w A.o w1 A.o := ⟨⟨hf.os, hf.tape, hf.output, hf.size, fun j hj hq => hf.block j hj (fun e => hq (by rw [e]; exact hlb))⟩, fun _ _ => rfl, fun x j hj => x j (Nat.le_trans hf.size hj)⟩
  obtain ⟨S, l, h1, h2, _⟩ := hT
  obtain ⟨k, hk, ht⟩ := h.tabs
  have hX := h.lenX
  have h5 := h.len5
  refine ⟨⟨h.core.st s (fun l hl hq => by unfold isCo at hl; omega), h.ths.st s (by simp [hX]; omega) (fun l hl hq => by unfold isTh at hl; omega), h.lenX, h.len5, ⟨h.num.here.st s (by omega), l, h2, ⟨h1, hlb⟩⟩, ⟨k, hk, ht.st s (fun l hl hq => by unfold isTb at hl; omega)⟩, s.hi h.own⟩, s.weaken (fun k hk => by unfold isVM; omega), rfl, rfl, rfl, rfl, rfl⟩
theorem VRep.txt {w : World} {A : VL} {m : VMD} {f e : Nat} (h : VRep w A m f e) : w.cell? ⟨A.bn, 0, none⟩ = some (.slice (some ⟨A.bf, 0, none⟩) 24 24) ∧ A.bn < w.heap.size ∧ Txt w A.bf [] ∧ A.bn ≠ A.bf := by
  obtain ⟨l0, hl0, hb0⟩ := h.num.buf
  refine ⟨by rw [h.num.here.has.cell]; rfl, h.num.here.has.lt, Txt.start hb0.has hl0, fun e => ?_⟩
  have h1 := h.num.here.lb
  have h2 := hb0.lb
  rw [e] at h1
  omega
def TxPost (v : Vl) (w : World) (A : VL) (m : VMD) (f e : Nat) (e' : Ending) (w' : World) : Prop := e' = .returned (sv (textV v)) ∧ VRep w' A m f e ∧ VSt isVM w A w' A
section
variable {w : World} {A : VL} {m : VMD} {f e : Nat}
set_option maxRecDepth 100000
set_option maxHeartbeats 1000000
theorem text_any (h : VRep w A m f e) (v : Vl) (hw : wellV v = true) (hvn : v.n < 18446744073709551616) : Calls Tryz.prog 305 #[.pointer (some ⟨A.b, 0, none⟩), v.val] w (TxPost v w A m f e) := by
  obtain ⟨Q, HQ⟩ : ∃ Q : Ending → World → Prop, Hid (TxPost v w A m f e = Q) := ⟨_, rfl⟩
  rw [HQ.out]
  have c0 := h.cell0 0
  simp only [vmCells, List.getElem?_toArray, List.getElem?_cons_succ, List.getElem?_cons_zero] at c0
  have hb := h.bl
  have H : Hid (VRep w A m f e) := h
  have HW : Hid (wellV v = true) := hw
  clear h hw
  obtain ⟨vt, vn, vs⟩ := v
  dsimp only at hvn
  have FR : Hid (∀ w', Fr (fun _ => False) w w' → ∀ s, textV ⟨vt, vn, vs⟩ = s → Q (.returned (sv s)) w') := by
    intro w' hf s hs
    rw [← HQ.out]
    exact ⟨by rw [hs], H.out.fresh hf, VSt.fresh hf⟩
  by_cases h0 : vt = 0
  · subst h0
    go_enter Tryz.func305, Tryz.ntmps305
    go_wp2_with fail
    exact FR.out _ ((Fr.refl _ _).alloc _) _ rfl
  by_cases h1 : vt = 1
  · subst h1
    by_cases hz : vn = 0
    · subst hz
      go_enter Tryz.func305, Tryz.ntmps305
      go_wp2_with fail
      exact FR.out _ ((Fr.refl _ _).alloc _) _ rfl
    · have hz2 : ((vn : Int) != 0) = true := by simpa using hz
      have htx : textV ⟨1, vn, vs⟩ = [116, 114, 117, 101] := by simp [textV, hz]
      have HTX : Hid (textV ⟨1, vn, vs⟩ = [116, 114, 117, 101]) := htx
      clear htx h0 hz
      go_enter Tryz.func305, Tryz.ntmps305
      go_wp2_with fail
      exact FR.out _ ((Fr.refl _ _).alloc _) _ HTX.out
  by_cases h2 : vt = 2
  · subst h2
    clear h0 h1
    go_enter Tryz.func305, Tryz.ntmps305
    go_wp2_with fail
    refine wp_region_tail 6 (by kernel_rfl) (by kernel_rfl) (fun _ _ _ _ _ h => h) ?_
    simp only [List.take_succ_cons, List.take_zero, List.drop_succ_cons, List.drop_zero]
    repeat go_big_quiet_step (fail)
    refine wpQuiet_nil ?_
    go_wp2_with fail
    have F1 : Fr (fun _ => False) w ((w.alloc (.cells #[.int .i64 2, .int .u64 vn, sv vs] 68)).drew) := ((Fr.refl _ _).alloc _).drew
    have R1 := H.out.fresh F1
    obtain ⟨t1, t2, t3, t4⟩ := R1.txt
    refine (format_any t1 t2 t3 t4 hvn).mono ?_
    rintro e' w2 ⟨rfl, q1, q2⟩
    obtain ⟨r1, r2⟩ := R1.bufSt q2 q1
    have FIN : Hid (Q (.returned (sv (fmtN vn))) w2) := by
      rw [← HQ.out]
      exact ⟨rfl, r1, (VSt.fresh F1).trans r2⟩
    clear q1 q2 r1 r2 t1 t2 t3 t4 R1 F1
    go_wp2_with fail
    exact FIN.out
  by_cases h3 : vt = 3
  · subst h3
    go_enter Tryz.func305, Tryz.ntmps305
    go_wp2_with fail
    exact FR.out _ ((Fr.refl _ _).alloc _) _ rfl
  by_cases h6 : vt = 6
  · subst h6
    clear h0 h1 h2 h3
    have hv11 : vn ≤ 11 := by
      have := HW.out
      unfold wellV at this
      rw [if_neg (by show ¬ (6 : Int) = 3; decide)] at this
      split at this
      · cases this
      · simp at this
        exact this.2
    go_enter Tryz.func305, Tryz.ntmps305
    go_wp2_with fail
    refine (builtinName_any vn).mono ?_
    rintro e' w' ⟨rfl, rfl⟩
    have hbl := builtin_len vn
    obtain ⟨BN, HBN⟩ : ∃ BN : Bs, Hid (builtinN vn = BN) := ⟨_, rfl⟩
    rw [HBN.out] at hbl ⊢
    go_wp2_with fail
    refine (join_any [[98, 117, 105, 108, 116, 105, 110], [58], BN] rfl (by simp; omega) ?hB (by simp [flat3])).mono ?_
    case hB => exact Has.newC _ _ _ (by simp)
    rintro e' w' ⟨rfl, hf⟩
    have FIN := FR.out w' ((((Fr.refl _ _).alloc _).alloc _).trans hf (fun _ _ x => x)) (flat3 [[98, 117, 105, 108, 116, 105, 110], [58], BN]) (by rw [← HBN.out]; simp [textV, flat3])
    have HFIN : Hid (Q _ _) := FIN
    clear FIN hf
    go_wp2_with fail
    exact HFIN.out
  · go_enter Tryz.func305, Tryz.ntmps305
    go_wp2_with fail
    refine (typeName_any ⟨vt, vn, vs⟩).mono ?_
    rintro e' w2 ⟨rfl, hf⟩
    have k1 : Has w2 (w.heap.size + 1) _ _ := (Has.newC (w.alloc (.cells #[.int .i64 vt, .int .u64 vn, sv vs] 68)) #[sv [98, 117, 105, 108, 116, 105, 110], sv [58], sv []] 9 (by simp)).fr hf (fun x => x)
    have k0 : Has w2 w.heap.size _ _ := ((Has.new w #[.int .i64 vt, .int .u64 vn, sv vs] 68).alloc _).fr hf (fun x => x)
    have F2 : Fr (fun _ => False) w w2 := (((Fr.refl _ _).alloc _).alloc _).trans hf (fun _ _ x => x)
    have htl := type_len ⟨vt, vn, vs⟩
    obtain ⟨TN, HTN⟩ : ∃ TN : Bs, Hid (typeN ⟨vt, vn, vs⟩ = TN) := ⟨_, rfl⟩
    rw [HTN.out] at htl ⊢
    have HF2 : Hid (Fr (fun _ => False) w w2) := F2
    have HK1 : Hid (Has w2 (w.heap.size + 1) #[sv [98, 117, 105, 108, 116, 105, 110], sv [58], sv []] 9) := k1
    have c10 := k1.cell 0
    have c01 := k0.cell 1
    simp only [List.getElem?_toArray, List.getElem?_cons_succ, List.getElem?_cons_zero] at c10 c01
    have z10 := k1.frozen 0
    have l1 := k1.lt
    have l0 := k0.lt
    have hne : w.heap.size ≠ w.heap.size + 1 := by omega
    have hfw : Fr (fun j => j = w.heap.size + 1) w w2 := F2.weaken (fun _ _ x => x.elim)
    have htx : textV ⟨vt, vn, vs⟩ = flat3 [TN, [58], utoaN vn] := by
      have : textV ⟨vt, vn, vs⟩ = typeN ⟨vt, vn, vs⟩ ++ [58] ++ utoaN vn := by simp [textV, h0, h1, h2, h3, h6]
      rw [this, HTN.out]
      simp [flat3]
    have HTX : Hid (textV ⟨vt, vn, vs⟩ = flat3 [TN, [58], utoaN vn]) := htx
    clear htx k1 k0 F2 hf hfw h0 h1 h2 h3 h6
    go_wp2_with fail
    refine (utoa_any vn hvn).mono ?_
    rintro e' w3 ⟨rfl, hf⟩
    have k3 : Has w3 (w.heap.size + 1) #[sv TN, sv [58], sv []] 9 := (HK1.out.put 0 (sv TN)).fr hf (fun x => x)
    have HK3 : Hid (Has w3 (w.heap.size + 1) #[sv TN, sv [58], sv []] 9) := k3
    have c32 := k3.cell 2
    simp only [List.getElem?_toArray, List.getElem?_cons_succ, List.getElem?_cons_zero] at c32
    have z32 := k3.frozen 2
    have l3 := k3.lt
    have hul := utoa_len vn
    have F3 : Fr (fun _ => False) w w3 := (HF2.out.setCell (p := ⟨w.heap.size + 1, 0, none⟩) (.inr (by simp)) _).trans hf (fun _ _ x => x)
    have HF3 : Hid (Fr (fun _ => False) w w3) := F3
    obtain ⟨U, HU⟩ : ∃ U : Bs, Hid (utoaN vn = U) := ⟨_, rfl⟩
    rw [HU.out] at hul HTX ⊢
    clear k3 hf F3
    go_wp2_with fail
    refine (join_any [TN, [58], U] rfl (by simp; omega) ?hB (by simp [flat3]; omega)).mono ?_
    case hB => exact HK3.out.put 2 (sv U)
    rintro e' w' ⟨rfl, hf⟩
    have FIN := FR.out w' ((HF3.out.setCell (p := ⟨w.heap.size + 1, 2, none⟩) (.inr (by simp)) _).trans hf (fun _ _ x => x)) (flat3 [TN, [58], U]) HTX.out
    have HFIN : Hid (Q _ _) := FIN
    clear FIN hf
    go_wp2_with fail
    exact HFIN.out
end
end Go.Proofs.Qxb6500574aGreatDoor
