/-
  THE WALKS of runlaw.Mark, Steps, Args.
-/
import Derived.Test.Qxb6500575aGreatDoorSSt
import Derived.Test.Qxb6500575aGreatDoorProgOps0
namespace Go.Proofs.Qxb6500575aGreatDoor
open Go Go.RowKit
set_option linter.unusedVariables false
set_option linter.unusedSimpArgs false

set_option maxRecDepth 100000
set_option maxHeartbeats 1000000
section
variable {w0 w : World} {Y : LayR} {x : BelD} {m : ModD} {n : Int} {d : KD} {hi : Int} {args : List BV}
theorem rmark_any (h : RX w0 w Y x m n d hi args) : Calls Tryz.prog 14 #[.pointer (some ⟨Y.bb, 0, none⟩)] w fun e w' => e = .returned (.tuple #[]) ∧ RX w0 w' Y x m 0 d hi args ∧ Fr (fun k => k = Y.bp) w w' := by
  have c2 := h.bel.here.cell 2
  simp at c2
  have HM : Hid (Calls _ _ _ _ _) := mark_any _ _ _ _ _ h.prog
  have H : Hid (RX w0 w Y x m n d hi args) := h
  clear h
  go_enter Tryz.func14, Tryz.ntmps14
  go_wp2_with fail
  refine HM.out.mono ?_
  rintro e w1 ⟨rfl, h1, h2⟩
  have FIN : Hid (RX w0 w1 Y x m 0 d hi args ∧ Fr (fun k => k = Y.bp) w w1) := ⟨H.out.steps h1 h2, h2⟩
  clear h1 h2 HM H c2
  go_wp2
  go_end0
  exact ⟨rfl, FIN.out⟩
theorem rsteps_any (h : RX w0 w Y x m n d hi args) : Calls Tryz.prog 17 #[.pointer (some ⟨Y.bb, 0, none⟩)] w fun e w' => e = .returned (.int .i64 n) ∧ w' = w := by
  have c2 := h.bel.here.cell 2
  simp at c2
  have HM : Hid (Calls _ _ _ _ _) := steps_any _ _ _ _ _ h.prog
  clear h
  go_enter Tryz.func17, Tryz.ntmps17
  go_wp2_with fail
  refine HM.out.mono ?_
  rintro e w1 ⟨rfl, rfl⟩
  clear HM
  go_wp2
  go_ret
  exact ⟨rfl, rfl⟩
/-- what Args comes to -/
def argsP (args : List BV) (o : OpD) : List BV := if o.kind = 9 ∧ args.length ≤ 5 then args ++ [⟨UInt8.ofNat (o.a % 256).toNat, o.b⟩] else args
def ArgsFr (Y : LayR) (w w' : World) (aa' : Option Addr) : Prop := Fr (fun k => (Value.slice Y.aa 0 0).ownBlock = some k) w w' ∧ ∀ k, (Value.slice aa' 0 0).ownBlock = some k → (Value.slice Y.aa 0 0).ownBlock = some k ∨ w.heap.size ≤ k
theorem rargs_any (h : RX w0 w Y x m n d hi args) (o : OpD) : Calls Tryz.prog 12 #[.slice Y.aa args.length Y.ac, o.val] w fun e w' => ∃ aa' ac', e = .returned (.slice aa' (argsP args o).length ac') ∧ RX w0 w' { Y with aa := aa', ac := ac' } x m n d hi (argsP args o) ∧ ArgsFr Y w w' aa' := by
  obtain ⟨kind, oa, ob, oc, os, ot⟩ := o
  unfold OpD.val argsP
  simp only
  have HF : Hid (∀ o : Obj, RX w0 (w.alloc o) Y x m n d hi args ∧ ArgsFr Y w (w.alloc o) Y.aa) := fun o => ⟨h.fresh ((Fr.refl _ _).alloc _), (Fr.refl _ _).alloc _, fun k hk => .inl hk⟩
  by_cases hk : kind = 9
  · subst hk
    by_cases hl : args.length ≤ 5
    · rw [if_pos ⟨rfl, hl⟩]
      obtain ⟨k, HK⟩ : ∃ k, Hid (args.length = k) := ⟨_, rfl⟩
      rw [HK.out] at hl ⊢
      have hl2 : (k : Int) ≤ 5 := by omega
      have HU : Hid (oa % 256 = ((UInt8.ofNat (oa % 256).toNat).toNat : Int)) := by
        show _ = _
        simp
        omega
      have HR : Hid (World.ownsRow w 0 70 2 (.slice Y.aa k Y.ac) k (bvCells args)) := by
        have := h.row
        rw [HK.out] at this
        exact this
      have HNEW : Hid (Has ((w.alloc (.cells #[.int .i64 9, .int .i64 oa, .int .i64 ob, .int .i64 oc, sv os, sv ot] 39)).alloc (.cells #[.int .u8 (oa % 256), .int .i64 ob] 70)) (w.heap.size + 1) #[.int .u8 (oa % 256), .int .i64 ob] 70) := by
        have := Has.new (w.alloc (.cells #[.int .i64 9, .int .i64 oa, .int .i64 ob, .int .i64 oc, sv os, sv ot] 39)) #[.int .u8 (oa % 256), .int .i64 ob] 70
        show Has _ _ _ _
        simpa using this
      have H : Hid (RX w0 w Y x m n d hi args) := h
      clear h
      go_enter Tryz.func12, Tryz.ntmps12
      go_wp2_with (at_builtin; go_must (refine wpList_app rowVals _ rfl (.tmp 13) (.tmp 20) rfl _ _ _ rfl (owns_alloc (owns_alloc HR.out _) _) _ [.int .u8 (oa % 256), .int .i64 ob] rfl HNEW.out rfl ?one ?bd ?go))
      case one => simp [Value.oneCell']
      case bd => omega
      case go =>
        intro g cap w1 q1 q2 q3 q4
        obtain ⟨W, HW⟩ : ∃ W, Hid (W = (w.alloc (.cells #[.int .i64 9, .int .i64 oa, .int .i64 ob, .int .i64 oc, sv os, sv ot] 39)).alloc (.cells #[.int .u8 (oa % 256), .int .i64 ob] 70)) := ⟨_, rfl⟩
        rw [← HW.out] at q2
        have hw : Fr (fun _ => False) w W := by rw [HW.out]; exact ((Fr.refl _ _).alloc _).alloc _
        have hsz : W.heap.size = w.heap.size + 1 + 1 := by rw [HW.out]; simp
        have hq3 : (Value.slice Y.aa 0 0).ownBlock = some g ∨ w.heap.size ≤ g := by
          rcases q3 with q3 | q3
          · exact .inl (by rw [ownBlock_any _ _ _ 0 0] at q3; exact q3)
          · right; omega
        have e1 : bvCells args ++ [.int .u8 (oa % 256), .int .i64 ob] = bvCells (args ++ [⟨UInt8.ofNat (oa % 256).toNat, ob⟩]) := by
          simp only [bvCells, List.flatMap_append, List.flatMap_cons, List.flatMap_nil, List.append_nil]
          rw [← HU.out]
        have e2 : k + 1 = (args ++ [⟨UInt8.ofNat (oa % 256).toNat, ob⟩] : List BV).length := by simp [HK.out]
        rw [e1, e2] at q1
        have hA1 : ArgsFr Y w w1 (some ⟨g, 0, none⟩) := by
          refine ⟨(hw.weaken (fun _ _ h => h.elim)).trans q2 (fun k hk h => ?_), fun k hk => ?_⟩
          · rw [ownBlock_any _ _ _ 0 0] at h; exact h
          · simp [Value.ownBlock] at hk
            subst hk
            exact hq3
        have FIN : Hid (RX w0 w1 { Y with aa := some ⟨g, 0, none⟩, ac := cap } x m n d hi (args ++ [⟨UInt8.ofNat (oa % 256).toNat, ob⟩]) ∧ ArgsFr Y w w1 (some ⟨g, 0, none⟩)) := ⟨H.out.argsTo q1 hA1.1 hA1.2, hA1⟩
        rw [e2]
        clear q1 q2 q3 q4 hw hsz hq3 e1 e2 HW hA1
        go_wp2
        go_ret
        exact ⟨_, _, rfl, FIN.out⟩
    · rw [if_neg (fun h => hl h.2)]
      obtain ⟨k, HK⟩ : ∃ k, Hid (args.length = k) := ⟨_, rfl⟩
      rw [HK.out] at hl ⊢
      have hl2 : decide ((k : Int) ≤ 5) = false := by simp; omega
      clear hl h
      go_enter Tryz.func12, Tryz.ntmps12
      go_wp2
      go_ret
      exact ⟨_, _, rfl, HF.out _⟩
  · rw [if_neg (fun h => hk h.1)]
    obtain ⟨k, HK⟩ : ∃ k, Hid (args.length = k) := ⟨_, rfl⟩
    rw [HK.out]
    have hk2 : (kind == 9) = false := by simpa using hk
    clear hk h
    go_enter Tryz.func12, Tryz.ntmps12
    go_wp2
    go_ret
    exact ⟨_, _, rfl, HF.out _⟩
end
end Go.Proofs.Qxb6500575aGreatDoor
