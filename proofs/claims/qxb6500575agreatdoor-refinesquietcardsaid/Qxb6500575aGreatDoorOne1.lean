import Derived.Test.Qxb6500575aGreatDoorEnv
namespace Go.Proofs.Qxb6500575aGreatDoor
open Go Go.RowKit
set_option linter.unusedVariables false
set_option linter.unusedSimpArgs false

set_option maxHeartbeats 1000000 in
theorem one_1 (B bk : Nat) (fx : CkF) (L : CkL) (s : Ck) (E : Env) (w : World) (h : CkRep B w bk fx L s) (hfit : s.Fit) {b : Blk} {r : List Blk} (ht : s.Top b r) (imm : Int) (hi : 0 ≤ imm ∧ imm ≤ 255) :
    Calls Tryz.prog 88 #[.pointer (some ⟨bk, 0, none⟩), .agg #[.int .i64 1, .int .i64 imm, sv []]] w fun e w' => e = .returned (.int .i64 (s.one E ⟨1, imm, []⟩).2) ∧ ∃ L', CkRep B w' bk fx L' (s.one E ⟨1, imm, []⟩).1 ∧ CkStep w w' bk L L' := by
  have hro : r.length ≤ 900 := by have := hfit.opn; rw [ht.opn] at this; simp at this; omega
  have hbm : b ∈ s.opn := by rw [ht.opn]; simp
  have f1 := hfit.st
  have f2 := hfit.code
  have f3 := hfit.opn
  have f4 := hfit.wait b hbm
  have f5 := hfit.res b hbm
  have f6 := hfit.carry b hbm
  have HC : Hid (∀ w', CkRep B w' bk fx L s → _) := fun w' h' => enter_1 B bk fx L s imm w' h' (by omega) (by omega) (by omega) hi
  have H : Hid (CkRep B w bk fx L s) := h
  have e0 : s.one E ⟨1, imm, []⟩ = s.enter ⟨1, imm, []⟩ := by unfold Ck.one; rw [if_pos (by simp)]
  rw [e0]
  clear e0 h ht hbm
  go_enter Tryz.func88, Tryz.ntmps88
  go_wp2_with fail
  refine (HC.out _ (H.out.alloc _)).mono ?_
  rintro e w1 ⟨rfl, L1, g1, g2⟩
  have FIN : Hid (_ ∧ _) := And.intro g1 (((CkStep.refl w bk L).alloc _).trans g2)
  clear g1 g2 HC H
  go_wp2
  go_ret
  exact ⟨rfl, _, FIN.out⟩

set_option maxHeartbeats 1000000 in
theorem one_2 (B bk : Nat) (fx : CkF) (L : CkL) (s : Ck) (E : Env) (w : World) (h : CkRep B w bk fx L s) (hfit : s.Fit) {b : Blk} {r : List Blk} (ht : s.Top b r) (imm : Int) (hi : 0 ≤ imm ∧ imm ≤ 255) :
    Calls Tryz.prog 88 #[.pointer (some ⟨bk, 0, none⟩), .agg #[.int .i64 2, .int .i64 imm, sv []]] w fun e w' => e = .returned (.int .i64 (s.one E ⟨2, imm, []⟩).2) ∧ ∃ L', CkRep B w' bk fx L' (s.one E ⟨2, imm, []⟩).1 ∧ CkStep w w' bk L L' := by
  have hro : r.length ≤ 900 := by have := hfit.opn; rw [ht.opn] at this; simp at this; omega
  have hbm : b ∈ s.opn := by rw [ht.opn]; simp
  have f1 := hfit.st
  have f2 := hfit.code
  have f3 := hfit.opn
  have f4 := hfit.wait b hbm
  have f5 := hfit.res b hbm
  have f6 := hfit.carry b hbm
  have HC : Hid (∀ w', CkRep B w' bk fx L s → _) := fun w' h' => enter_2 B bk fx L s imm w' h' (by omega) (by omega) (by omega) hi
  have H : Hid (CkRep B w bk fx L s) := h
  have e0 : s.one E ⟨2, imm, []⟩ = s.enter ⟨2, imm, []⟩ := by unfold Ck.one; rw [if_pos (by simp)]
  rw [e0]
  clear e0 h ht hbm
  go_enter Tryz.func88, Tryz.ntmps88
  go_wp2_with fail
  refine (HC.out _ (H.out.alloc _)).mono ?_
  rintro e w1 ⟨rfl, L1, g1, g2⟩
  have FIN : Hid (_ ∧ _) := And.intro g1 (((CkStep.refl w bk L).alloc _).trans g2)
  clear g1 g2 HC H
  go_wp2
  go_ret
  exact ⟨rfl, _, FIN.out⟩

set_option maxHeartbeats 1000000 in
theorem one_3 (B bk : Nat) (fx : CkF) (L : CkL) (s : Ck) (E : Env) (w : World) (h : CkRep B w bk fx L s) (hfit : s.Fit) {b : Blk} {r : List Blk} (ht : s.Top b r) (imm : Int) (hi : 0 ≤ imm ∧ imm ≤ 255) :
    Calls Tryz.prog 88 #[.pointer (some ⟨bk, 0, none⟩), .agg #[.int .i64 3, .int .i64 imm, sv []]] w fun e w' => e = .returned (.int .i64 (s.one E ⟨3, imm, []⟩).2) ∧ ∃ L', CkRep B w' bk fx L' (s.one E ⟨3, imm, []⟩).1 ∧ CkStep w w' bk L L' := by
  have hro : r.length ≤ 900 := by have := hfit.opn; rw [ht.opn] at this; simp at this; omega
  have hbm : b ∈ s.opn := by rw [ht.opn]; simp
  have f1 := hfit.st
  have f2 := hfit.code
  have f3 := hfit.opn
  have f4 := hfit.wait b hbm
  have f5 := hfit.res b hbm
  have f6 := hfit.carry b hbm
  have HC : Hid (∀ w', CkRep B w' bk fx L s → _) := fun w' h' => enter_3 B bk fx L s imm w' h' ht (by omega) (by omega) (by omega) hi
  have H : Hid (CkRep B w bk fx L s) := h
  have e0 : s.one E ⟨3, imm, []⟩ = s.enter ⟨3, imm, []⟩ := by unfold Ck.one; rw [if_pos (by simp)]
  rw [e0]
  clear e0 h ht hbm
  go_enter Tryz.func88, Tryz.ntmps88
  go_wp2_with fail
  refine (HC.out _ (H.out.alloc _)).mono ?_
  rintro e w1 ⟨rfl, L1, g1, g2⟩
  have FIN : Hid (_ ∧ _) := And.intro g1 (((CkStep.refl w bk L).alloc _).trans g2)
  clear g1 g2 HC H
  go_wp2
  go_ret
  exact ⟨rfl, _, FIN.out⟩

set_option maxHeartbeats 1000000 in
theorem one_4 (B bk : Nat) (fx : CkF) (L : CkL) (s : Ck) (E : Env) (w : World) (h : CkRep B w bk fx L s) (hfit : s.Fit) {b : Blk} {r : List Blk} (ht : s.Top b r) (imm : Int) (tab : List UInt8) {al : Nat} (hal : b.alt = some al) :
    Calls Tryz.prog 88 #[.pointer (some ⟨bk, 0, none⟩), .agg #[.int .i64 4, .int .i64 imm, sv tab]] w fun e w' => e = .returned (.int .i64 (s.one E ⟨4, imm, tab⟩).2) ∧ ∃ L', CkRep B w' bk fx L' (s.one E ⟨4, imm, tab⟩).1 ∧ CkStep w w' bk L L' := by
  have hro : r.length ≤ 900 := by have := hfit.opn; rw [ht.opn] at this; simp at this; omega
  have hbm : b ∈ s.opn := by rw [ht.opn]; simp
  have f1 := hfit.st
  have f2 := hfit.code
  have f3 := hfit.opn
  have f4 := hfit.wait b hbm
  have f5 := hfit.res b hbm
  have f6 := hfit.carry b hbm
  have hlt0 : al < s.code.length := hfit.holes b hbm al (by simp [hal])
  have HC : Hid (∀ w', CkRep B w' bk fx L s → _) := fun w' h' => turn_any B bk fx L s w' h' ht (by omega) (by omega) (by omega) (by omega) (by omega) hal hlt0
  have H : Hid (CkRep B w bk fx L s) := h
  have e0 : s.one E ⟨4, imm, tab⟩ = s.turn := by unfold Ck.one; rw [if_neg (by simp), if_pos rfl]
  rw [e0]
  clear e0 h ht hbm
  go_enter Tryz.func88, Tryz.ntmps88
  go_wp2_with fail
  refine (HC.out _ (H.out.alloc _)).mono ?_
  rintro e w1 ⟨rfl, L1, g1, g2⟩
  have FIN : Hid (_ ∧ _) := And.intro g1 (((CkStep.refl w bk L).alloc _).trans g2)
  clear g1 g2 HC H
  go_wp2
  go_ret
  exact ⟨rfl, _, FIN.out⟩

set_option maxHeartbeats 1000000 in
theorem one_5 (B bk : Nat) (fx : CkF) (L : CkL) (s : Ck) (E : Env) (w : World) (h : CkRep B w bk fx L s) (hfit : s.Fit) {b : Blk} {r : List Blk} (ht : s.Top b r) (imm : Int) (tab : List UInt8) :
    Calls Tryz.prog 88 #[.pointer (some ⟨bk, 0, none⟩), .agg #[.int .i64 5, .int .i64 imm, sv tab]] w fun e w' => e = .returned (.int .i64 (s.one E ⟨5, imm, tab⟩).2) ∧ ∃ L', CkRep B w' bk fx L' (s.one E ⟨5, imm, tab⟩).1 ∧ CkStep w w' bk L L' := by
  have hro : r.length ≤ 900 := by have := hfit.opn; rw [ht.opn] at this; simp at this; omega
  have hbm : b ∈ s.opn := by rw [ht.opn]; simp
  have f1 := hfit.st
  have f2 := hfit.code
  have f3 := hfit.opn
  have f4 := hfit.wait b hbm
  have f5 := hfit.res b hbm
  have f6 := hfit.carry b hbm
  have HC : Hid (∀ w', CkRep B w' bk fx L s → _) := fun w' h' => leave_any B bk fx L s w' h' ht (by omega) (by omega) (by omega) (by omega) (by omega) (hfit.holes b hbm)
  have H : Hid (CkRep B w bk fx L s) := h
  have e0 : s.one E ⟨5, imm, tab⟩ = s.leave := by unfold Ck.one; rw [if_neg (by simp), if_neg (by simp), if_pos rfl]
  rw [e0]
  clear e0 h ht hbm
  go_enter Tryz.func88, Tryz.ntmps88
  go_wp2_with fail
  refine (HC.out _ (H.out.alloc _)).mono ?_
  rintro e w1 ⟨rfl, L1, g1, g2⟩
  have FIN : Hid (_ ∧ _) := And.intro g1 (((CkStep.refl w bk L).alloc _).trans g2)
  clear g1 g2 HC H
  go_wp2
  go_ret
  exact ⟨rfl, _, FIN.out⟩

set_option maxHeartbeats 1000000 in
theorem one_6 (B bk : Nat) (fx : CkF) (L : CkL) (s : Ck) (E : Env) (w : World) (h : CkRep B w bk fx L s) (hfit : s.Fit) {b : Blk} {r : List Blk} (ht : s.Top b r) (j : Nat) :
    Calls Tryz.prog 88 #[.pointer (some ⟨bk, 0, none⟩), .agg #[.int .i64 6, .int .i64 j, sv []]] w fun e w' => e = .returned (.int .i64 (s.one E ⟨6, j, []⟩).2) ∧ ∃ L', CkRep B w' bk fx L' (s.one E ⟨6, j, []⟩).1 ∧ CkStep w w' bk L L' := by
  have hro : r.length ≤ 900 := by have := hfit.opn; rw [ht.opn] at this; simp at this; omega
  have hbm : b ∈ s.opn := by rw [ht.opn]; simp
  have f1 := hfit.st
  have f2 := hfit.code
  have f3 := hfit.opn
  have f4 := hfit.wait b hbm
  have f5 := hfit.res b hbm
  have f6 := hfit.carry b hbm
  have HC : Hid (∀ w', CkRep B w' bk fx L s → _) := fun w' h' => branch_any B bk fx L s 6 j w' h' ht hro (by omega) (by omega) (fun x hx => by have := hfit.wait x hx; omega) (fun x hx => by have := hfit.carry x hx; omega)
  have H : Hid (CkRep B w bk fx L s) := h
  have e0 : s.one E ⟨6, j, []⟩ = s.branch 6 j := by unfold Ck.one; rw [if_neg (by simp), if_neg (by simp), if_neg (by simp), if_pos (by simp)]; rfl
  rw [e0]
  clear e0 h ht hbm
  go_enter Tryz.func88, Tryz.ntmps88
  go_wp2_with fail
  refine (HC.out _ (H.out.alloc _)).mono ?_
  rintro e w1 ⟨rfl, L1, g1, g2⟩
  have FIN : Hid (_ ∧ _) := And.intro g1 (((CkStep.refl w bk L).alloc _).trans g2)
  clear g1 g2 HC H
  go_wp2
  go_ret
  exact ⟨rfl, _, FIN.out⟩

set_option maxHeartbeats 1000000 in
theorem one_7 (B bk : Nat) (fx : CkF) (L : CkL) (s : Ck) (E : Env) (w : World) (h : CkRep B w bk fx L s) (hfit : s.Fit) {b : Blk} {r : List Blk} (ht : s.Top b r) (j : Nat) :
    Calls Tryz.prog 88 #[.pointer (some ⟨bk, 0, none⟩), .agg #[.int .i64 7, .int .i64 j, sv []]] w fun e w' => e = .returned (.int .i64 (s.one E ⟨7, j, []⟩).2) ∧ ∃ L', CkRep B w' bk fx L' (s.one E ⟨7, j, []⟩).1 ∧ CkStep w w' bk L L' := by
  have hro : r.length ≤ 900 := by have := hfit.opn; rw [ht.opn] at this; simp at this; omega
  have hbm : b ∈ s.opn := by rw [ht.opn]; simp
  have f1 := hfit.st
  have f2 := hfit.code
  have f3 := hfit.opn
  have f4 := hfit.wait b hbm
  have f5 := hfit.res b hbm
  have f6 := hfit.carry b hbm
  have HC : Hid (∀ w', CkRep B w' bk fx L s → _) := fun w' h' => branch_any B bk fx L s 7 j w' h' ht hro (by omega) (by omega) (fun x hx => by have := hfit.wait x hx; omega) (fun x hx => by have := hfit.carry x hx; omega)
  have H : Hid (CkRep B w bk fx L s) := h
  have e0 : s.one E ⟨7, j, []⟩ = s.branch 7 j := by unfold Ck.one; rw [if_neg (by simp), if_neg (by simp), if_neg (by simp), if_pos (by simp)]; rfl
  rw [e0]
  clear e0 h ht hbm
  go_enter Tryz.func88, Tryz.ntmps88
  go_wp2_with fail
  refine (HC.out _ (H.out.alloc _)).mono ?_
  rintro e w1 ⟨rfl, L1, g1, g2⟩
  have FIN : Hid (_ ∧ _) := And.intro g1 (((CkStep.refl w bk L).alloc _).trans g2)
  clear g1 g2 HC H
  go_wp2
  go_ret
  exact ⟨rfl, _, FIN.out⟩

set_option maxHeartbeats 1000000 in
theorem one_8 (B bk : Nat) (fx : CkF) (L : CkL) (s : Ck) (E : Env) (w : World) (h : CkRep B w bk fx L s) (hfit : s.Fit) {b : Blk} {r : List Blk} (ht : s.Top b r) (imm : Int) (tab : List UInt8) (h1 : 1 ≤ tab.length) (h5 : tab.length ≤ 50) :
    Calls Tryz.prog 88 #[.pointer (some ⟨bk, 0, none⟩), .agg #[.int .i64 8, .int .i64 imm, sv tab]] w fun e w' => e = .returned (.int .i64 (s.one E ⟨8, imm, tab⟩).2) ∧ ∃ L', CkRep B w' bk fx L' (s.one E ⟨8, imm, tab⟩).1 ∧ CkStep w w' bk L L' := by
  have hro : r.length ≤ 900 := by have := hfit.opn; rw [ht.opn] at this; simp at this; omega
  have hbm : b ∈ s.opn := by rw [ht.opn]; simp
  have f1 := hfit.st
  have f2 := hfit.code
  have f3 := hfit.opn
  have f4 := hfit.wait b hbm
  have f5 := hfit.res b hbm
  have f6 := hfit.carry b hbm
  have HC : Hid (∀ w', CkRep B w' bk fx L s → _) := fun w' h' => table_any B bk fx L s imm tab w' h' ht hro (by omega) (by omega) (fun x hx => by have := hfit.wait x hx; omega) (fun x hx => by have := hfit.carry x hx; omega) h1 h5
  have H : Hid (CkRep B w bk fx L s) := h
  have e0 : s.one E ⟨8, imm, tab⟩ = s.table tab := by unfold Ck.one; rw [if_neg (by simp), if_neg (by simp), if_neg (by simp), if_neg (by simp), if_pos rfl]
  rw [e0]
  clear e0 h ht hbm
  go_enter Tryz.func88, Tryz.ntmps88
  go_wp2_with fail
  refine (HC.out _ (H.out.alloc _)).mono ?_
  rintro e w1 ⟨rfl, L1, g1, g2⟩
  have FIN : Hid (_ ∧ _) := And.intro g1 (((CkStep.refl w bk L).alloc _).trans g2)
  clear g1 g2 HC H
  go_wp2
  go_ret
  exact ⟨rfl, _, FIN.out⟩
end Go.Proofs.Qxb6500575aGreatDoor
