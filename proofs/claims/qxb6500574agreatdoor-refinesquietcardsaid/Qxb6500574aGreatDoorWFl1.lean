/-
  THE WALK of the parser layer: flat.go: the arena in memory; add.
-/
import Derived.Test.Qxb6500574aGreatDoorWFl0
import Derived.Test.Qxb6500574aGreatDoorRegApp
namespace Go.Proofs.Qxb6500574aGreatDoor
open Go Go.RowKit
set_option linter.unusedVariables false
set_option linter.unusedSimpArgs false
open Go.Lib
/-- a node's cells -/
def ndV (d : Nd) : List Value := [.int .i64 d.k, .int .i64 d.a, .int .i64 d.b, .int .i64 d.c, .int .i64 d.next, .int .u64 d.n, sv d.s, .int .i64 d.p]
theorem ndV_len (d : Nd) : (ndV d).length = 8 := rfl
theorem rowNode : IsRow Tryz.prog 48 134 (.agg #[.int .i64 0, .int .i64 0, .int .i64 0, .int .i64 0, .int .i64 0, .int .u64 0, .string ⟨#[]⟩, .int .i64 0]) 8 72 := ⟨by kernel_rfl, by kernel_rfl, rfl, by decide⟩
/-- the arena under way -/
structure FRep (w : World) (o : Nat → Nat) (sb : Nat) (nm tk : Value) (sn : Sl) (A : List Nd) : Prop where
  blk : Blk w o 1040 sb #[nm, tk, sn.v A.length] 81
  row : Row w o 1042 134 8 sn A.length (A.flatMap ndV)
  ow : Ow w o
def QF (l : Nat) : Prop := l = 1040 ∨ l = 1042
section
set_option maxRecDepth 100000
set_option maxHeartbeats 1000000
variable {w w' : World} {o o' : Nat → Nat} {sb : Nat} {nm tk : Value} {sn : Sl} {A : List Nd}
theorem FRep.st {Q : Nat → Prop} (h : FRep w o sb nm tk sn A) (t : Stp Q w o w' o') (h1 : ¬ Q 1040) (h2 : ¬ Q 1042) : FRep w' o' sb nm tk sn A := ⟨h.blk.st t h1, h.row.st t h2, t.hi h.ow⟩
theorem FRep.alloc (h : FRep w o sb nm tk sn A) (b : Obj) : FRep (w.alloc b) o sb nm tk sn A := h.st (Stp.fresh (fun _ => False) o ((Fr.refl _ _).alloc b)) (fun x => x) (fun x => x)
theorem add_any (F : FRep w o sb nm tk sn A) (hl : A.length ≤ 5000) (d : Nd) : Calls Tryz.prog 230 #[.pointer (some ⟨sb, 0, none⟩), .agg (ndV d).toArray] w fun e w' => e = .returned (.int .i64 A.length) ∧ ∃ o' sn', FRep w' o' sb nm tk sn' (A ++ [d]) ∧ Stp QF w o w' o' := by
  obtain ⟨W0, HX⟩ : ∃ W0, Hid (w.alloc (.cells (ndV d).toArray 134) = W0) := ⟨_, rfl⟩
  have F0 := F.alloc (.cells (ndV d).toArray 134)
  have kb : Has W0 w.heap.size (ndV d).toArray 134 := by rw [← HX.out]; exact Has.new _ _ _
  rw [HX.out] at F0
  have hS0 : Stp QF w o W0 o := by rw [← HX.out]; exact (Stp.refl _ _ _).alloc _
  have hb := F0.blk.has.lt
  have c2 := F0.blk.has.cell 2
  have kl := kb.lt
  have hrow := F0.row.own
  have hne : ∀ k, (sn.v A.length).ownBlock = some k → k < w.heap.size ∧ o k = 1042 := fun k hk => by
    have hk' : (Value.slice sn.a 0 0).ownBlock = some k := by rw [ownBlock_any _ _ _ A.length sn.c]; exact hk
    exact ⟨F.row.lt hk', F.row.lb k hk'⟩
  have k0 := kb.cell 0
  have k1 := kb.cell 1
  have k2 := kb.cell 2
  have k3 := kb.cell 3
  have k4 := kb.cell 4
  have k5 := kb.cell 5
  have k6 := kb.cell 6
  have k7 := kb.cell 7
  simp only [ndV, List.getElem?_toArray, List.getElem?_cons_succ, List.getElem?_cons_zero] at c2 k0 k1 k2 k3 k4 k5 k6 k7
  have hw0 : w.heap.size < W0.heap.size := kl
  go_enter Tryz.func230, Tryz.ntmps230
  go_wp2_with fail
  rw [HX.out]
  refine wp_region_app rowNode 6 (by kernel_rfl) (by kernel_rfl) (fun _ _ _ _ _ h => h) _ _ _ rfl (.tmp 10) (.tmp 9) 11 12 rfl rfl rfl rfl rfl rfl (sn.v A.length) A.length _ hrow (.agg (ndV d).toArray) rfl (by decide) (by simp [ndV, Value.cells, Value.oneCell', sv]) (by omega) ?_
  intro g cap w2 q1 q2 q3 q4
  have kb' : Has w2 w.heap.size (ndV d).toArray 134 := (kb.alloc _).fr q2 (fun hk => by have := (hne _ hk).1; omega)
  obtain ⟨r1, r2⟩ := F0.row.app (w1 := W0.alloc (.cells (ndV d).toArray 134)) ((Fr.refl _ _).alloc _) q1 q2 (q3.imp_right (fun h => by omega)) q4
  have blk2 := F0.blk.st r2 (by decide)
  have j0 := kb'.cell 0
  have j1 := kb'.cell 1
  have j2 := kb'.cell 2
  have j3 := kb'.cell 3
  have j4 := kb'.cell 4
  have j5 := kb'.cell 5
  have j6 := kb'.cell 6
  have j7 := kb'.cell 7
  have d2 := blk2.has.cell 2
  simp only [ndV, List.getElem?_toArray, List.getElem?_cons_succ, List.getElem?_cons_zero] at d2 j0 j1 j2 j3 j4 j5 j6 j7
  have e2 := blk2.has.frozen 2
  have hb2 := blk2.has.lt
  have kb2 := kb'.lt
  have FIN : Hid (∃ o' sn', FRep (w2.setCell ⟨sb, 2, none⟩ (.slice (some ⟨g, 0, none⟩) (A.length + 1) cap)) o' sb nm tk sn' (A ++ [d]) ∧ Stp QF w o (w2.setCell ⟨sb, 2, none⟩ (.slice (some ⟨g, 0, none⟩) (A.length + 1) cap)) o') := by
    obtain ⟨p1, p2⟩ := blk2.put 2 (.slice (some ⟨g, 0, none⟩) (A.length + 1) cap) rfl
    have s2 : Stp QF w o w2 (upd o g 1042) := hS0.trans ⟨r2.fr.weaken (fun k _ h => .inr h), r2.ext, r2.hi⟩
    have s3 : Stp QF w o (w2.setCell ⟨sb, 2, none⟩ (.slice (some ⟨g, 0, none⟩) (A.length + 1) cap)) (upd o g 1042) := s2.trans ⟨p2.fr.weaken (fun k _ h => .inl h), p2.ext, p2.hi⟩
    refine ⟨upd o g 1042, ⟨some ⟨g, 0, none⟩, cap⟩, ⟨?_, ?_, s3.hi F.ow⟩, s3⟩
    · rw [List.length_append]
      exact p1
    · have := r1.st p2 (by decide)
      rw [List.length_append, List.flatMap_append]
      simpa [Value.cells] using this
  clear q1 q2 q3 q4 hne hrow kb kb' r1 r2 blk2 F F0 hS0
  simp only [List.take_succ_cons, List.take_zero]
  repeat go_big_quiet_step (fail)
  refine wpQuiet_nil ⟨rfl, rfl, by simp, rfl, ?_⟩
  go_wp2
  go_ret
  exact ⟨by simp, FIN.out⟩
theorem ndV_next (d : Nd) (x : Nat) : ndV { d with next := x } = (ndV d).set 4 (.int .i64 (x : Nat)) := rfl
theorem flat_next : ∀ (A : List Nd) (i x : Nat), i < A.length → (A.flatMap ndV).set (i * 8 + 4) (.int .i64 (x : Nat)) = (A.set i { A.getD i nd0 with next := x }).flatMap ndV
  | [], i, x, h => by simp at h
  | d :: r, 0, x, _ => by
    show (ndV d ++ r.flatMap ndV).set 4 _ = ndV { d with next := x } ++ r.flatMap ndV
    rw [List.set_append_left _ _ (by rw [ndV_len]; decide)]
    rfl
  | d :: r, i + 1, x, h => by
    have ih := flat_next r i x (by simpa using h)
    show (ndV d ++ r.flatMap ndV).set ((i + 1) * 8 + 4) _ = ndV d ++ (r.set i { r.getD i nd0 with next := x }).flatMap ndV
    rw [List.set_append_right _ _ (by rw [ndV_len]; omega), ndV_len, show (i + 1) * 8 + 4 - 8 = i * 8 + 4 by omega, ih]
theorem flat_at4 : ∀ {A : List Nd} {i : Nat}, i < A.length → (A.flatMap ndV)[i * 8 + 4]? = some (.int .i64 ((A.getD i nd0).next : Nat))
  | [], i, h => by simp at h
  | d :: r, 0, _ => rfl
  | d :: r, i + 1, h => by
    show (ndV d ++ r.flatMap ndV)[(i + 1) * 8 + 4]? = _
    rw [List.getElem?_append_right (by rw [ndV_len]; omega), ndV_len, show (i + 1) * 8 + 4 - 8 = i * 8 + 4 by omega, flat_at4 (by simpa using h)]
    rfl
/-- a member is linked -/
theorem FRep.link (F : FRep w o sb nm tk sn A) {g : Nat} (hg : sn.a = some ⟨g, 0, none⟩) {i x : Nat} (hi : i < A.length) : FRep (w.setCell ⟨g, i * 8 + 4, none⟩ (.int .i64 (x : Nat))) o sb nm tk sn (A.set i { A.getD i nd0 with next := x }) ∧ Stp QF w o (w.setCell ⟨g, i * 8 + 4, none⟩ (.int .i64 (x : Nat))) o := by
  obtain ⟨r1, r2⟩ := F.row.put hg (i * 8 + 4) (.int .i64 (x : Nat)) (flat_next A i x hi)
  have s2 : Stp QF w o (w.setCell ⟨g, i * 8 + 4, none⟩ (.int .i64 (x : Nat))) o := ⟨r2.fr.weaken (fun k _ h => .inr h), r2.ext, r2.hi⟩
  refine ⟨⟨?_, ?_, r2.hi F.ow⟩, s2⟩
  · rw [List.length_set]
    exact F.blk.st r2 (by decide)
  · rw [List.length_set]
    exact r1
end
end Go.Proofs.Qxb6500574aGreatDoor
