/-
  runm.Inst: plain data, how it lies; pay, pop, push.
-/
import Derived.Test.Qxb6500575aGreatDoorRVals
import Derived.Test.Qxb6500575aGreatDoorRFits
import Derived.Test.Qxb6500575aGreatDoorRegC
import Derived.Test.Qxb6500575aGreatDoorXBin0
namespace Go.Proofs.Qxb6500575aGreatDoor
open Go Go.RowKit
set_option linter.unusedVariables false
set_option linter.unusedSimpArgs false

/-- runm.Inst: st: the top first -/
structure ND where
  st : List V
  fuel : Int
  used : Int
  n : Int
  asked : Nat
  host : Bool
  tape : List UInt8
  trace : List UInt8
structure NL where
  sa : Option Addr
  sc : Nat
/-- what does not change -/
structure NF where
  p : Value
  src : Value
  k : Value
abbrev NL.stV (L : NL) (x : ND) : Value := .slice L.sa x.st.length L.sc
def stCells (st : List V) : List Value := bvCells (st.reverse.map V.bv)
structure NRep (w : World) (bn : Nat) (q : NF) (L : NL) (x : ND) : Prop where
  here : Has w bn #[q.p, q.src, q.k, .slice L.sa x.st.length L.sc, .int .i64 x.fuel, .int .i64 x.used, .int .i64 x.n, .int .i64 x.asked, .bool x.host, sv x.tape, sv x.trace] 171
  st : w.ownsRow 0 70 2 (L.stV x) x.st.length (stCells x.st)
def NS (bn : Nat) (L : NL) (k : Nat) : Prop := k = bn ∨ (Value.slice L.sa 0 0).ownBlock = some k
structure NStep (w w' : World) (bn : Nat) (L L' : NL) : Prop where
  fr : Fr (NS bn L) w w'
  sub : ∀ k, k < w.heap.size → NS bn L' k → NS bn L k
theorem NStep.refl (w : World) (bn : Nat) (L : NL) : NStep w w bn L L := ⟨Fr.refl _ _, fun _ _ h => h⟩
theorem NStep.trans {w w1 w2 : World} {bn : Nat} {L L1 L2 : NL} (h : NStep w w1 bn L L1) (h' : NStep w1 w2 bn L1 L2) : NStep w w2 bn L L2 :=
  ⟨h.fr.trans h'.fr h.sub, fun k hk hS => h.sub k hk (h'.sub k (Nat.lt_of_lt_of_le hk h.fr.size) hS)⟩
theorem NStep.fresh {w w1 : World} {bn : Nat} {L : NL} (h : Fr (fun _ => False) w w1) : NStep w w1 bn L L := ⟨h.weaken (fun _ _ h => h.elim), fun _ _ h => h⟩
section
variable {w w2 : World} {bn : Nat} {q : NF} {L : NL} {x : ND}
theorem NRep.fr (h : NRep w bn q L x) {S : Nat → Prop} (hf : Fr S w w2) (hS : ∀ j, NS bn L j → ¬ S j) : NRep w2 bn q L x :=
  ⟨h.here.fr hf (hS _ (.inl rfl)), owns_fr h.st hf (fun g hg => hS g (.inr (by rw [ownBlock_any]; exact hg)))⟩
theorem NRep.fresh (h : NRep w bn q L x) (hf : Fr (fun _ => False) w w2) : NRep w2 bn q L x := h.fr hf (fun _ _ h => h)
theorem NRep.lt (h : NRep w bn q L x) {k : Nat} (hk : NS bn L k) : k < w.heap.size := by
  rcases hk with rfl | hk
  · exact h.here.lt
  · exact owns_lt h.st k (by rw [ownBlock_any]; exact hk)
/-- fields that are no row -/
theorem NRep.field (h : NRep w bn q L x) (i : Nat) (v : Value) {x' : ND} (he : #[q.p, q.src, q.k, .slice L.sa x.st.length L.sc, .int .i64 x.fuel, .int .i64 x.used, .int .i64 x.n, .int .i64 x.asked, .bool x.host, sv x.tape, sv x.trace].setIfInBounds i v = #[q.p, q.src, q.k, .slice L.sa x'.st.length L.sc, .int .i64 x'.fuel, .int .i64 x'.used, .int .i64 x'.n, .int .i64 x'.asked, .bool x'.host, sv x'.tape, sv x'.trace]) (hst : x'.st = x.st) :
    NRep (w.setCell ⟨bn, i, none⟩ v) bn q L x' ∧ NStep w (w.setCell ⟨bn, i, none⟩ v) bn L L := by
  have hF : Fr (fun k => k = bn) w (w.setCell ⟨bn, i, none⟩ v) := Fr.setCell (S := fun k => k = bn) (Fr.refl _ _) (p := ⟨bn, i, none⟩) (.inl rfl) _
  refine ⟨⟨?_, ?_⟩, hF.weaken (fun k _ e => .inl e), fun _ _ h => h⟩
  · have := h.here.put i v
    rw [he] at this
    exact this
  · have := owns_fr h.st hF (fun g hg e => owns_ne h.st h.here (by decide) (e ▸ hg))
    unfold NL.stV at this ⊢
    rw [hst]
    exact this
/-- the stack, cut -/
theorem NRep.cutSt (h : NRep w bn q L x) (st' low : List V) (hst : x.st = st' ++ low) : NRep (w.setCell ⟨bn, 3, none⟩ (.slice L.sa low.length L.sc)) bn q L { x with st := low } ∧ NStep w (w.setCell ⟨bn, 3, none⟩ (.slice L.sa low.length L.sc)) bn L L := by
  have hF : Fr (fun k => k = bn) w (w.setCell ⟨bn, 3, none⟩ (.slice L.sa low.length L.sc)) := Fr.setCell (S := fun k => k = bn) (Fr.refl _ _) (p := ⟨bn, 3, none⟩) (.inl rfl) _
  refine ⟨⟨?_, ?_⟩, hF.weaken (fun k _ e => .inl e), fun _ _ h => h⟩
  · have := h.here.put 3 (.slice L.sa low.length L.sc)
    simpa using this
  · have hle : low.length ≤ x.st.length := by rw [hst]; simp
    have ht := owns_take h.st low.length hle
    have e : List.take (low.length * 2) (stCells x.st) = stCells low := by
      unfold stCells
      rw [hst, List.reverse_append, List.map_append]
      simp only [bvCells, List.flatMap_append]
      rw [List.take_left']
      have := bvCells_len (low.reverse.map V.bv)
      simpa [bvCells] using this
    rw [e] at ht
    exact owns_fr ht hF (fun g hg e => owns_ne ht h.here (by decide) (e ▸ hg))
/-- the value on top -/
theorem NRep.top (h : NRep w bn q L x) {v : V} {r : List V} (hst : x.st = v :: r) : ∃ g, L.sa = some ⟨g, 0, none⟩ ∧ w.cell? ⟨g, r.length * 2, none⟩ = some (.int .u8 v.ty.toNat) ∧ w.cell? ⟨g, r.length * 2 + 1, none⟩ = some (.int .i64 v.num) ∧ g < w.heap.size ∧ x.st.length ≤ L.sc := by
  obtain ⟨g, ha, hc⟩ := owns_some h.st (by rw [hst]; simp)
  have ho := h.st
  unfold NL.stV at ho
  rw [ha] at ho
  have hb := bvCells_at (x.st.reverse.map V.bv) r.length v.bv (by rw [hst]; simp)
  refine ⟨g, ha, ?_, ?_, owns_lt ho g rfl, ?_⟩
  · rw [hc _ (by rw [hst]; simp only [List.length_cons]; omega)]
    exact hb.1
  · rw [hc _ (by rw [hst]; simp only [List.length_cons]; omega)]
    exact hb.2
  · rcases owns_form h.st with ⟨h1, h2, _⟩ | ⟨_, _, h1⟩
    · rw [hst] at h2; simp at h2
    · exact h1
set_option maxRecDepth 100000
set_option maxHeartbeats 400000
/-- runm.pay -/
def ND.pay (x : ND) : ND × Int := if x.used < x.fuel then ({ x with n := wrap64 (x.n + 1), used := x.used + 1 }, 0) else ({ x with n := wrap64 (x.n + 1) }, 17)
theorem ypay_any (h : NRep w bn q L x) (hu : 0 ≤ x.used) (hf : x.fuel ≤ 9223372036854775807) : Calls Tryz.prog 145 #[.pointer (some ⟨bn, 0, none⟩)] w fun e w' => e = .returned (.int .i64 x.pay.2) ∧ NRep w' bn q L x.pay.1 ∧ NStep w w' bn L L := by
  have c4 := h.here.cell 4
  have c5 := h.here.cell 5
  have c6 := h.here.cell 6
  simp at c4 c5 c6
  have f5 := h.here.frozen 5
  have f6 := h.here.frozen 6
  have hl := h.here.lt
  obtain ⟨r1, r2⟩ := h.field 6 (.int .i64 (wrap64 (x.n + 1))) (x' := { x with n := wrap64 (x.n + 1) }) rfl rfl
  unfold ND.pay
  by_cases hc : x.used < x.fuel
  · rw [if_pos hc]
    have FIN : Hid (∀ k, NRep ((((w.setCell ⟨bn, 6, none⟩ (.int .i64 (wrap64 (x.n + 1)))).drewN k)).setCell ⟨bn, 5, none⟩ (.int .i64 (x.used + 1))) bn q L { x with n := wrap64 (x.n + 1), used := x.used + 1 } ∧ NStep w ((((w.setCell ⟨bn, 6, none⟩ (.int .i64 (wrap64 (x.n + 1)))).drewN k)).setCell ⟨bn, 5, none⟩ (.int .i64 (x.used + 1))) bn L L) := fun k => by
      have r3 := r1.fresh ((Fr.refl _ _).drewN k)
      obtain ⟨r4, r5⟩ := r3.field 5 (.int .i64 (x.used + 1)) (x' := { x with n := wrap64 (x.n + 1), used := x.used + 1 }) rfl rfl
      exact ⟨r4, (r2.trans (NStep.fresh ((Fr.refl _ _).drewN k))).trans r5⟩
    clear h r1 r2
    go_enter Tryz.func145, Tryz.ntmps145
    go_wp2
    refine wp_region_quiet_lit (by kernel_rfl) (by kernel_rfl) ?_
    repeat go_big_quiet_step (fail)
    refine wpQuiet_nil ?_
    rintro w' ⟨nq, rfl⟩
    go_wp2
    go_ret
    exact ⟨rfl, FIN.out nq⟩
  · rw [if_neg hc]
    have FIN : Hid (∀ k, NRep ((w.setCell ⟨bn, 6, none⟩ (.int .i64 (wrap64 (x.n + 1)))).drewN k) bn q L { x with n := wrap64 (x.n + 1) } ∧ NStep w ((w.setCell ⟨bn, 6, none⟩ (.int .i64 (wrap64 (x.n + 1)))).drewN k) bn L L) := fun k => ⟨r1.fresh ((Fr.refl _ _).drewN k), r2.trans (NStep.fresh ((Fr.refl _ _).drewN k))⟩
    clear h r1 r2
    go_enter Tryz.func145, Tryz.ntmps145
    go_wp2
    refine wp_region_quiet_lit (by kernel_rfl) (by kernel_rfl) ?_
    repeat go_big_quiet_step (fail)
    refine wpQuiet_nil ?_
    rintro w' ⟨nq, rfl⟩
    go_wp2
    go_ret
    exact ⟨rfl, FIN.out nq⟩
end
end Go.Proofs.Qxb6500575aGreatDoor
