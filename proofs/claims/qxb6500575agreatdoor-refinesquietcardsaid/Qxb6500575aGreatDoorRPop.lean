/-
  THE WALKS of run: word, pop, pop32, num.
-/
import Derived.Test.Qxb6500575aGreatDoorRMem
import Derived.Recover
namespace Go.Proofs.Qxb6500575aGreatDoor
open Go Go.RowKit
set_option linter.unusedVariables false
set_option linter.unusedSimpArgs false

/-- word -/
def word (t : UInt8) (n : Int) : V := if t = 105 then .w (wrap32 n) else .d n
theorem word_ty {t : UInt8} (h : t = 105 ∨ t = 108) (n : Int) : (word t n).ty = t := by
  rcases h with rfl | rfl <;> rfl
theorem word_fits (t : UInt8) {n : Int} (h : -9223372036854775808 ≤ n ∧ n < 9223372036854775808) : (word t n).Fits := by
  unfold word
  split
  · unfold wrap32
    unfold V.Fits
    omega
  · exact h
section
variable {bx : Nat} {p k : Value} {L : InL} {x : InD} {w : World}
set_option maxHeartbeats 1000000
theorem rpop_any (h : InRep w bx p k L x) {v : V} {st' : List V} (hs : x.st = v :: st') {r : Frm} {rs : List Frm} (hr : x.fr = r :: rs) (hf : r.floor ≤ st'.length) (hl : st'.length ≤ 1000) (hrl : rs.length ≤ 1000) :
    Calls Tryz.prog 100 #[.pointer (some ⟨bx, 0, none⟩)] w fun e w' => e = .returned v.val ∧ InRep w' bx p k L { x with st := st' } ∧ InStep w w' bx L L := by
  have hsl : x.st.length = st'.length + 1 := by rw [hs]; rfl
  have hfl : x.fr.length = rs.length + 1 := by rw [hr]; rfl
  obtain ⟨gs, hsa, hct, hzt, hgl, hcap, hbg⟩ := h.stAt (i := st'.length) (v := v) (by rw [hs]; simp)
  obtain ⟨gf, hfa, hcf, hzf, hgfl, hfcap, hbgf, _⟩ := h.top hr
  have hfloor := hcf 3 (by omega)
  simp [frmCells] at hfloor
  have c2 := h.here.cell 2
  have c3 := h.here.cell 3
  simp [hsa, hfa, hsl, hfl] at c2 c3
  have f2 := h.here.frozen 2
  have fin : ∀ n, InRep ((w.drewN n).setCell ⟨bx, 2, none⟩ (.slice (some ⟨gs, 0, none⟩) st'.length L.sc)) bx p k L { x with st := st' } ∧ InStep w ((w.drewN n).setCell ⟨bx, 2, none⟩ (.slice (some ⟨gs, 0, none⟩) st'.length L.sc)) bx L L := by
    intro n
    have h' := h.drewN n
    have hot := owns_take h'.st st'.length (by omega)
    rw [hsa] at hot
    have hbs : (Value.slice (some ⟨gs, 0, none⟩) st'.length L.sc).ownBlock ≠ some bx := owns_ne hot h'.here (by decide)
    have := h'.putSt st' (w2 := (w.drewN n).setCell ⟨bx, 2, none⟩ (.slice (some ⟨gs, 0, none⟩) st'.length L.sc)) (sa2 := some ⟨gs, 0, none⟩) (sc2 := L.sc)
      (Fr.setCell (S := fun k => (L.stV x).ownBlock = some k ∨ k = bx) (Fr.refl _ _) (p := ⟨bx, 2, none⟩) (.inl (.inr rfl)) _) (h'.here.put 2 _)
      (owns_other (by
        have e : st'.reverse.map V.val = List.take (st'.length * 1) (x.st.reverse.map V.val) := by rw [hs]; simp
        rw [e]; exact hot) hbs _)
      (fun g hg => .inl (by rw [InL.stV, hsa]; exact hg))
    have hL : { L with sa := some ⟨gs, 0, none⟩, sc := L.sc } = L := by cases L; simp at hsa; simp [hsa]
    rw [hL] at this
    exact ⟨this.1, (((InStep.refl w bx L).drewN n)).trans this.2⟩
  have FIN : Hid (∀ n, _) := fin
  have hcap2 : st'.length + 1 ≤ L.sc := by omega
  clear fin h hcf hcap
  go_enter Tryz.func100, Tryz.ntmps100
  go_wp2
  refine wp_region_tail 15 (by kernel_rfl) (by kernel_rfl) (fun _ _ _ _ _ h => h) ?_
  simp only [List.take_succ_cons, List.take_zero, List.drop_succ_cons, List.drop_zero]
  repeat go_big_quiet_step (fail)
  refine wpQuiet_nil ?_
  go_wp2
  go_end0
  go_wp2
  go_ret
  exact ⟨rfl, FIN.out _⟩
theorem method32 (v : Value) (w : World) : (Go.method 403 208 v ("e2e" ++ String.singleton (Char.ofNat 47) ++ "run.kind")).run Tryz.prog w = .ok (186, v) w := by kernel_rfl
theorem method64 (v : Value) (w : World) : (Go.method 403 209 v ("e2e" ++ String.singleton (Char.ofNat 47) ++ "run.kind")).run Tryz.prog w = .ok (187, v) w := by kernel_rfl
theorem is32 (v : Value) (xT : TypeId) (b : Bool) (w : World) : (Instr.typeAssert (.iface 208 v) xT 208 b).run Tryz.prog w = .ok (if b then .tuple #[v, .bool true] else v) w := by cases b <;> kernel_rfl
theorem is64 (v : Value) (xT : TypeId) (b : Bool) (w : World) : (Instr.typeAssert (.iface 209 v) xT 209 b).run Tryz.prog w = .ok (if b then .tuple #[v, .bool true] else v) w := by cases b <;> kernel_rfl
/-- a condition, an address, a count -/
theorem rpop32_any (h : InRep w bx p k L x) {n : Int} {st' : List V} (hn : (V.w n).Fits) (hs : x.st = .w n :: st') {r : Frm} {rs : List Frm} (hr : x.fr = r :: rs) (hf : r.floor ≤ st'.length) (hl : st'.length ≤ 1000) (hrl : rs.length ≤ 1000) :
    Calls Tryz.prog 96 #[.pointer (some ⟨bx, 0, none⟩)] w fun e w' => e = .returned (.int .i64 n) ∧ InRep w' bx p k L { x with st := st' } ∧ InStep w w' bx L L := by
  have HP : Hid (Calls _ _ _ _ _) := rpop_any h hs hr hf hl hrl
  have hi := is32
  unfold V.Fits at hn
  clear h
  go_enter Tryz.func96, Tryz.ntmps96
  go_wp2_with fail
  refine HP.out.mono ?_
  rintro e w1 ⟨rfl, h1, h2⟩
  have H1 : Hid (InRep w1 bx p k L { x with st := st' } ∧ InStep w w1 bx L L) := ⟨h1, h2⟩
  clear h1 h2
  simp only [V.val]
  go_wp2
  go_end0
  go_wp2
  go_ret
  exact ⟨rfl, H1.out⟩
/-- a typed pop -/
theorem rnum_any (h : InRep w bx p k L x) {v : V} {st' : List V} (hn : v.Fits) (hs : x.st = v :: st') {r : Frm} {rs : List Frm} (hr : x.fr = r :: rs) (hf : r.floor ≤ st'.length) (hl : st'.length ≤ 1000) (hrl : rs.length ≤ 1000) :
    Calls Tryz.prog 101 #[.pointer (some ⟨bx, 0, none⟩), .int .u8 v.ty.toNat] w fun e w' => e = .returned (.int .i64 v.num) ∧ InRep w' bx p k L { x with st := st' } ∧ InStep w w' bx L L := by
  have HP : Hid (Calls _ _ _ _ _) := rpop_any h hs hr hf hl hrl
  have hi := is32
  have hj := is64
  have m1 := method32
  have m2 := method64
  simp only [String.reduceSingleton, String.reduceAppend] at m1 m2
  clear h
  cases v using V.on with
  | w n =>
    unfold V.Fits at hn
    have e0 : (V.w n).ty.toNat = 105 := rfl
    rw [e0]
    go_enter Tryz.func101, Tryz.ntmps101
    go_wp2_with fail
    refine HP.out.mono ?_
    rintro e w1 ⟨rfl, h1, h2⟩
    have H1 : Hid (InRep w1 bx p k L { x with st := st' } ∧ InStep w w1 bx L L) := ⟨h1, h2⟩
    clear h1 h2
    simp only [V.val]
    go_wp2
    go_end0
    go_wp2
    go_ret
    exact ⟨rfl, H1.out⟩
  | d n =>
    unfold V.Fits at hn
    have e0 : (V.d n).ty.toNat = 108 := rfl
    rw [e0]
    go_enter Tryz.func101, Tryz.ntmps101
    go_wp2_with fail
    refine HP.out.mono ?_
    rintro e w1 ⟨rfl, h1, h2⟩
    have H1 : Hid (InRep w1 bx p k L { x with st := st' } ∧ InStep w w1 bx L L) := ⟨h1, h2⟩
    clear h1 h2
    simp only [V.val]
    go_wp2
    go_end0
    go_wp2
    go_ret
    exact ⟨rfl, H1.out⟩
theorem word_any (t : UInt8) (n : Int) (w : World) : Calls Tryz.prog 63 #[.int .u8 t.toNat, .int .i64 n] w fun e w' => e = .returned (word t n).val ∧ w' = w := by
  unfold word
  by_cases h : t = 105
  · subst h
    have e0 : (105 : UInt8).toNat = 105 := rfl
    rw [if_pos rfl, e0]
    go_enter Tryz.func63, Tryz.ntmps63
    go_wp2
    go_ret
    exact ⟨rfl, rfl⟩
  · have hn : ((t.toNat : Int) == 105) = false := by
      rw [beq_eq_false_iff_ne]; intro e; apply h; rw [← UInt8.toNat_inj]; simp; omega
    rw [if_neg h]
    go_enter Tryz.func63, Tryz.ntmps63
    go_wp2
    go_ret
    exact ⟨rfl, rfl⟩
end
end Go.Proofs.Qxb6500575aGreatDoor
