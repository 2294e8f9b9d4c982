/-
  THE WALK of vm: loop whole.
-/
import Derived.Test.Qxb6500574aGreatDoorVLoopV
namespace Go.Proofs.Qxb6500574aGreatDoor
open Go Go.RowKit
set_option linter.unusedVariables false
set_option linter.unusedSimpArgs false
/-- where a round has thrown: what is left to do with the value -/
structure ThrAt (m1 : VMD) (i : Nat) (v : Vl) (K : Cx) (t : ThD) : Prop where
  vi : VI K m1
  up : UpL m1
  hi : m1.ths[i]? = some t
  st : t.st = 4
  ne : t.frames ≠ []
  sl : t.stack.length ≤ 10000
  low : Low m1
  ok : VOk K v
/-- what is to come behind a throw -/
def ThrTo (n f1 : Nat) (m1 : VMD) (i : Nat) (v : Vl) (t : ThD) (r : EvD × Nat × VMD) : Prop :=
  (∃ m2 k, unwindN (t.frames.length - 1) m1 i v = some m2 ∧ k < n ∧ roundsP k f1 m2 i = some r) ∨
  (unwindN (t.frames.length - 1) m1 i v = none ∧ r = (⟨2, 0, 0, v, nilV⟩, f1, kill m1 i))
/-- how the loop ends, where the rounds come to r -/
def LoPost (w : World) (A : VL) (e i n f : Nat) (r : EvD × Nat × VMD) (e' : Ending) (w' : World) : Prop :=
  (∃ A', e' = .returned r.1.val ∧ (r.1.k ≠ 0 ∧ r.1.k ≠ 5) ∧ VRep w' A' r.2.2 r.2.1 e ∧ VSt isVM w A w' A') ∨
  (∃ A' k m9, e' = .panicked (trapE k) ∧ r.1 = ⟨5, 0, k, nilV, nilV⟩ ∧ VRep w' A' m9 r.2.1 e ∧ OT m9 r.2.2 ∧ VSt isVM w A w' A') ∨
  (∃ A' b v m1 f1 K t, e' = .panicked (thrE b) ∧ Has w' b #[.int .i64 v.t, .int .u64 v.n, sv v.s] 340 ∧ w.heap.size ≤ b ∧ VRep w' A' m1 f1 e ∧ VSt isVM w A w' A' ∧ f1 ≤ f ∧ ThrAt m1 i v K t ∧ ThrTo n f1 m1 i v t r)
/-- at a round's head -/
def LInv (w0 : World) (A0 : VL) (e i b6 b7 N F : Nat) (r : EvD × Nat × VMD) (n : Nat) (w : World) : Prop :=
  ∃ K A m f t fm, VRep w A m f e ∧ At K m i t fm ∧ Room K 0 t ∧ Low m ∧ (Has w b6 (evCells ev0) 190 ∧ A.o b6 = 0) ∧ (Has w b7 (evCells ev0) 190 ∧ A.o b7 = 0) ∧ VSt isVM w0 A0 w A ∧ roundsP n f m i = some r ∧ f ≤ F ∧ n ≤ N
theorem Paid.le {r : Bool} {f f1 : Nat} (h : Paid r f f1) : f1 ≤ f := by
  rw [h.2]
  split <;> omega
theorem has_set9_ne {w : World} {b b' : Nat} {cs : Array Value} {T : TypeId} (h : Has w b cs T) (ne : b ≠ b') (y : EvD) : Has (set9 w b' y) b cs T :=
  ((((((((h.other ne _).other ne _).other ne _).other ne _).other ne _).other ne _).other ne _).other ne _).other ne _
theorem notVM0 : ¬ isVM 0 := fun h => h rfl
theorem last_some {fs : List FmD} (h : fs ≠ []) : ∃ f, fs[fs.length - 1]? = some f := by
  have : 0 < fs.length := List.length_pos_iff.2 h
  exact ⟨_, List.getElem?_eq_getElem (by omega)⟩
section
variable {w : World} {A : VL} {m : VMD} {f e i : Nat} {t : ThD} {K : Cx} {fm : FmD}
theorem rndP_go {m1 : VMD} {f1 : Nat} (hr : (instrP m i).2 = (.inr ev0, m1)) (hp : Paid (instrP m i).1 f f1) : roundP f m i = .inl (f1, m1) := by
  unfold roundP
  dsimp only
  rw [if_neg hp.1, hr, hp.2]
  rfl
theorem rndP_ev {m1 : VMD} {f1 : Nat} {ev : EvD} (hr : (instrP m i).2 = (.inr ev, m1)) (hk : ev.k ≠ 0) (hp : Paid (instrP m i).1 f f1) : roundP f m i = .inr (ev, f1, m1) := by
  unfold roundP
  dsimp only
  rw [if_neg hp.1, hr, hp.2]
  dsimp only
  rw [if_neg hk]
theorem rndP_trap {m1 : VMD} {f1 k : Nat} (hr : (instrP m i).2 = (.inl (.inr k), m1)) (hp : Paid (instrP m i).1 f f1) : roundP f m i = .inr (⟨5, 0, k, nilV, nilV⟩, f1, m1) := by
  unfold roundP
  dsimp only
  rw [if_neg hp.1, hr, hp.2]
theorem rndP_thr {m1 : VMD} {f1 : Nat} {v : Vl} (hr : (instrP m i).2 = (.inl (.inl v), m1)) (hp : Paid (instrP m i).1 f f1) : roundP f m i = match unwindN ((m1.th i).frames.length - 1) m1 i v with
      | some m2 => .inl (f1, m2)
      | none => .inr (⟨2, 0, 0, v, nilV⟩, f1, kill m1 i) := by
  unfold roundP
  dsimp only
  rw [if_neg hp.1, hr, hp.2]
  rfl
theorem rndP_out (h1 : (instrP m i).1 = true) (hf : f = 0) : roundP f m i = .inr (⟨5, 0, 9, nilV, nilV⟩, f, m) := by
  unfold roundP
  dsimp only
  rw [if_pos ⟨h1, hf⟩]
theorem loop_any (R : VRep w A m f e) (h : At K m i t fm) (room : Room K 0 t) (low : Low m) (fu : f < 9223372036854775808) {n : Nat} {r : EvD × Nat × VMD} (hr : roundsP n f m i = some r) :
    Calls Tryz.prog 214 #[.pointer (some ⟨A.b, 0, none⟩), .int .i64 i, .pointer (some ⟨A.bT, i * 5, none⟩)] w (LoPost w A e i n f r) := by
  refine loop_rounds (LInv w A e i w.heap.size (w.heap.size + 1) n f r) n ?_ ?_
  · have hfr : Fr (fun _ => False) w ((w.alloc (.cells #[.int .i64 0, .int .i64 0, .int .i64 0, .int .i64 0, .int .u64 0, sv [], .int .i64 0, .int .u64 0, sv []] 190)).alloc (.cells #[.int .i64 0, .int .i64 0, .int .i64 0, .int .i64 0, .int .u64 0, sv [], .int .i64 0, .int .u64 0, sv []] 190)) := ((Fr.refl _ _).alloc _).alloc _
    refine ⟨K, A, m, f, t, fm, R.fresh hfr, h, room, low, ⟨(Has.new _ _ _).alloc _, R.own _ (Nat.le_refl _)⟩, ⟨Has.newC _ _ _ (by simp), R.own _ (by omega)⟩, VSt.fresh hfr, hr, Nat.le_refl _, Nat.le_refl _⟩
  · rintro n1 w1 ⟨K1, A1, m1, f1, t1, fm1, R1, h1, room1, low1, e6, e7, S1, hr1, hf1, hn1⟩ a ha Q hQ hgo hdone hpan
    rw [← S1.b, ← S1.bT] at ha hgo hdone
    cases n1 with
    | zero => exact absurd hr1 (by simp [roundsP])
    | succ n2 =>
    obtain ⟨g, j, gp, pi, p, hLB⟩ := lb_of R1 h1 room1 low1 e6 e7 (by omega) (by omega)
    obtain ⟨K2, t2, i1, i2, i3, i4, i5, i6, i7, i8⟩ := instr_ok h1 room1
    have hsz : w.heap.size ≤ w1.heap.size := S1.st.fr.size
    refine round_any hLB ha ⟨hQ, ?_, ?_, ?_, ?_, ?_⟩
    · intro a' w5 A5 m5 f5 w' hf hi hp R5 S5 hw
      have hrr : roundsP (n2 + 1) f1 m1 i = roundsP n2 f5 m5 i := by
        show (match roundP f1 m1 i with | .inr r => some r | .inl r => roundsP n2 r.1 r.2 i) = _
        rw [rndP_go hi hp]
      rw [hrr] at hr1
      rw [hi] at i2 i3 i4 i5
      obtain ⟨b1, b2, _⟩ := i8 ev0 (by rw [hi])
      obtain ⟨c1, c2, c3, _⟩ := b2 rfl
      obtain ⟨fm2, hfm⟩ := last_some c2
      have hAt : At K2 m5 i t2 fm2 := ⟨i2, i3, i5, c1, hfm⟩
      have hLow : Low m5 := Low.next low1 i2 i4 i5 (by have := hAt.sl c3; omega)
      obtain ⟨k6, k6o⟩ := S5.keep0 notVM0 e6.1 e6.2
      obtain ⟨k7, k7o⟩ := S5.keep0 notVM0 e7.1 e7.2
      have S05 := S1.trans S5
      have hI : LInv w A e i w.heap.size (w.heap.size + 1) n f r n2 w' := by
        rcases hw with rfl | rfl
        · exact ⟨K2, A5, m5, f5, t2, fm2, R5, hAt, c3, hLow, ⟨k6, k6o⟩, ⟨k7, k7o⟩, S05, hr1, by have := hp.le; omega, by omega⟩
        · exact ⟨K2, A5, m5, f5, t2, fm2, R5.set9 k7o _, hAt, c3, hLow, ⟨has_set9_ne k6 (by omega) _, k6o⟩, ⟨k7.set9 _, k7o⟩, S05.set9 (by omega) _, hr1, by have := hp.le; omega, by omega⟩
      exact (hgo n2 a' w' (Nat.lt_succ_self _) hf hI).1
    · intro a' w5 A5 ev m5 f5 hf hi hk hp R5 S5
      have hrr : roundsP (n2 + 1) f1 m1 i = some (ev, f5, m5) := by
        show (match roundP f1 m1 i with | .inr r => some r | .inl r => roundsP n2 r.1 r.2 i) = _
        rw [rndP_ev hi hk hp]
      rw [hrr] at hr1
      cases hr1
      obtain ⟨k6, k6o⟩ := S5.keep0 notVM0 e6.1 e6.2
      obtain ⟨k7, k7o⟩ := S5.keep0 notVM0 e7.1 e7.2
      have S05 := S1.trans S5
      refine hdone a' _ hf ⟨ev, has_set9_ne k6 (by omega) _, k7.set9 _, by omega, ?_⟩
      exact .inl ⟨A5, rfl, ⟨hk, by have := (instrP_k m1 i hi).1; dsimp only; omega⟩, (R5.set9 k7o _).set9 k6o _, (S05.set9 (by omega) _).set9 (Nat.le_refl _) _⟩
    · intro a' w' A' v m5 f5 b hd hi hp hb hl R5 S5
      rw [hi] at i2 i3 i4 i5
      obtain ⟨b1, b2, b3, _⟩ := i7 v (by rw [hi])
      have htl := TL.instr h1.hi v (by rw [hi])
      rw [hi, th_get i5] at htl
      have hsl := h1.sl room1
      have hsl2 : t2.stack.length ≤ 10000 := by omega
      refine hpan a' w' _ hd (.inr (.inr ⟨A', b, v, m5, f5, K2, t2, rfl, hb, by omega, R5, S1.trans S5, by have := hp.le; omega, ⟨i2, i3, i5, b2, b3, hsl2, Low.next low1 i2 i4 i5 hsl2, b1⟩, ?_⟩))
      have hrp := rndP_thr hi hp
      have hrr : roundsP (n2 + 1) f1 m1 i = (match roundP f1 m1 i with | .inr r => some r | .inl r => roundsP n2 r.1 r.2 i) := rfl
      rw [hrr, hrp, th_get i5] at hr1
      cases hu : unwindN (t2.frames.length - 1) m5 i v with
      | none =>
        rw [hu] at hr1
        cases hr1
        exact .inr ⟨hu, rfl⟩
      | some m6 =>
        rw [hu] at hr1
        exact .inl ⟨m6, n2, hu, by omega, hr1⟩
    · intro a' w' A' k m5 f5 hd hi hp R5 S5
      have hrr : roundsP (n2 + 1) f1 m1 i = some (⟨5, 0, k, nilV, nilV⟩, f5, m5) := by
        show (match roundP f1 m1 i with | .inr r => some r | .inl r => roundsP n2 r.1 r.2 i) = _
        rw [rndP_trap hi hp]
      rw [hrr] at hr1
      cases hr1
      exact hpan a' w' _ hd (.inr (.inl ⟨A', k, m5, rfl, rfl, R5, ⟨rfl, rfl⟩, S1.trans S5⟩))
    · intro a' w' A' m9 hd hi hf0 R5 ho S5
      have hrr : roundsP (n2 + 1) f1 m1 i = some (⟨5, 0, 9, nilV, nilV⟩, f1, m1) := by
        show (match roundP f1 m1 i with | .inr r => some r | .inl r => roundsP n2 r.1 r.2 i) = _
        rw [rndP_out hi hf0]
      rw [hrr] at hr1
      cases hr1
      subst hf0
      exact hpan a' w' _ hd (.inr (.inl ⟨A', 9, m9, rfl, rfl, R5, ho, S1.trans S5⟩))
end
end Go.Proofs.Qxb6500574aGreatDoor
