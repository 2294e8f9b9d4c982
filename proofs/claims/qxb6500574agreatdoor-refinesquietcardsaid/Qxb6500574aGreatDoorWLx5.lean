/-
  THE WALK of the parser layer: scan.
-/
import Derived.Test.Qxb6500574aGreatDoorWLx4
namespace Go.Proofs.Qxb6500574aGreatDoor
open Go Go.RowKit
set_option linter.unusedVariables false
set_option linter.unusedSimpArgs false
open Go.Lib
def eofT (n : Nat) : Tok := ⟨0, n, [], 0, 0⟩
/-- the loop of scan between two rounds -/
structure ScR (w : World) (o : Nat → Nat) (s : Bs) (kL kI : Nat) (wr : World) (or : Nat → Nat) (q e f : Nat) (toks : List Tok) (sl : Sl) : Prop where
  el : e ≤ s.length
  qe : q ≤ e
  bd : Bd s e
  fu : s.length + 1 ≤ f + e
  sc : scanP s = toks ++ scanN f e (s.drop e)
  tl : toks.length ≤ e
  it : wr.heap[kI]? = some (.stringIter ⟨s.toArray⟩ q)
  li : or kI = 1045
  la : Blk wr or 1046 kL (tokC (eofT s.length)).toArray 132
  row : Row wr or 1041 132 5 sl toks.length (toks.flatMap tokC)
  st : Stp (fun l => l = 1041 ∨ l = 1045 ∨ l = 1046) w o wr or
theorem heap_old (w : World) (b : Obj) {k : Nat} (h : k < w.heap.size) : (w.alloc b).heap[k]? = w.heap[k]? := heap_alloc_old w b h
/-- the ground of the loop -/
theorem scan_start {w : World} {o : Nat → Nat} {s : Bs} {sl : Sl} {n : Nat} {xs : List Value} (hO : Ow w o) (hR : Row w o 1041 132 5 sl n xs) :
    ScR ((w.alloc (.cells (tokC (eofT s.length)).toArray 132)).alloc (.stringIter ⟨s.toArray⟩ 0)) (upd (upd o w.heap.size 1046) (w.heap.size + 1) 1045) s w.heap.size (w.heap.size + 1) ((w.alloc (.cells (tokC (eofT s.length)).toArray 132)).alloc (.stringIter ⟨s.toArray⟩ 0)) (upd (upd o w.heap.size 1046) (w.heap.size + 1) 1045) 0 0 (s.length + 1) [] sl ∧
    Stp (fun _ => False) w o ((w.alloc (.cells (tokC (eofT s.length)).toArray 132)).alloc (.stringIter ⟨s.toArray⟩ 0)) (upd (upd o w.heap.size 1046) (w.heap.size + 1) 1045) := by
  have hz : (w.alloc (.cells (tokC (eofT s.length)).toArray 132)).heap.size = w.heap.size + 1 := by simp
  have st : Stp (fun _ => False) w o ((w.alloc (.cells (tokC (eofT s.length)).toArray 132)).alloc (.stringIter ⟨s.toArray⟩ 0)) (upd (upd o w.heap.size 1046) (w.heap.size + 1) 1045) := by
    refine ⟨((Fr.refl _ _).alloc _).alloc _, fun k hk => ?_, fun x k hk => ?_⟩
    · rw [upd_ne _ _ (by omega), upd_ne _ _ (by omega)]
    · have hk2 : w.heap.size + 2 ≤ k := by simpa using hk
      rw [upd_ne _ _ (by omega), upd_ne _ _ (by omega)]
      exact x k (by omega)
  refine ⟨⟨Nat.zero_le _, Nat.le_refl _, .inr (.inl rfl), by omega, rfl, Nat.le_refl _, ?_, upd_self _ _ _, ⟨(Has.new _ _ _).alloc _, ?_⟩, (hR.take 0 (Nat.zero_le _) (by simp)).st st (fun x => x), Stp.refl _ _ _⟩, st⟩
  · have := heap_alloc_new (w.alloc (.cells (tokC (eofT s.length)).toArray 132)) (.stringIter ⟨s.toArray⟩ 0)
    rw [hz] at this
    exact this
  · rw [upd_ne _ _ (by omega)]
    exact upd_self _ _ _
/-- the last token is laid, the header is stored -/
theorem scan_fin {w W0 wr w2 : World} {o o1 or : Nat → Nat} {s : Bs} {sx n n0 g cap : Nat} {num nv : Value} {toks : List Tok} {sl sl' : Sl} {b : Obj} {t : Tok} (hB : Blk w o 1040 sx #[num, sl'.v n0, nv] 81) (S0 : Stp (fun _ => False) w o W0 o1) (hrow : Row wr or 1041 132 5 sl toks.length (toks.flatMap tokC)) (hst : Stp (fun l => l = 1041 ∨ l = 1045 ∨ l = 1046) W0 o1 wr or) (hn : toks.length = n) (hsc : scanP s = toks ++ [t])
    (q1 : w2.ownsRow 0 132 5 (.slice (some ⟨g, 0, none⟩) (n + 1) cap) (n + 1) (toks.flatMap tokC ++ tokC t)) (q2 : Fr (fun k => (sl.v n).ownBlock = some k) (wr.alloc b) w2) (q3 : (sl.v n).ownBlock = some g ∨ g = wr.heap.size + 1) (q4 : g < w2.heap.size) :
    Has w2 sx #[num, sl'.v n0, nv] 81 ∧ (∃ o' sl, Blk (w2.setCell ⟨sx, 1, none⟩ (.slice (some ⟨g, 0, none⟩) (n + 1) cap)) o' 1040 sx #[num, sl.v (scanP s).length, nv] 81 ∧ Row (w2.setCell ⟨sx, 1, none⟩ (.slice (some ⟨g, 0, none⟩) (n + 1) cap)) o' 1041 132 5 sl (scanP s).length ((scanP s).flatMap tokC) ∧ Stp (fun l => l = 1040 ∨ l = 1041 ∨ l = 1045 ∨ l = 1046) w o (w2.setCell ⟨sx, 1, none⟩ (.slice (some ⟨g, 0, none⟩) (n + 1) cap)) o') := by
  subst hn
  have hlen : (scanP s).length = toks.length + 1 := by rw [hsc]; simp
  have hfl : (scanP s).flatMap tokC = toks.flatMap tokC ++ tokC t := by rw [hsc]; simp
  have S1 : Stp (fun l => l = 1041 ∨ l = 1045 ∨ l = 1046) w o wr or := (S0.weaken (fun _ x => x.elim)).trans hst
  have hB1 := hB.st S1 (by omega)
  obtain ⟨a1, a2⟩ := hrow.app (w1 := wr.alloc b) ((Fr.refl _ _).alloc b) q1 q2 (by
    rcases q3 with q3 | q3
    · exact .inl q3
    · right; omega) q4
  have hB2 := hB1.st a2 (by omega)
  obtain ⟨p1, p2⟩ := hB2.put 1 (.slice (some ⟨g, 0, none⟩) (toks.length + 1) cap) (cs' := #[num, .slice (some ⟨g, 0, none⟩) (toks.length + 1) cap, nv]) rfl
  refine ⟨hB2.has, ⟨upd or g 1041, ⟨some ⟨g, 0, none⟩, cap⟩, ?_, ?_, ?_⟩⟩
  · rw [hlen]; exact p1
  · rw [hlen, hfl]; exact a1.st p2 (by omega)
  · exact ((S1.weaken (fun l x => by omega)).trans (a2.weaken (fun l x => by omega))).trans (p2.weaken (fun l x => by omega))
/-- the iterator stands at q', blocks were added, a good token was appended -/
theorem ScR.good {W0 wr w4 w5 w6 : World} {o1 or : Nat → Nat} {s : Bs} {kL kI q e f q' e' f' n g cap : Nat} {toks : List Tok} {sl : Sl} {t : Tok} (h : ScR W0 o1 s kL kI wr or q e f toks sl) (hn : toks.length = n) (h5 : Fr (fun _ => False) (wr.iterAt kI ⟨s.toArray⟩ q') w5)
    (q1 : w6.ownsRow 0 132 5 (.slice (some ⟨g, 0, none⟩) (n + 1) cap) (n + 1) (toks.flatMap tokC ++ tokC t)) (q2 : Fr (fun k => (sl.v n).ownBlock = some k) w5 w6) (q3 : (sl.v n).ownBlock = some g ∨ wr.heap.size ≤ g) (q4 : g < w6.heap.size)
    (el : e' ≤ s.length) (qe : q' ≤ e') (bd : Bd s e') (fu : s.length + 1 ≤ f' + e') (sc : scanP s = toks ++ [t] ++ scanN f' e' (s.drop e')) (tl : toks.length + 1 ≤ e') :
    ScR W0 o1 s kL kI w6 (upd or g 1041) q' e' f' (toks ++ [t]) ⟨some ⟨g, 0, none⟩, cap⟩ := by
  subst hn
  have s1 : Stp (fun l => l = 1045) wr or (wr.iterAt kI ⟨s.toArray⟩ q') or := iter_st (q := q) h.li q'
  obtain ⟨a1, a2⟩ := (h.row.st s1 (by omega)).app h5 q1 q2 (by rw [iterAt_size]; exact q3) q4
  have s2 := s1.weaken (Q' := fun l => l = 1041 ∨ l = 1045 ∨ l = 1046) (fun l x => by omega)
  have s3 := a2.weaken (Q' := fun l => l = 1041 ∨ l = 1045 ∨ l = 1046) (fun l x => by omega)
  have hkl : kI < wr.heap.size := (Array.getElem?_eq_some_iff.1 h.it).1
  have hkl2 : kI < (wr.iterAt kI ⟨s.toArray⟩ q').heap.size := by rw [iterAt_size]; exact hkl
  refine ⟨el, qe, bd, fu, sc, by simpa using tl, ?_, ?_, (h.la.st s1 (by omega)).st a2 (by omega), ?_, h.st.trans (s2.trans s3)⟩
  · rw [a2.fr.block kI hkl2 (by rw [h.li]; omega)]
    exact iterAt_heap wr kI _ q q' h.it
  · exact (a2.ext kI hkl2).trans h.li
  · have := a1
    simpa using this
/-- the iterator stands at q', blocks were added -/
theorem ScR.cont {W0 wr w5 : World} {o1 or : Nat → Nat} {s : Bs} {kL kI q e f q' e' f' : Nat} {toks : List Tok} {sl : Sl} (h : ScR W0 o1 s kL kI wr or q e f toks sl) (h5 : Fr (fun _ => False) (wr.iterAt kI ⟨s.toArray⟩ q') w5)
    (el : e' ≤ s.length) (qe : q' ≤ e') (bd : Bd s e') (fu : s.length + 1 ≤ f' + e') (sc : scanP s = toks ++ scanN f' e' (s.drop e')) (tl : toks.length ≤ e') : ScR W0 o1 s kL kI w5 or q' e' f' toks sl := by
  have s1 : Stp (fun l => l = 1045) wr or (wr.iterAt kI ⟨s.toArray⟩ q') or := iter_st (q := q) h.li q'
  have a2 : Stp (fun l => l = 1041) (wr.iterAt kI ⟨s.toArray⟩ q') or w5 or := Stp.fresh _ _ h5
  have s2 := s1.weaken (Q' := fun l => l = 1041 ∨ l = 1045 ∨ l = 1046) (fun l x => by omega)
  have s3 := a2.weaken (Q' := fun l => l = 1041 ∨ l = 1045 ∨ l = 1046) (fun l x => by omega)
  have a3 : Stp (fun _ => False) (wr.iterAt kI ⟨s.toArray⟩ q') or w5 or := Stp.fresh _ _ h5
  have hkl : kI < wr.heap.size := (Array.getElem?_eq_some_iff.1 h.it).1
  have hkl2 : kI < (wr.iterAt kI ⟨s.toArray⟩ q').heap.size := by rw [iterAt_size]; exact hkl
  refine ⟨el, qe, bd, fu, sc, tl, ?_, h.li, (h.la.st s1 (by omega)).st a3 (fun x => x), (h.row.st s1 (by omega)).st a3 (fun x => x), h.st.trans (s2.trans s3)⟩
  rw [h5.block kI hkl2 (fun x => x)]
  exact iterAt_heap wr kI _ q q' h.it
/-- a bad token was laid as the last -/
structure ScB (w : World) (o : Nat → Nat) (s : Bs) (kL : Nat) (wr : World) (or : Nat → Nat) (toks : List Tok) (sl : Sl) (t : Tok) : Prop where
  sc : scanP s = toks ++ [t]
  tl : toks.length ≤ s.length
  la : Has wr kL (tokC t).toArray 132
  row : Row wr or 1041 132 5 sl toks.length (toks.flatMap tokC)
  st : Stp (fun l => l = 1041 ∨ l = 1045 ∨ l = 1046) w o wr or
theorem ScR.bad {W0 wr w5 : World} {o1 or : Nat → Nat} {s : Bs} {kL kI q e f q' : Nat} {toks : List Tok} {sl : Sl} {t : Tok} (h : ScR W0 o1 s kL kI wr or q e f toks sl) (h5 : Fr (fun _ => False) (wr.iterAt kI ⟨s.toArray⟩ q') w5) (sc : scanP s = toks ++ [t]) :
    Has w5 kL (tokC (eofT s.length)).toArray 132 ∧ ScB W0 o1 s kL (((((w5.setCell ⟨kL, 0, none⟩ (.int .i64 t.k)).setCell ⟨kL, 1, none⟩ (.int .i64 t.p)).setCell ⟨kL, 2, none⟩ (sv t.s)).setCell ⟨kL, 3, none⟩ (.int .u64 t.n)).setCell ⟨kL, 4, none⟩ (.int .i64 t.e)) or toks sl t := by
  have s1 : Stp (fun l => l = 1045) wr or (wr.iterAt kI ⟨s.toArray⟩ q') or := iter_st (q := q) h.li q'
  have a3 : Stp (fun _ => False) (wr.iterAt kI ⟨s.toArray⟩ q') or w5 or := Stp.fresh _ _ h5
  have la := (h.la.st s1 (by omega)).st a3 (fun x => x)
  obtain ⟨p0, r0⟩ := la.put 0 (.int .i64 t.k) (cs' := #[.int .i64 t.k, .int .i64 s.length, sv [], .int .u64 0, .int .i64 0]) rfl
  obtain ⟨p1, r1⟩ := p0.put 1 (.int .i64 t.p) (cs' := #[.int .i64 t.k, .int .i64 t.p, sv [], .int .u64 0, .int .i64 0]) rfl
  obtain ⟨p2, r2⟩ := p1.put 2 (sv t.s) (cs' := #[.int .i64 t.k, .int .i64 t.p, sv t.s, .int .u64 0, .int .i64 0]) rfl
  obtain ⟨p3, r3⟩ := p2.put 3 (.int .u64 t.n) (cs' := #[.int .i64 t.k, .int .i64 t.p, sv t.s, .int .u64 t.n, .int .i64 0]) rfl
  obtain ⟨p4, r4⟩ := p3.put 4 (.int .i64 t.e) (cs' := (tokC t).toArray) rfl
  have rr := (((r0.trans r1).trans r2).trans r3).trans r4
  refine ⟨la.has, sc, Nat.le_trans h.tl h.el, p4.has, ((h.row.st s1 (by omega)).st a3 (fun x => x)).st rr (by omega), ?_⟩
  exact ((h.st.trans (s1.weaken (fun l x => by omega))).trans (a3.weaken (fun l x => x.elim))).trans (rr.weaken (fun l x => by omega))
end Go.Proofs.Qxb6500574aGreatDoor
