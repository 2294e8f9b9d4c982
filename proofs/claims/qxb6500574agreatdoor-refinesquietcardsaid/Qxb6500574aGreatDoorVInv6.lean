/-
  moon: the invariant through calls and returns, a whole instruction, a whole round. Plain; no memory, no walk.
-/
import Derived.Test.Qxb6500574aGreatDoorVInv5
import Derived.Test.Qxb6500574aGreatDoorVLawF
namespace Go.Proofs.Qxb6500574aGreatDoor
set_option linter.unusedVariables false
set_option linter.unusedSimpArgs false

section
variable {K K' : Cx} {m m' m0 : VMD} {i : Nat} {t t1 t0 : ThD} {f f0 : FmD}
def BuOk (K : Cx) (m : VMD) (i : Nat) (t : ThD) (r : RR (Vl × Vl)) : Prop :=
  ∃ K' t1, Cur K K' m r.2 i t t1 ∧ t1.stack = t.stack ∧ (∀ v, r.1 = .inl (.inl v) → VOk K' v) ∧ (∀ p, r.1 = .inr p → VOk K' p.1 ∧ VOk K' p.2)
theorem BuOk.ok {p : Vl × Vl} (h : Cur K K' m m' i t t1) (hs : t1.stack = t.stack) (h1 : VOk K' p.1) (h2 : VOk K' p.2) : BuOk K m i t (.inr p, m') := ⟨K', t1, h, hs, (fun v e => by cases e), (fun q e => by cases e; exact ⟨h1, h2⟩)⟩
theorem BuOk.thr {s : Bs} (h : Cur K K' m m' i t t1) (e : t1.stack = t.stack) (hs : s.length ≤ 40) : BuOk K m i t (thrR s m') := ⟨K', t1, h, e, (fun v e => by cases e; exact VOk.str K' hs), (fun p e => by cases e)⟩
theorem BuOk.fly {v : Vl} (h : Cur K K' m m' i t t1) (e : t1.stack = t.stack) (hv : VOk K' v) : BuOk K m i t (.inl (.inl v), m') := ⟨K', t1, h, e, (fun v e => by cases e; exact hv), (fun p e => by cases e)⟩
theorem BuOk.trap {e : Nat} (h : Cur K K' m m' i t t1) (hs : t1.stack = t.stack) : BuOk K m i t (trapR e m') := ⟨K', t1, h, hs, (fun v e => by cases e), (fun p e => by cases e)⟩
theorem builtin_ok (h : At K m i t f) (b : Nat) {a0 a1 : Vl} (h0 : VOk K a0) (h1 : VOk K a1) : BuOk K m i t (builtinP m b a0 a1) := by
  have C := h.cur
  have nl := VOk.nil K
  unfold builtinP
  dsimp only
  by_cases e1 : b = 1
  · rw [if_pos e1]
    split
    · exact BuOk.trap C rfl
    · rename_i hl
      have V := h.vi
      refine BuOk.ok (t1 := t) ⟨Cx.le.refl _, { V with ol := ?_, txt := ⟨V.txt.p1, V.txt.pl, V.txt.pr, V.txt.dl, V.txt.kl, V.txt.cl, V.txt.ds, V.txt.ks, V.txt.cs, V.txt.ti⟩ }, h.up, ⟨Nat.le_refl _, (Rest.refl m i).old, (Rest.refl m i).new⟩, h.hi, rfl, rfl, rfl⟩ rfl nl nl
      simp only [List.length_append, List.length_singleton]
      omega
  rw [if_neg e1]
  by_cases e2 : b = 2
  · rw [if_pos e2]; exact BuOk.ok C rfl (VOk.str K (text_len h0)) nl
  rw [if_neg e2]
  by_cases e3 : b = 3
  · rw [if_pos e3]
    refine BuOk.ok C rfl ?_ nl
    dsimp only
    split
    · exact h0
    · split
      · split
        · rename_i hp; exact (parse_ok hp).val
        · exact nl
      · exact nl
  rw [if_neg e3]
  by_cases e4 : b = 4
  · rw [if_pos e4]; exact BuOk.ok C rfl (VOk.str K (by have := type_len a0; omega)) nl
  rw [if_neg e4]
  by_cases e5 : b = 5
  · rw [if_pos e5]; exact BuOk.fly C rfl h0
  rw [if_neg e5]
  by_cases e7 : b = 7
  · rw [if_pos e7]
    split
    · exact BuOk.thr C rfl (by decide)
    · split
      · exact BuOk.thr C rfl (by decide)
      · rename_i r hr
        obtain ⟨o1, o2⟩ := next_ok (tab_ok h.vi _).2 hr
        exact BuOk.ok C rfl o1 o2
  rw [if_neg e7]
  by_cases e8 : b = 8
  · rw [if_pos e8]
    split
    · exact BuOk.thr C rfl (by decide)
    · rename_i ht
      split
      · exact BuOk.trap C rfl
      · rename_i h5
        have ht5 : a0.t = 5 := Decidable.not_not.1 ht
        obtain ⟨V, l⟩ := spawn_inv h.vi (fn := a0.n) (by omega) (h0.c ht5)
        have hk := h.vi.kh
        have il := h.il
        refine BuOk.ok (t1 := t) ⟨l, V, h.up, ⟨by simp [spawn], fun j u hj hu => ⟨u, ?_, rfl, rfl, rfl⟩, fun j u hj hu => ?_⟩, ?_, rfl, rfl, rfl⟩ rfl ⟨?_, ?_, ?_, ?_, ?_, ?_⟩ (nl.le l)
        · simp only [spawn]
          rw [List.getElem?_append_left (List.getElem?_eq_some_iff.1 hu).1]
          exact hu
        · simp only [spawn] at hu
          rw [List.getElem?_append_right hj] at hu
          have e0 : j - m.ths.length = 0 := by
            have := (List.getElem?_eq_some_iff.1 hu).1
            simpa using this
          rw [e0] at hu
          simp at hu
          rw [← hu]
        · simp only [spawn]
          rw [List.getElem?_append_left il]
          exact h.hi
        · have : m.ths.length < 4294967296 := by omega
          simp [wellV, this]
        · show m.ths.length < 18446744073709551616
          omega
        · intro e; cases e
        · intro e; cases e
        · intro e; cases e
        · intro _
          show m.ths.length < K.nh + 1
          omega
  rw [if_neg e8]
  by_cases e11 : b = 11
  · rw [if_pos e11]
    split
    · exact BuOk.thr C rfl (by decide)
    · exact BuOk.ok C rfl (VOk.str K (by have := status_len (m.th a0.n).st; omega)) nl
  rw [if_neg e11]
  exact BuOk.thr C rfl (by decide)
theorem cut_is (hi : m.ths[i]? = some t) (n : Nat) : cut m i n = m.setTh i { t with stack := t.stack.take n } := by unfold cut; rw [th_get hi]
theorem two_ok {xs : List Vl} (h : ∀ v ∈ xs, VOk K v) {a b : Vl} (ha : VOk K a) (hb : VOk K b) (n : Nat) : ∀ v ∈ xs.take n ++ [a, b], VOk K v := by
  intro v hv
  rcases List.mem_append.1 hv with hv | hv
  · exact h v (List.mem_of_mem_take hv)
  · simp at hv
    rcases hv with rfl | rfl
    · exact ha
    · exact hb
/-- two results lie where the call lay -/
theorem Cur.two (h : At K m i t f) (R : Rest m0 m i) (hi0 : i < m0.ths.length) (C : Cur K K' m m' i t t1) (hs : t1.stack = t.stack) {pos : Nat} (hp : f.base + K.ns f.clo ≤ pos) (hl : pos ≤ t.stack.length) (hg : pos + 2 ≤ f.base + K.ns f.clo + 128) {a b : Vl} (ha : VOk K' a) (hb : VOk K' b) : InstrOk K m0 i t0 true (.inr ev0, push (cut m' i pos) i [a, b]) := by
  have hn : K'.ns f.clo = K.ns f.clo := C.le.n _ h.clo
  have e : push (cut m' i pos) i [a, b] = m'.setTh i { t1 with stack := t1.stack.take pos ++ [a, b] } := by
    rw [cut_is C.hi, push_is (setTh_get C.hi), setTh_setTh]
  have hlen : (t1.stack.take pos ++ [a, b]).length = pos + 2 := by rw [hs]; simp [hl]
  have C2 := C.stk h.il (t1.stack.take pos ++ [a, b]) (two_ok C.ok.sv ha hb pos) (fun g hg' => by rw [h.hf] at hg'; cases hg'; rw [hlen, hn]; omega) h.ne
  rw [e]
  refine ⟨K', _, C2.le, C2.vi, C2.up, R.trans hi0 C2.re, C2.hi, st_ne1 C2.vi C2.hi (by rw [C2.fr]; exact h.ne), (fun v e => by cases e), fun ev e => ?_⟩
  cases e
  refine ⟨VOk.nil _, fun _ => ⟨by rw [C2.st]; exact h.st, by rw [C2.fr]; exact h.ne, fun g hg' => ?_, (fun e => by cases e)⟩, (fun e => by cases e), (fun e => by cases e), (fun e => by cases e)⟩
  rw [C2.fr, h.hf] at hg'
  cases hg'
  rw [hlen, hn]
  omega
theorem InstrOk.thr {s : Bs} (h : At K m i t f) (R : Rest m0 m i) (hs : s.length ≤ 40) : InstrOk K m0 i t0 true (thrR s m) :=
  ⟨K, t, Cx.le.refl _, h.vi, h.up, R, h.hi, st_ne1 h.vi h.hi h.ne, (fun v e => by cases e; exact ⟨VOk.str K hs, h.st, h.ne, (fun e => by cases e)⟩), (fun v e => by cases e)⟩
/-- a frame is built by a call -/
theorem InstrOk.enter (h : At K m i t f) (R : Rest m0 m i) (hi0 : i < m0.ths.length) (room : Room K 0 t) (h8 : t.frames.length < 8) {c pos : Nat} (hc : c < K.nc) (hp : f.base + K.ns f.clo ≤ pos) (hl : pos ≤ t.stack.length) (hl2 : pos + 1 ≤ t.stack.length ∧ t.stack.length ≤ pos + 4) (hg : pos + 2 ≤ f.base + K.ns f.clo + 128) {args : List Vl} (ha : ∀ v ∈ args, VOk K v) (prot : Bool) : InstrOk K m0 i t0 true (.inr ev0, Go.Proofs.Qxb6500574aGreatDoor.enter m i c args pos prot) := by
  have E := enterTh h.vi h.hi (c := c) (ret := pos) (s := 4) hc h8 hl (fun e => (h.ne e).elim) (fun g hg' => by rw [h.hf] at hg'; cases hg'; exact ⟨hp, hg, room f h.hf, hl2⟩) ha prot (by omega) (fun e => (h.ne e).elim)
  rw [enter_is h.hi]
  have e4 : ({ t with st := 4, stack := t.stack ++ (List.range (m.proto c).ns).map (fun j => if j < (m.proto c).np then args.getD j nilV else nilV), frames := t.frames ++ [⟨c, 0, t.stack.length, pos, prot⟩] } : ThD) = { t with stack := t.stack ++ (List.range (m.proto c).ns).map (fun j => if j < (m.proto c).np then args.getD j nilV else nilV), frames := t.frames ++ [⟨c, 0, t.stack.length, pos, prot⟩] } := by
    rw [← h.st]
  rw [e4] at E
  refine ⟨K, _, Cx.le.refl _, h.vi.setTh h.hi E (fun c hc => hc), h.up, R.trans hi0 (Rest.setTh _ _ _), setTh_get h.hi, (by simp only; rw [h.st]; omega), (fun v e => by cases e), fun ev e => ?_⟩
  cases e
  refine ⟨VOk.nil _, fun _ => ⟨h.st, by simp, fun g hg' => ?_, (fun e => by cases e)⟩, (fun e => by cases e), (fun e => by cases e), (fun e => by cases e)⟩
  simp at hg'
  rw [← hg']
  simp only [List.length_append, List.length_map, List.length_range, h.vi.kn c hc]
  omega
/-- the thread sleeps -/
theorem InstrOk.sleep (h : At K m i t f) (R : Rest m0 m i) (hi0 : i < m0.ths.length) {pos s : Nat} (hp : f.base + K.ns f.clo ≤ pos) (hl : pos ≤ t.stack.length) (hg : pos + 2 ≤ f.base + K.ns f.clo + 128) {ev : EvD} (hv : VOk K ev.v)
    (hk : (ev.k = 3 ∧ s = 2 ∧ i ≠ 0) ∨ (ev.k = 4 ∧ s = 3 ∧ ev.th ≠ i ∧ ∃ u, m.ths[ev.th]? = some u ∧ (u.st = 1 ∨ u.st = 2))) : InstrOk K m0 i t0 true (.inr ev, m.setTh i { t with st := s, stack := t.stack.take pos }) := by
  have T := h.ok
  have hlen : (t.stack.take pos).length = pos := by rw [List.length_take]; omega
  have hT : ThOk K m.cells i { t with st := s, stack := t.stack.take pos } :=
    ⟨T.fn, by simp only; omega, take_ok T.sv _, T.fr.lenTo (fun g hg' => by rw [h.hf] at hg'; cases hg'; rw [hlen]; exact hp), ⟨T.op.ok, T.op.so⟩, fun e => (h.ne e).elim, ⟨fun e => (h.ne e).elim, fun e => by simp only at e; omega⟩⟩
  refine ⟨K, _, Cx.le.refl _, h.vi.setTh h.hi hT (fun c hc => hc), h.up, R.trans hi0 (Rest.setTh _ _ _), setTh_get h.hi, (by simp only; omega), (fun v e => by cases e), fun ev' e => ?_⟩
  cases e
  have rm : Room K 2 { t with st := s, stack := t.stack.take pos } := fun g hg' => by
    simp only at hg' ⊢
    rw [h.hf] at hg'
    cases hg'
    rw [hlen]
    exact hg
  refine ⟨hv, fun e => by omega, fun e => by omega, fun e => ⟨by simp only; omega, rm, by omega⟩, fun e => ⟨by simp only; omega, rm, ?_⟩⟩
  rcases hk with hk | ⟨_, _, hk, u, hu, hs⟩
  · omega
  · exact ⟨hk, u, by simp only [VMD.setTh]; rw [List.getElem?_set_ne (fun e => hk e.symm)]; exact hu, hs⟩
theorem call_ok (h0 : At K m0 i t0 f0) (room0 : Room K 0 t0) {x : Nat} (hx : x ≤ 3) (hn : f0.base + K.ns f0.clo + x + 1 ≤ t0.stack.length) (hg : t0.stack.length + 1 ≤ f0.base + K.ns f0.clo + 128 + x) (hcd : f0.pc < K.cd f0.clo) : InstrOk K m0 i t0 true (callP m0 i x) := by
  have hi0 := h0.il
  have hpc := h0.pc (x := f0.pc + 1) hcd
  unfold callP
  dsimp only
  rw [h0.topF]
  generalize setPc m0 i (f0.pc + 1) = m at hpc ⊢
  obtain ⟨h, R⟩ := hpc
  have hst : ({ t0 with frames := t0.frames.set (t0.frames.length - 1) { f0 with pc := f0.pc + 1 } } : ThD).stack = t0.stack := rfl
  have hfb : ({ f0 with pc := f0.pc + 1 } : FmD).base = f0.base ∧ ({ f0 with pc := f0.pc + 1 } : FmD).clo = f0.clo := ⟨rfl, rfl⟩
  have room : Room K 0 { t0 with frames := t0.frames.set (t0.frames.length - 1) { f0 with pc := f0.pc + 1 } } := fun g hg' => by
    rw [h.hf] at hg'
    cases hg'
    exact room0 f0 h0.hf
  generalize { t0 with frames := t0.frames.set (t0.frames.length - 1) { f0 with pc := f0.pc + 1 } } = t at h hst room ⊢
  generalize ({ f0 with pc := f0.pc + 1 } : FmD) = f at h hfb
  rw [th_get h.hi]
  rw [← hst] at hn hg
  rw [← hfb.1, ← hfb.2] at hn hg
  generalize hpos : t.stack.length - x - 1 = pos
  have T := h.ok
  have hp : f.base + K.ns f.clo ≤ pos := by omega
  have hl : pos ≤ t.stack.length := by omega
  have hl2 : pos + 1 ≤ t.stack.length ∧ t.stack.length ≤ pos + 4 := by omega
  have hg2 : pos + 2 ≤ f.base + K.ns f.clo + 128 := by omega
  have vfn : VOk K (t.stack.getD pos nilV) := getD_ok T.sv _
  generalize t.stack.getD pos nilV = fn at vfn ⊢
  have vargs : ∀ v ∈ t.stack.drop (pos + 1), VOk K v := fun v hv => T.sv v (List.mem_of_mem_drop hv)
  have va0 : VOk K ((t.stack.drop (pos + 1)).getD 0 nilV) := getD_ok vargs 0
  have va1 : VOk K ((t.stack.drop (pos + 1)).getD 1 nilV) := getD_ok vargs 1
  generalize t.stack.drop (pos + 1) = args at vargs va0 va1 ⊢
  generalize args.getD 0 nilV = a0 at va0 ⊢
  generalize args.getD 1 nilV = a1 at va1 ⊢
  split
  · rename_i h5
    split
    · exact InstrOk.thr h R (by decide)
    · rename_i h8
      exact InstrOk.enter h R hi0 room (by omega) (vfn.c h5) hp hl hl2 hg2 vargs false
  · split
    · exact InstrOk.thr h R (by decide)
    · split
      · split
        · rename_i hh
          refine InstrOk.enter h R hi0 room hh.2 (va0.c hh.1) hp hl hl2 hg2 (fun v hv => ?_) true
          simp at hv
          rw [hv]
          exact va1
        · refine Cur.two h R hi0 h.cur rfl hp hl hg2 (VOk.bool _ _) (VOk.str _ ?_)
          split <;> decide
      · split
        · split
          · exact InstrOk.thr h R (by decide)
          · rename_i h7
            have h7' : a0.t = 7 := Decidable.not_not.1 h7
            have hlt : a0.n < m.ths.length := by rw [h.vi.kh]; exact va0.h h7'
            have hu : m.ths[a0.n]? = some m.ths[a0.n] := List.getElem?_eq_getElem hlt
            rw [th_get hu]
            split
            · rename_i hs
              refine InstrOk.sleep h R hi0 hp hl hg2 va1 (.inr ⟨rfl, rfl, fun e => ?_, _, hu, hs⟩)
              have e' : a0.n = i := e
              subst e'
              rw [h.hi] at hu
              have h9 := h.st
              have : m.ths[a0.n] = t := (Option.some.inj hu).symm
              rw [this] at hs
              omega
            · exact Cur.two h R hi0 h.cur rfl hp hl hg2 (VOk.bool _ _) (VOk.str _ (by have := status_len m.ths[a0.n].st; omega))
        · split
          · split
            · exact InstrOk.thr h R (by decide)
            · rename_i hi1
              exact InstrOk.sleep h R hi0 hp hl hg2 va0 (.inl ⟨rfl, rfl, hi1⟩)
          · obtain ⟨K', t1, C, hs, h1, h2⟩ := builtin_ok h fn.n va0 va1
            generalize builtinP m fn.n a0 a1 = br at C h1 h2 ⊢
            obtain ⟨b1, m1⟩ := br
            cases b1 with
            | inl fl =>
              dsimp only at C ⊢
              refine ⟨K', t1, C.le, C.vi, C.up, R.trans hi0 C.re, C.hi, st_ne1 C.vi C.hi (by rw [C.fr]; exact h.ne), fun v e => ?_, (fun v e => by cases e)⟩
              cases e
              exact ⟨h1 v rfl, by rw [C.st]; exact h.st, by rw [C.fr]; exact h.ne, (fun e => by cases e)⟩
            | inr p =>
              dsimp only at C ⊢
              exact Cur.two h R hi0 C hs hp hl hg2 (h2 p rfl).1 (h2 p rfl).2
theorem ret_ok (h : At K m i t f) (hn : f.base + K.ns f.clo + 2 ≤ t.stack.length) : InstrOk K m i t false (retP m i) := by
  have v0 := topV_ok h.vi h.hi 0
  have v1 := topV_ok h.vi h.hi 1
  have C := h.cur.po h.il h.hf hn
  have e := pops_is h.hi 2
  unfold retP
  dsimp only
  rw [e] at C ⊢
  have hl2 := take_len (xs := t.stack) (k := 2) (by omega)
  generalize topV m i 0 = w at v0 ⊢
  generalize topV m i 1 = v at v1 ⊢
  have hth : (m.setTh i { t with stack := t.stack.take (t.stack.length - 2) }).th i = { t with stack := t.stack.take (t.stack.length - 2) } := th_get C.hi
  rw [hth]
  have hlt := (List.getElem?_eq_some_iff.1 h.hf).1
  split
  · obtain ⟨k1, k2, k3, k4⟩ := kill_inv C.vi C.up C.hi
    refine ⟨K, _, Cx.le.refl _, k1, k2, C.re.trans h.il k3, k4, (by simp only; omega), (fun v e => by cases e), fun ev e => ?_⟩
    cases e
    exact ⟨v1, (fun e => by cases e), fun _ => rfl, (fun e => by cases e), (fun e => by cases e)⟩
  · rename_i hne
    have htf : topF (m.setTh i { t with stack := t.stack.take (t.stack.length - 2) }) i = f := by
      unfold topF
      rw [hth, List.getD_eq_getElem?_getD]
      simp only
      rw [h.hf]
      rfl
    rw [htf]
    have hret := (h.ok.fr.each _ f h.hf).2.1
    have a2 : ∀ b : Bool, ∃ a c, (if b = true then [boolV true, v] else [v, w]) = [a, c] ∧ VOk K a ∧ VOk K c := by
      intro b
      cases b
      · exact ⟨v, w, rfl, v1, v0⟩
      · exact ⟨boolV true, v, rfl, VOk.bool _ _, v1⟩
    obtain ⟨a, c, eac, va, vc⟩ := a2 f.prot
    rw [eac]
    obtain ⟨m2, t2, e2, V2, U2, R2, H2, ⟨o, ho, et⟩, rm, ne⟩ := drop_inv C.vi C.up C.hi h.st (n := t.frames.length - 1) h.hf (by simp only at hne; omega) va vc (by simp only; omega)
    have hcut : push (cut (closeFrom (m.setTh i { t with stack := t.stack.take (t.stack.length - 2) }) i f.base) i f.ret) i [a, c] = (closeFrom (m.setTh i { t with stack := t.stack.take (t.stack.length - 2) }) i f.base).setTh i { t with opn := o, stack := (t.stack.take (t.stack.length - 2)).take f.ret ++ [a, c] } := by
      rw [cut_is ho, push_is (setTh_get ho), setTh_setTh]
    have hfin : (push (cut (closeFrom (m.setTh i { t with stack := t.stack.take (t.stack.length - 2) }) i f.base) i f.ret) i [a, c]).setTh i { (push (cut (closeFrom (m.setTh i { t with stack := t.stack.take (t.stack.length - 2) }) i f.base) i f.ret) i [a, c]).th i with frames := ((push (cut (closeFrom (m.setTh i { t with stack := t.stack.take (t.stack.length - 2) }) i f.base) i f.ret) i [a, c]).th i).frames.take (((push (cut (closeFrom (m.setTh i { t with stack := t.stack.take (t.stack.length - 2) }) i f.base) i f.ret) i [a, c]).th i).frames.length - 1) } = m2 := by
      rw [hcut, th_get (setTh_get ho), setTh_setTh, e2, et]
    rw [hfin]
    refine ⟨K, t2, Cx.le.refl _, V2, U2, C.re.trans h.il R2, H2, st_ne1 V2 H2 ne, (fun v e => by cases e), fun ev e => ?_⟩
    cases e
    refine ⟨VOk.nil _, fun _ => ⟨by rw [et]; exact h.st, ne, rm, fun _ => ?_⟩, (fun e => by cases e), (fun e => by cases e), (fun e => by cases e)⟩
    rw [et]
    exact mesK_take _ hlt
theorem instr_ok (h : At K m i t f) (room : Room K 0 t) : InstrOk K m i t (instrP m i).1 (instrP m i).2 := by
  have ht := h.top
  have rm := room f h.hf
  unfold instrP
  dsimp only
  rw [h.topF, th_get h.hi]
  split
  · exact InstrOk.trap h _
  · rename_i hpc
    have hcd : f.pc < K.cd f.clo := by rw [← h.vi.kd _ h.clo]; omega
    generalize m.code.getD ((m.proto f.clo).code + f.pc) (0, 0) = cx
    obtain ⟨op, x⟩ := cx
    dsimp only
    split
    · exact InstrOk.trap h _
    · rename_i hs
      have hs : soundP m i op x = true := by simpa using hs
      rw [h.ns]
      split
      · exact InstrOk.trap h _
      · rename_i hng
        have hn1 : needX op x ≤ (t.stack.length : Int) - f.base - K.ns f.clo := Int.not_lt.1 fun e => hng (.inl e)
        have hg1 : (t.stack.length : Int) - f.base - K.ns f.clo + growX op x ≤ 128 := Int.not_lt.1 fun e => hng (.inr e)
        have hjx : op = 21 ∨ op = 22 ∨ op = 23 ∨ op = 24 → x ≤ K.cd f.clo := by
          intro ho
          rw [← h.vi.kd _ h.clo]
          unfold soundP at hs
          rcases ho with e | e | e | e <;> subst e <;> simp (config := { decide := true }) only [if_true, if_false, h.topF] at hs <;> simp at hs <;> omega
        have jmp : ∀ y, y ≤ K.cd f.clo → InstrOk K m i t (decide (y ≤ f.pc)) (.inr ev0, setPc m i y) := fun y hy => InstrOk.go h room hy fun hb => ⟨hcd, by simpa using hb⟩
        have v0 := topV_ok h.vi h.hi 0
        -- a pop, then the pc
        have popc : needX op x = 1 → ∀ (b : Bool) y, y ≤ K.cd f.clo → (b = false → f.pc < y) → InstrOk K m i t b (.inr ev0, setPc (pops m i 1) i y) := by
          intro hnd b y hy hb
          have hn2 : f.base + K.ns f.clo + 1 ≤ t.stack.length := by omega
          have C := h.cur.po h.il h.hf hn2
          have h2 : At K (pops m i 1) i { t with stack := t.stack.take (t.stack.length - 1) } f := ⟨C.vi, C.up, C.hi, h.st, h.hf⟩
          have rm2 : Room K 0 { t with stack := t.stack.take (t.stack.length - 1) } := fun g hg => by
            have := room g hg
            simp only [List.length_take]
            omega
          obtain ⟨K', t', a1, a2, a3, a4, a5, a6, a7⟩ := InstrOk.go (burn := b) h2 rm2 (x := y) hy fun hb' => ⟨hcd, hb hb'⟩
          exact ⟨K', t', a1, a2, a3, C.re.trans h.il a4, a5, a6, a7⟩
        by_cases e21 : op = 21
        · rw [if_pos e21]; exact jmp x (hjx (by simp [e21]))
        rw [if_neg e21]
        by_cases e22 : op = 22
        · rw [if_pos e22]
          have hnd : needX op x = 1 := by rw [e22]; rfl
          split
          · exact popc hnd false _ hcd (fun _ => Nat.lt_succ_self _)
          · exact popc hnd _ _ (hjx (by simp [e22])) (fun hb => by simpa using hb)
        rw [if_neg e22]
        by_cases e23 : op = 23 ∨ op = 24
        · rw [if_pos e23]
          have hnd : needX op x = 1 := by rcases e23 with rfl | rfl <;> rfl
          split
          · exact jmp x (hjx (.inr (.inr e23)))
          · exact popc hnd false _ hcd (fun _ => Nat.lt_succ_self _)
        rw [if_neg e23]
        by_cases e26 : op = 26
        · rw [if_pos e26]
          subst e26
          have hx : x ≤ 3 := by
            unfold soundP at hs
            simp (config := { decide := true }) only [if_true, if_false] at hs
            simpa using hs
          have hn2 : needX 26 x = (x : Int) + 1 := rfl
          have hg2 : growX 26 x = 1 - (x : Int) := rfl
          exact call_ok h room hx (by omega) (by omega) hcd
        rw [if_neg e26]
        by_cases e27 : op = 27
        · rw [if_pos e27]
          subst e27
          have hn2 : needX 27 x = 2 := rfl
          exact ret_ok h (by omega)
        rw [if_neg e27]
        have hn2 : needX op x = need op := by unfold needX; rw [if_neg e26]
        have hg2 : growX op x = grow op := by unfold growX; rw [if_neg e26]
        have hop : 1 ≤ op ∧ op ≤ 32 := by
          refine Decidable.byContradiction fun hc => ?_
          have hs2 := hs
          unfold soundP at hs2
          have : ∀ k, 1 ≤ k → k ≤ 32 → op ≠ k := by intro k h1 h2 e; omega
          simp only [this 1 (by omega) (by omega), this 9 (by omega) (by omega), this 10 (by omega) (by omega), this 5 (by omega) (by omega), this 6 (by omega) (by omega), this 7 (by omega) (by omega), this 8 (by omega) (by omega), this 15 (by omega) (by omega), this 16 (by omega) (by omega), this 21 (by omega) (by omega), this 22 (by omega) (by omega), this 23 (by omega) (by omega), this 24 (by omega) (by omega), this 26 (by omega) (by omega), this 29 (by omega) (by omega), this 30 (by omega) (by omega), this 32 (by omega) (by omega), this 31 (by omega) (by omega), this 28 (by omega) (by omega), or_self, if_false] at hs2
          rw [decide_eq_true_eq] at hs2
          exact hc hs2
        have hnd : f.base + K.ns f.clo + (need op).toNat ≤ t.stack.length := by omega
        obtain ⟨K', t1, C, p1, p2⟩ := plain_ok h (by omega) hs hnd
        generalize plainP m i op x = r at C p1 p2 ⊢
        obtain ⟨r1, m1⟩ := r
        dsimp only at C p1 p2
        have hcl : ∀ g ∈ t.frames, g.clo < K.nc := fun g hg => by
          obtain ⟨j, hj, rfl⟩ := List.getElem_of_mem hg
          exact (h.ok.fr.each j _ (List.getElem?_eq_getElem hj)).1
        have h1 : At K' m1 i t1 f := ⟨C.vi, C.up, C.hi, by rw [C.st]; exact h.st, by rw [C.fr]; exact h.hf⟩
        have hnsl := C.le.n _ h.clo
        have hcdl := C.le.d _ h.clo
        cases r1 with
        | inl fl =>
          unfold bump
          dsimp only
          refine ⟨K', t1, C.le, C.vi, C.up, C.re, C.hi, st_ne1 h1.vi h1.hi h1.ne, fun v e => ?_, (fun v e => by cases e)⟩
          cases e
          exact ⟨p1 v rfl, h1.st, h1.ne, fun _ => by rw [C.fr, mesK_le C.le hcl]; exact Nat.le_refl _⟩
        | inr u =>
          unfold bump
          dsimp only
          have hlen := p2 rfl
          have rm1 : Room K' 0 t1 := fun g hg => by
            rw [C.fr, h.hf] at hg
            cases hg
            rw [hnsl]
            omega
          rw [h1.topF]
          obtain ⟨K2, t', a1, a2, a3, a4, a5, a55, a6, a7⟩ := InstrOk.go (burn := false) h1 rm1 (x := f.pc + 1) (by rw [hcdl]; exact hcd) fun _ => ⟨by rw [hcdl]; exact hcd, Nat.lt_succ_self _⟩
          refine ⟨K2, t', C.le.trans a1, a2, a3, C.re.trans h.il a4, a5, a55, (fun v e => by cases e), fun ev he => ?_⟩
          obtain ⟨b1, b2, b3, b4, b5⟩ := a7 ev he
          refine ⟨b1, fun hk => ?_, b3, b4, b5⟩
          obtain ⟨c1, c2, c3, c4⟩ := b2 hk
          refine ⟨c1, c2, c3, fun hb => ?_⟩
          have := c4 rfl
          rw [C.fr, mesK_le C.le hcl] at this
          exact this
end
end Go.Proofs.Qxb6500574aGreatDoor
