/-
  moon: the invariant through a whole round. Plain; no memory, no walk.
-/
import Derived.Test.Qxb6500574aGreatDoorVInv4
namespace Go.Proofs.Qxb6500574aGreatDoor
set_option linter.unusedVariables false
set_option linter.unusedSimpArgs false

def Room (K : Cx) (k : Nat) (t : ThD) : Prop := ∀ f, t.frames[t.frames.length - 1]? = some f → t.stack.length + k ≤ f.base + K.ns f.clo + 128
def mesK (K : Cx) (fs : List FmD) : Nat := (fs.map fun f => K.cd f.clo - f.pc + 1).sum
section
variable {K K' : Cx} {m m' : VMD} {i : Nat} {t t1 : ThD} {f : FmD}
theorem mesK_le {fs : List FmD} (l : K.le K') (h : ∀ f ∈ fs, f.clo < K.nc) : mesK K' fs = mesK K fs := by
  unfold mesK
  congr 1
  refine List.map_congr_left fun f hf => ?_
  rw [l.d _ (h f hf)]
theorem mesK_append (fs gs : List FmD) : mesK K (fs ++ gs) = mesK K fs + mesK K gs := by simp [mesK]
theorem mesK_one (f : FmD) : mesK K [f] = K.cd f.clo - f.pc + 1 := by simp [mesK]
theorem mesK_take (fs : List FmD) {n : Nat} (h : n < fs.length) : mesK K (fs.take n) < mesK K fs := by
  have e : mesK K fs = mesK K (fs.take n) + mesK K (fs.drop n) := by rw [← mesK_append, List.take_append_drop]
  have hd : 0 < mesK K (fs.drop n) := by
    rw [List.drop_eq_getElem_cons h, show fs[n] :: fs.drop (n + 1) = [fs[n]] ++ fs.drop (n + 1) from rfl, mesK_append, mesK_one]
    omega
  omega
theorem set_last {fs : List FmD} (h : fs[fs.length - 1]? = some f) (g : FmD) : ∃ r, fs = r ++ [f] ∧ fs.set (fs.length - 1) g = r ++ [g] := by
  have hlt := (List.getElem?_eq_some_iff.1 h).1
  have he : fs[fs.length - 1] = f := (List.getElem?_eq_some_iff.1 h).2
  have hd : fs.drop (fs.length - 1) = [f] := by
    rw [List.drop_eq_getElem_cons hlt, he, List.drop_eq_nil_of_le (by omega)]
  have hs : fs = fs.take (fs.length - 1) ++ [f] := by
    have := List.take_append_drop (fs.length - 1) fs
    rw [hd] at this
    exact this.symm
  refine ⟨fs.take (fs.length - 1), hs, ?_⟩
  have hl : (fs.take (fs.length - 1)).length = fs.length - 1 := by rw [List.length_take]; omega
  have key : ∀ r : List FmD, ∀ n, n = r.length → (r ++ [f]).set n g = r ++ [g] := by
    intro r n hn
    rw [hn, List.set_append_right _ _ (Nat.le_refl _), Nat.sub_self]
    rfl
  have := key (fs.take (fs.length - 1)) (fs.length - 1) hl.symm
  rw [← hs] at this
  exact this
theorem FrsOk.mono {fs : List FmD} {L : Nat} (h : FrsOk K fs L) : ∀ (d j : Nat) (a b : FmD), fs[j]? = some a → fs[j + d]? = some b → a.base ≤ b.base := by
  intro d
  induction d with
  | zero => intro j a b ha hb; rw [Nat.add_zero, ha] at hb; cases hb; exact Nat.le_refl _
  | succ d ih =>
    intro j a b ha hb
    have hlt := (List.getElem?_eq_some_iff.1 hb).1
    obtain ⟨c, hc⟩ : ∃ c, fs[j + d]? = some c := ⟨_, List.getElem?_eq_getElem (by omega)⟩
    have h1 := ih j a c ha hc
    have h2 := h.mid (j + d) c b hc (by rw [show j + d + 1 = j + (d + 1) by omega]; exact hb)
    have h3 := h.each _ b hb
    omega
/-- another pc of the top frame -/
theorem At.pc (h : At K m i t f) {x : Nat} (hx : x ≤ K.cd f.clo) : At K (setPc m i x) i { t with frames := t.frames.set (t.frames.length - 1) { f with pc := x } } { f with pc := x } ∧ Rest m (setPc m i x) i := by
  have hlt := (List.getElem?_eq_some_iff.1 h.hf).1
  have T := h.ok
  have e : setPc m i x = m.setTh i { t with frames := t.frames.set (t.frames.length - 1) { f with pc := x } } := by
    unfold setPc
    dsimp only
    rw [th_get h.hi, List.getD_eq_getElem?_getD, h.hf]
    rfl
  rw [e]
  refine ⟨⟨h.vi.setTh h.hi ⟨T.fn, T.st, T.sv, T.fr.pc h.hf hx, ⟨fun c hc => ?_, T.op.so⟩, fun en => ?_, ?_⟩ (fun c hc => hc), h.up, setTh_get h.hi, h.st, ?_⟩, Rest.setTh _ _ _⟩
  · obtain ⟨ce, h1, h2, g, h3, h4, h5⟩ := T.op.ok c hc
    obtain ⟨j, hj, rfl⟩ := List.getElem_of_mem h3
    by_cases ej : t.frames.length - 1 = j
    · subst ej
      have : t.frames[t.frames.length - 1] = f := (List.getElem?_eq_some_iff.1 h.hf).2
      rw [this] at h4 h5
      exact ⟨ce, h1, h2, { f with pc := x }, by simp only; exact List.mem_iff_getElem.2 ⟨_, by simpa using hlt, by simp⟩, h4, h5⟩
    · exact ⟨ce, h1, h2, t.frames[j], by simp only; exact List.mem_iff_getElem.2 ⟨j, by simpa using hj, by rw [List.getElem_set_ne ej]⟩, h4, h5⟩
  · exact absurd (by simpa using en) h.ne
  · simp only [List.set_eq_nil_iff]
    exact T.al
  · simp only [List.length_set]
    rw [List.getElem?_set_self hlt]
/-- a frame is built -/
theorem enterTh (h : VI K m) (hi : m.ths[i]? = some t) {c ret s : Nat} (hc : c < K.nc) (h8 : t.frames.length < 8) (hr : ret ≤ t.stack.length) (h0 : t.frames = [] → t.stack.length = 0)
    (hg : ∀ g, t.frames[t.frames.length - 1]? = some g → g.base + K.ns g.clo ≤ ret ∧ ret + 2 ≤ g.base + K.ns g.clo + 128 ∧ t.stack.length ≤ g.base + K.ns g.clo + 128 ∧ ret + 1 ≤ t.stack.length ∧ t.stack.length ≤ ret + 4) {args : List Vl} (ha : ∀ v ∈ args, VOk K v) (prot : Bool) (hs : 2 ≤ s ∧ s ≤ 4) (hp0 : t.frames = [] → prot = false) :
    ThOk K m.cells i { t with st := s, stack := t.stack ++ (List.range (m.proto c).ns).map (fun j => if j < (m.proto c).np then args.getD j nilV else nilV), frames := t.frames ++ [⟨c, 0, t.stack.length, ret, prot⟩] } := by
  have T := h.th i t hi
  have hn : (m.proto c).ns = K.ns c := h.kn c hc
  refine ⟨T.fn, by simp only; omega, fun v hv => ?_, ?_, ⟨fun c' hc' => ?_, T.op.so⟩, fun e => by simp at e, ?_⟩
  · rcases List.mem_append.1 hv with hv | hv
    · exact T.sv v hv
    · obtain ⟨j, _, rfl⟩ := List.mem_map.1 hv
      split
      · exact getD_ok ha j
      · exact VOk.nil K
  · refine T.fr.snoc h8 _ hc hr (fun e => ⟨h0 e, hp0 e⟩) (Nat.zero_le _) hg h.ns12 ?_
    simp [hn]
  · obtain ⟨ce, h1, h2, g, h3, h4⟩ := T.op.ok c' hc'
    exact ⟨ce, h1, h2, g, List.mem_append_left _ h3, h4⟩
  · constructor
    · intro e; simp at e
    · intro e; simp only at e; omega
theorem enter_is (hi : m.ths[i]? = some t) (c : Nat) (args : List Vl) (ret : Nat) (prot : Bool) : enter m i c args ret prot = m.setTh i { t with stack := t.stack ++ (List.range (m.proto c).ns).map (fun j => if j < (m.proto c).np then args.getD j nilV else nilV), frames := t.frames ++ [⟨c, 0, t.stack.length, ret, prot⟩] } := by
  unfold enter
  dsimp only
  rw [th_get hi]
/-- thread i is dead -/
theorem kill_inv (h : VI K m) (u : UpL m) (hi : m.ths[i]? = some t) : VI K (kill m i) ∧ UpL (kill m i) ∧ Rest m (kill m i) i ∧ (kill m i).ths[i]? = some ⟨5, t.fn, [], [], []⟩ := by
  have P := closeFrom_inv h hi 0
  have hk := P.none
  have T := h.th i t hi
  have T2 := P.vi.th i _ hk
  have e : kill m i = (closeFrom m i 0).setTh i ⟨5, t.fn, [], [], []⟩ := by
    unfold kill
    dsimp only
    rw [th_get hk]
  rw [e]
  refine ⟨P.vi.setTh hk ⟨T.fn, by simp, by simp, ⟨by simp, by simp, by simp, by simp, by simp, by simp, by simp⟩, ⟨by simp, by simp⟩, fun _ => rfl, by simp⟩ (fun c hc => by cases hc), ?_, ?_, setTh_get hk⟩
  · unfold UpL at u ⊢
    have : ((closeFrom m i 0).setTh i ⟨5, t.fn, [], [], []⟩).upix = m.upix := P.ux
    rw [this]
    have : ((closeFrom m i 0).setTh i ⟨5, t.fn, [], [], []⟩).clos = m.clos := P.cl
    rw [this]
    exact u
  · exact (Rest.ot (P.vi.kh.trans h.kh.symm) P.ot).trans (List.getElem?_eq_some_iff.1 hi).1 (Rest.setTh _ _ _)
/-- the frames from n on go; two values lie where the call lay -/
theorem drop_inv (h : VI K m) (u : UpL m) (hi : m.ths[i]? = some t) (hst : t.st = 4) {n : Nat} (hn : t.frames[n]? = some f) (hn1 : 1 ≤ n) {a b : Vl} (ha : VOk K a) (hb : VOk K b) (hl : f.ret ≤ t.stack.length) :
    ∃ m2 t2, m2 = (closeFrom m i f.base).setTh i t2 ∧ VI K m2 ∧ UpL m2 ∧ Rest m m2 i ∧ m2.ths[i]? = some t2 ∧ (∃ o, (closeFrom m i f.base).ths[i]? = some { t with opn := o } ∧ t2 = { t with opn := o, stack := t.stack.take f.ret ++ [a, b], frames := t.frames.take n }) ∧ Room K 0 t2 ∧ t2.frames ≠ [] := by
  have P := closeFrom_inv h hi f.base
  obtain ⟨k, hk⟩ := P.th
  have T := h.th i t hi
  have T2 := P.vi.th i _ hk
  have hlt := (List.getElem?_eq_some_iff.1 hn).1
  have hlen : (t.stack.take f.ret ++ [a, b]).length = f.ret + 2 := by simp [hl]
  have ht : (t.frames.take n).length = n := by rw [List.length_take]; omega
  refine ⟨_, _, rfl, P.vi.setTh hk (t' := { t with opn := t.opn.take k, stack := t.stack.take f.ret ++ [a, b], frames := t.frames.take n }) ⟨T.fn, T.st, ?_, ?_, ⟨fun c hc => ?_, T2.op.so⟩, fun e => ?_, ?_⟩ (fun c hc => hc), ?_, ?_, setTh_get hk, ⟨_, hk, rfl⟩, ?_, ?_⟩
  · intro v hv
    rcases List.mem_append.1 hv with hv | hv
    · exact T.sv v (List.mem_of_mem_take hv)
    · simp at hv
      rcases hv with rfl | rfl
      · exact ha
      · exact hb
  · rw [hlen]
    exact T.fr.take hn (by omega)
  · obtain ⟨ce, h1, h2, g, h3, h4, h5⟩ := T2.op.ok c hc
    refine ⟨ce, h1, h2, g, ?_, h4, h5⟩
    have hlo := P.lo c (by rw [th_get hk]; exact hc)
    rw [show (closeFrom m i f.base).cells.getD c ce0 = ce by simp [h1]] at hlo
    obtain ⟨j, hj, rfl⟩ := List.getElem_of_mem h3
    simp only at hj h4 ⊢
    have hjn : j < n := by
      refine Nat.lt_of_not_le fun hle => ?_
      have := T.fr.mono (j - n) n f (t.frames[j]) hn (by rw [show n + (j - n) = j by omega]; exact List.getElem?_eq_getElem hj)
      omega
    exact List.mem_iff_getElem.2 ⟨j, by rw [ht]; exact hjn, by rw [List.getElem_take]⟩
  · have : (t.frames.take n).length = 0 := by simp only at e; rw [e]; rfl
    omega
  · constructor
    · intro e
      have : (t.frames.take n).length = 0 := by simp only at e; rw [e]; rfl
      omega
    · intro e; simp only at e; omega
  · unfold UpL at u ⊢
    have e1 : ((closeFrom m i f.base).setTh i { t with opn := t.opn.take k, stack := t.stack.take f.ret ++ [a, b], frames := t.frames.take n }).upix = m.upix := P.ux
    have e2 : ((closeFrom m i f.base).setTh i { t with opn := t.opn.take k, stack := t.stack.take f.ret ++ [a, b], frames := t.frames.take n }).clos = m.clos := P.cl
    rw [e1, e2]
    exact u
  · exact (Rest.ot (P.vi.kh.trans h.kh.symm) P.ot).trans (List.getElem?_eq_some_iff.1 hi).1 (Rest.setTh _ _ _)
  · intro g hg
    simp only at hg ⊢
    rw [ht] at hg
    rw [List.getElem?_take_of_lt (by omega)] at hg
    have := T.fr.mid (n - 1) g f hg (by rw [show n - 1 + 1 = n by omega]; exact hn)
    rw [hlen]
    omega
  · intro e
    have : (t.frames.take n).length = 0 := by simp only at e; rw [e]; rfl
    omega
theorem st_ne1 (h : VI K m) (hi : m.ths[i]? = some t) (hne : t.frames ≠ []) : t.st ≠ 1 := fun e => hne ((h.th i t hi).al.2 (.inl e))
/-- what an instruction comes to -/
def InstrOk (K : Cx) (m : VMD) (i : Nat) (t : ThD) (burn : Bool) (r : RR EvD) : Prop :=
  ∃ K' t', K.le K' ∧ VI K' r.2 ∧ UpL r.2 ∧ Rest m r.2 i ∧ r.2.ths[i]? = some t' ∧ t'.st ≠ 1 ∧
    (∀ v, r.1 = .inl (.inl v) → VOk K' v ∧ t'.st = 4 ∧ t'.frames ≠ [] ∧ (burn = false → mesK K' t'.frames ≤ mesK K t.frames)) ∧
    (∀ ev, r.1 = .inr ev → VOk K' ev.v ∧ (ev.k = 0 → t'.st = 4 ∧ t'.frames ≠ [] ∧ Room K' 0 t' ∧ (burn = false → mesK K' t'.frames < mesK K t.frames)) ∧ (ev.k = 1 → t'.st = 5) ∧ (ev.k = 3 → t'.st = 2 ∧ Room K' 2 t' ∧ i ≠ 0) ∧
      (ev.k = 4 → t'.st = 3 ∧ Room K' 2 t' ∧ ev.th ≠ i ∧ ∃ u, r.2.ths[ev.th]? = some u ∧ (u.st = 1 ∨ u.st = 2)))
theorem Rest.pre {m0 : VMD} (h : Rest m0 m i) (hi : i < m0.ths.length) (g : Rest m m' i) : Rest m0 m' i := h.trans hi g
theorem At.mes (h : At K m i t f) {x : Nat} (h1 : f.pc < K.cd f.clo) (h2 : f.pc < x) : mesK K (t.frames.set (t.frames.length - 1) { f with pc := x }) < mesK K t.frames := by
  obtain ⟨r, e1, e2⟩ := set_last h.hf { f with pc := x }
  rw [e2]
  conv => rhs; rw [e1]
  rw [mesK_append, mesK_append, mesK_one, mesK_one]
  simp only
  omega
/-- only the pc (and the stack) has turned: the loop goes on -/
theorem InstrOk.go {burn : Bool} (h : At K m i t f) (hroom : Room K 0 t) {x : Nat} (hx : x ≤ K.cd f.clo) (hm : burn = false → f.pc < K.cd f.clo ∧ f.pc < x) : InstrOk K m i t burn (.inr ev0, setPc m i x) := by
  obtain ⟨A, R⟩ := h.pc hx
  refine ⟨K, _, Cx.le.refl _, A.vi, A.up, R, A.hi, st_ne1 A.vi A.hi A.ne, (fun v e => by cases e), fun ev e => ?_⟩
  cases e
  refine ⟨VOk.nil K, fun _ => ⟨h.st, A.ne, fun g hg => ?_, fun hb => h.mes (hm hb).1 (hm hb).2⟩, (fun e => by cases e), (fun e => by cases e), (fun e => by cases e)⟩
  rw [A.hf] at hg
  cases hg
  exact hroom f h.hf
theorem InstrOk.trap {burn : Bool} (h : At K m i t f) (e : Nat) : InstrOk K m i t burn (trapR e m) :=
  ⟨K, t, Cx.le.refl _, h.vi, h.up, Rest.refl _ _, h.hi, st_ne1 h.vi h.hi h.ne, (fun v e => by cases e), (fun v e => by cases e)⟩
end
end Go.Proofs.Qxb6500574aGreatDoor
