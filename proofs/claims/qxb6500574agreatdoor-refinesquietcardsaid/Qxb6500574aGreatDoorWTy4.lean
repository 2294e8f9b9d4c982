/-
  moon: typed frames through closures, scopes' ends, loops' instructions. Plain; no memory, no walk.
-/
import Derived.Test.Qxb6500574aGreatDoorWTy3
namespace Go.Proofs.Qxb6500574aGreatDoor
set_option linter.unusedVariables false
set_option linter.unusedSimpArgs false
theorem closeN_tx (i a : Nat) : ∀ (n : Nat) (m : VMD), TxtT m (closeN n m i a) ∧ ∀ (c : Nat) (ce : CeD), (closeN n m i a).cells[c]? = some ce → 0 ≤ ce.th → m.cells[c]? = some ce := by
  intro n
  induction n with
  | zero => intro m; exact ⟨TxtT.refl m, fun c ce h _ => h⟩
  | succ n ih =>
    intro m
    unfold closeN
    dsimp only
    split
    · exact ⟨TxtT.refl m, fun c ce h _ => h⟩
    · obtain ⟨h1, h2⟩ := ih { m with cells := m.cells.set ((m.th i).opn.getD n 0) ⟨-1, 0, (m.th i).stack.getD (m.cells.getD ((m.th i).opn.getD n 0) ce0).pos nilV⟩, ths := m.ths.set i { m.th i with opn := (m.th i).opn.take n } }
      refine ⟨TxtT.trans ?_ h1, fun c ce h hc => ?_⟩
      · exact ⟨rfl, rfl, rfl, rfl, fun _ _ => rfl, Nat.le_refl _⟩
      have := h2 c ce h hc
      simp only at this
      by_cases e : (m.th i).opn.getD n 0 = c
      · subst e
        have hl := (List.getElem?_eq_some_iff.1 this).1
        rw [List.length_set] at hl
        rw [List.getElem?_set_self hl] at this
        cases this
        simp at hc
      · rw [List.getElem?_set_ne e] at this
        exact this
theorem closL_tx (i base clo : Nat) : ∀ (l : List (Nat × Nat)) (m : VMD), TxtT m (closL i base clo l m) ∧ (∀ (c : Nat) (ce : CeD), (closL i base clo l m).cells[c]? = some ce → m.cells[c]? = some ce ∨ (ce.th = (i : Int) ∧ ∃ d ∈ l, d.1 = 1 ∧ ce.pos = base + d.2)) := by
  intro l
  induction l with
  | nil => intro m; exact ⟨TxtT.refl m, fun c ce h => .inl h⟩
  | cons d r ih =>
    intro m
    unfold closL
    split
    · rename_i h1
      have key : ∀ m2 : VMD, TxtT m m2 → (∀ (c : Nat) (ce : CeD), m2.cells[c]? = some ce → m.cells[c]? = some ce ∨ (ce.th = (i : Int) ∧ ce.pos = base + d.2)) → TxtT m (closL i base clo r m2) ∧ (∀ (c : Nat) (ce : CeD), (closL i base clo r m2).cells[c]? = some ce → m.cells[c]? = some ce ∨ (ce.th = (i : Int) ∧ ∃ d' ∈ d :: r, d'.1 = 1 ∧ ce.pos = base + d'.2)) := by
        intro m2 x hc
        obtain ⟨g1, g2⟩ := ih m2
        refine ⟨x.trans g1, fun c ce h => ?_⟩
        rcases g2 c ce h with h | ⟨h3, e, he, h4, h5⟩
        · rcases hc c ce h with h | ⟨h3, h4⟩
          · exact .inl h
          · exact .inr ⟨h3, d, by simp, h1, h4⟩
        · exact .inr ⟨h3, e, by simp [he], h4, h5⟩
      dsimp only
      unfold capture
      dsimp only
      split
      · exact key _ ⟨rfl, rfl, rfl, rfl, fun _ _ => rfl, Nat.le_refl _⟩ (fun c ce h => .inl h)
      · refine key _ ⟨rfl, rfl, rfl, rfl, fun _ _ => rfl, Nat.le_refl _⟩ (fun c ce h => ?_)
        simp only at h
        by_cases hl : c < m.cells.length
        · rw [List.getElem?_append_left hl] at h
          exact .inl h
        · rw [List.getElem?_append_right (by omega)] at h
          have := (List.getElem?_eq_some_iff.1 h).1
          simp at this
          rw [show c - m.cells.length = 0 by omega] at h
          simp at h
          rw [← h]
          exact .inr ⟨rfl, rfl⟩
    · obtain ⟨g1, g2⟩ := ih { m with upix := m.upix ++ [m.upix.getD ((m.clos.getD clo cl0).up + d.2) 0] }
      refine ⟨TxtT.trans ?_ g1, fun c ce h => ?_⟩
      · exact ⟨rfl, rfl, rfl, rfl, fun _ _ => rfl, Nat.le_refl _⟩
      rcases g2 c ce h with h | ⟨h3, e, he, h4, h5⟩
      · exact .inl h
      · exact .inr ⟨h3, e, by simp [he], h4, h5⟩
section
variable {S : Nat → Nat → Ty → Prop} {K K' : Cx} {m m' m1 : VMD} {i : Nat} {t t1 : ThD} {f : FmD} {a b : Ty}
/-- thread i's open list and its operands turn; cells come at b's visible slots or go -/
theorem Run.gen (h : Run S K m i t f a) (tx : TxtT m m1) {xs : List Vl} {o : List Nat} (hi1 : m1.ths[i]? = some { t with stack := xs, opn := o }) (hot : ∀ j, j ≠ i → m1.ths[j]? = m.ths[j]?)
    (hce : ∀ (c : Nat) (ce : CeD), m1.cells[c]? = some ce → 0 ≤ ce.th → m.cells[c]? = some ce ∨ (ce.th = (i : Int) ∧ f.base ≤ ce.pos))
    (hs : ∀ q, q < f.base → xs.getD q nilV = t.stack.getD q nilV)
    (g : Goes (S (m.clos.getD f.clo cl0).p) (f.pc + 1) b) (hh : xs.length = f.base + K.ns f.clo + b.h) (hbt : b.t = false)
    (hF : ∀ y ∈ b.F, ∀ e, e < 3 → (xs.getD (f.base + y + e) nilV).t = 2)
    (ho : ∀ (c : Nat) (ce : CeD), m1.cells[c]? = some ce → ce.th = (i : Int) → f.base ≤ ce.pos → ce.pos < f.base + K.ns f.clo → b.hid[ce.pos - f.base]? = some false) : PlTy S m i (.inr (), m1) := by
  refine PlTy.ok ?_
  rw [topF_get hi1 (by simp only; exact h.at_.hf)]
  have st2 := Stay.setPc m1 i (f.pc + 1)
  have tx2 := tx.trans st2.tx
  refine h.at_.go h.tc h.ti ⟨tx2, fun c ce j hj k1 k2 => ?_, fun j u hj hu => ?_⟩ (setPc_get (f := f) hi1 (by simp only; exact h.at_.hf) _) rfl h.at_.st (fun c ce k1 k2 k3 => ?_) (fun q hq hn => hs q hq) g ⟨?_, (fun e => by rw [hbt] at e; cases e), hF, fun c ce k1 k2 k3 k4 => ?_⟩
  · rw [st2.ce] at k1
    rcases hce c ce k1 (by omega) with k | ⟨k, _⟩
    · exact ⟨c, ce, k, k2, rfl⟩
    · omega
  · rw [st2.ot j hj, hot j hj] at hu
    exact .inr ⟨u, hu, rfl, rfl, rfl, h.ot j u hj hu, fun _ _ => rfl⟩
  · rw [st2.ce] at k1
    rcases hce c ce k1 (by omega) with k | ⟨k, k'⟩
    · exact ⟨c, ce, k, k2, rfl⟩
    · omega
  · rw [tx2.proto h.clo, h.at_.ns]
    exact hh
  · rw [st2.ce] at k1
    rw [tx2.proto h.clo, h.at_.ns] at k4
    exact ho c ce k1 k2 k3 k4
theorem th_eta {t : ThD} : ({ t with stack := t.stack, opn := t.opn } : ThD) = t := rfl
/-- ICLOSE -/
theorem Run.close (h : Run S K m i t f a) {x : Nat} (hx : x ≤ K.ns f.clo) (g : Goes (S (m.clos.getD f.clo cl0).p) (f.pc + 1) { a with hid := a.hid.take x, F := a.F.filter (fun b => decide (b + 3 ≤ x)), t := false }) : PlTy S m i (.inr (), closeFrom m i (f.base + x)) := by
  have P := closeFrom_inv h.at_.vi h.at_.hi (f.base + x)
  obtain ⟨k, hk⟩ := P.th
  obtain ⟨T1, T2⟩ := closeN_tx i (f.base + x) (m.th i).opn.length m
  change TxtT m (closeFrom m i (f.base + x)) at T1
  refine h.gen T1 (xs := t.stack) (o := t.opn.take k) hk P.ot (fun c ce k1 k2 => .inl (T2 c ce k1 k2)) (fun q hq => rfl) g h.hh rfl (fun y hy e he => ?_) (fun c ce k1 k2 k3 k4 => ?_)
  · exact h.fi.F y (List.mem_filter.1 hy).1 e he
  · have h0 := T2 c ce k1 (by omega)
    have h1 := h.fi.o c ce h0 k2 k3 (by rw [h.at_.ns]; exact k4)
    have hlo : ce.pos < f.base + x := by
      rcases P.vi.ce c ce k1 with ⟨e, _⟩ | ⟨y, u, e1, e2, e3⟩
      · omega
      · have : y = i := by omega
        subst this
        have := P.lo c (by rw [th_get e2]; exact e3)
        rw [show (closeFrom m y (f.base + x)).cells.getD c ce0 = ce by simp [k1]] at this
        exact this
    simp only
    rw [List.getElem?_take_of_lt (by omega)]
    exact h1
/-- ICLOSURE -/
theorem Run.closure (h : Run S K m i t f a) {x : Nat} (hd : ∃ ds, (fxOf m (m.clos.getD f.clo cl0).p).ch x = some ds ∧ ∀ d ∈ ds, (d.1 = 1 ∧ a.hid[d.2]? = some false) ∨ (d.1 = 0 ∧ d.2 < (fxOf m (m.clos.getD f.clo cl0).p).nup)) (g : Goes (S (m.clos.getD f.clo cl0).p) (f.pc + 1) a.push) :
    soundP m i 28 x = true ∧ PlTy S m i (match Go.Proofs.Qxb6500574aGreatDoor.closure m i f.base f.clo x with | (.inl fl, m1) => (.inl fl, m1) | (.inr c, m1) => (.inr (), Go.Proofs.Qxb6500574aGreatDoor.push m1 i [⟨5, c, []⟩])) := by
  obtain ⟨ds, d1, d2⟩ := hd
  have hl := h.hl
  have hx : x < m.protos.length := by
    simp only [fxOf] at d1
    cases e : m.protos[x]? with
    | none => rw [e] at d1; cases d1
    | some r => exact (List.getElem?_eq_some_iff.1 e).1
  have hds : ds = (m.descs.drop (m.protos.getD x pr0).up).take (m.protos.getD x pr0).nup := by
    simp only [fxOf] at d1
    rw [List.getElem?_eq_getElem hx] at d1
    simp only [Option.map_some, Option.some.injEq] at d1
    rw [← d1]
    simp [hx]
  have hnup : (fxOf m (m.clos.getD f.clo cl0).p).nup = (m.clos.getD f.clo cl0).nup := by
    obtain ⟨q, p, k1, k2, k3, k4, k5, _⟩ := h.at_.vi.proto h.at_.clo
    simp only [fxOf]
    have e1 : m.clos.getD f.clo cl0 = q := by simp [k1]
    rw [e1, k5]
    simp [k2]
  have nob : ∀ d ∈ ds, ¬ ((d.1 = 1 ∧ d.2 ≥ K.ns f.clo) ∨ (d.1 = 0 ∧ d.2 ≥ (m.clos.getD f.clo cl0).nup)) := by
    intro d hd hb
    rcases d2 d hd with ⟨e1, e2⟩ | ⟨e1, e2⟩
    · have := (List.getElem?_eq_some_iff.1 e2).1
      omega
    · rw [hnup] at e2
      omega
  constructor
  · unfold soundP
    simp (config := { decide := true }) only [if_true, if_false, h.at_.topF]
    rw [if_neg (by omega), ← hds, Bool.not_eq_true', List.any_eq_false]
    intro d hd
    rw [decide_eq_true_eq, h.at_.ns]
    exact nob d hd
  · rcases closure_ok h.at_.vi h.at_.up h.at_.hi h.at_.mem h.at_.clo hx (fun d hd => nob d (by rw [hds]; exact hd)) with e | ⟨K', m', t1, e, C2, s1, hlt⟩
    · rw [e]
      exact PlTy.trap (by decide)
    · rw [e]
      dsimp only
      obtain ⟨T1, T2⟩ := closL_tx i f.base f.clo ((m.descs.drop (m.protos.getD x pr0).up).take (m.protos.getD x pr0).nup) m
      have em : m' = { closL i f.base f.clo ((m.descs.drop (m.protos.getD x pr0).up).take (m.protos.getD x pr0).nup) m with clos := (closL i f.base f.clo ((m.descs.drop (m.protos.getD x pr0).up).take (m.protos.getD x pr0).nup) m).clos ++ [⟨x, m.upix.length, (m.protos.getD x pr0).nup⟩] } := by
        unfold Go.Proofs.Qxb6500574aGreatDoor.closure at e
        split at e
        · cases e
        · dsimp only at e
          exact (Prod.mk.inj e).2.symm
      obtain ⟨Q, _, _⟩ := closL_inv ((m.descs.drop (m.protos.getD x pr0).up).take (m.protos.getD x pr0).nup) h.at_.vi h.at_.hi h.at_.mem h.at_.clo (fun d hd' => ⟨nob d (by rw [hds]; exact hd'), (h.at_.vi.txt.ds d (List.mem_of_mem_drop (List.mem_of_mem_take hd'))).1⟩)
      rw [← hds] at T1 T2 em Q
      obtain ⟨o, ho⟩ := Q.th
      have tx : TxtT m m' := by
        refine T1.trans ?_
        rw [em]
        refine ⟨rfl, rfl, rfl, rfl, fun c hc => ?_, by simp⟩
        simp only
        rw [List.getD_eq_getElem?_getD, List.getElem?_append_left hc, ← List.getD_eq_getElem?_getD]
      have hm : m'.ths[i]? = some { t with opn := o } := by rw [em]; exact ho
      have hcells : m'.cells = (closL i f.base f.clo ds m).cells := by rw [em]
      have hth : ∀ j : Nat, m'.ths[j]? = (closL i f.base f.clo ds m).ths[j]? := by rw [em]; intro j; rfl
      rw [push_is hm]
      have hh := h.hh
      refine h.gen (m1 := m'.setTh i _) (tx.trans (TxtT.setTh _ _ _)) (xs := t.stack ++ [⟨5, m.clos.length, []⟩]) (o := o) (setTh_get hm) (fun j hj => ?_) (fun c ce k1 k2 => ?_) (fun q hq => gd_app (by omega)) g (by simp [Ty.push]; omega) rfl (fun y hy e he => ?_) (fun c ce k1 k2 k3 k4 => ?_)
      · simp only [VMD.setTh]
        rw [List.getElem?_set_ne (fun e => hj e.symm), hth j]
        exact Q.ot j hj
      · rcases T2 c ce (by rw [← hcells]; exact k1) with k | ⟨k, d, _, _, k3⟩
        · exact .inl k
        · exact .inr ⟨k, by omega⟩
      · have hy' : y ∈ a.F := hy
        have := h.pr hy' he
        rw [gd_app (by omega)]
        exact h.fi.F y hy' e he
      · rcases T2 c ce (by rw [← hcells]; exact k1) with k | ⟨k, d, hd, kd, kp⟩
        · exact h.fi.o c ce k k2 k3 (by rw [h.at_.ns]; exact k4)
        · rcases d2 d hd with ⟨_, e2⟩ | ⟨e1, _⟩
          · rw [kp, show f.base + d.2 - f.base = d.2 by omega]
            exact e2
          · omega
/-- IFORCHK -/
theorem Run.chk (h : Run S K m i t f a) {x : Nat} (hx : x + 3 < K.ns f.clo) (g : Goes (S (m.clos.getD f.clo cl0).p) (f.pc + 1) { a with F := x :: a.F, t := false }) : PlTy S m i (forP m i 30 (f.base + x)) := by
  unfold forP
  dsimp only
  rw [th_get h.at_.hi]
  simp only [if_true]
  have fl : ∀ s : Bs, PlTy S m i (thrR s m) := fun s => h.fly (Stay.refl m i) (k := 0) (Nat.zero_le _) (by rw [h.at_.hi]; simp)
  split
  · exact fl _
  · rename_i hn
    split
    · exact fl _
    · refine h.gen (m1 := m) (TxtT.refl m) (xs := t.stack) (o := t.opn) h.at_.hi (fun _ _ => rfl) (fun c ce k1 k2 => .inl k1) (fun q hq => rfl) g h.hh rfl (fun y hy e he => ?_) (fun c ce k1 k2 k3 k4 => h.fi.o c ce k1 k2 k3 (by rw [h.at_.ns]; exact k4))
      rcases List.mem_cons.1 hy with rfl | hy
      · have h0 : (t.stack.getD (f.base + y) nilV).t = 2 := Decidable.byContradiction fun z => hn (.inl z)
        have h1 : (t.stack.getD (f.base + y + 1) nilV).t = 2 := Decidable.byContradiction fun z => hn (.inr (.inl z))
        have h2 : (t.stack.getD (f.base + y + 2) nilV).t = 2 := Decidable.byContradiction fun z => hn (.inr (.inr z))
        have : e = 0 ∨ e = 1 ∨ e = 2 := by omega
        rcases this with rfl | rfl | rfl
        · exact h0
        · exact h1
        · exact h2
      · exact h.fi.F y hy e he
/-- IFORNEXT -/
theorem Run.nxt (h : Run S K m i t f a) {x : Nat} (hx : x + 3 < K.ns f.clo) (hF : ∀ b ∈ a.F, b + 3 ≤ x + 1) (g : Goes (S (m.clos.getD f.clo cl0).p) (f.pc + 1) a.push) : PlTy S m i (forP m i 32 (f.base + x)) := by
  have hh := h.hh
  unfold forP
  dsimp only
  rw [th_get h.at_.hi]
  simp only [if_true, show (32 : Nat) ≠ 30 by decide, show (32 : Nat) ≠ 31 by decide, if_false]
  have fl : ∀ s : Bs, PlTy S m i (thrR s m) := fun s => h.fly (Stay.refl m i) (k := 0) (Nat.zero_le _) (by rw [h.at_.hi]; simp)
  split
  · exact fl _
  · split
    · exact fl _
    · rename_i kv hkv
      rw [push_is (setTh_get h.at_.hi), setTh_setTh]
      refine h.gen (m1 := m.setTh i _) (TxtT.setTh m i _) (o := t.opn) (setTh_get h.at_.hi) (fun j hj => (Stay.setTh m i _).ot j hj) (fun c ce k1 k2 => .inl k1) (fun q hq => ?_) g (by simp [Ty.push]; omega) rfl (fun y hy e he => ?_) (fun c ce k1 k2 k3 k4 => h.fi.o c ce k1 k2 k3 (by rw [h.at_.ns]; exact k4))
      · rw [gd_app (by simp; omega), gd_setne (by omega), gd_setne (by omega), gd_setne (by omega)]
      · have hy' : y ∈ a.F := hy
        have h1 := h.pr hy' he
        have h2 := hF y hy'
        rw [gd_app (by simp; omega), gd_setne (by omega), gd_setne (by omega), gd_setne (by omega)]
        exact h.fi.F y hy' e he
end
end Go.Proofs.Qxb6500574aGreatDoor
