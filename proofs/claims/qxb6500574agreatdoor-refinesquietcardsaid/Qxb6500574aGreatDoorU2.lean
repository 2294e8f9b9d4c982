/-
  moon: THE MACHINE AT REST: what an Exec comes to, and what is kept. Plain; no walk.
-/
import Derived.Test.Qxb6500574aGreatDoorU1
namespace Go.Proofs.Qxb6500574aGreatDoor
set_option linter.unusedVariables false
set_option linter.unusedSimpArgs false

def wipeD (m : VMD) : VMD := { m with protos := [], descs := [], consts := [], code := [], clos := [], upix := [], cells := [], ths := [] }
def vmZ : VMD := ⟨[], [], [], [], [], [], [], [], [], []⟩
structure St where
  m : VMD
  f : Nat
  e : Nat
def st0 : St := ⟨vmZ, 0, 21⟩
/-- thread 0 is not yielded, and fresh only while it is alone -/
def Th0 (m : VMD) : Prop := ∀ t : ThD, m.ths[0]? = some t → t.st ≠ 2 ∧ (t.st = 1 → m.ths.length = 1)
structure Emp (m : VMD) : Prop where
  p : m.protos = []
  d : m.descs = []
  k : m.consts = []
  c : m.code = []
  l : m.clos = []
  u : m.upix = []
  e : m.cells = []
  h : m.ths = []
structure DI (σ : St) : Prop where
  live : σ.e = 0 → (∃ K, Slp K σ.m) ∧ Th0 σ.m
  dead : σ.e ≠ 0 → Emp σ.m ∧ (σ.e = 8 ∨ σ.e = 9 ∨ σ.e = 10 ∨ σ.e = 11 ∨ σ.e = 21) ∧ (σ.e ≠ 21 → 1 ≤ σ.m.tabs.length)
  fu : σ.f < 9223372036854775808
  ol : σ.m.out.length ≤ 200
  ln : σ.m.out = [] ∨ σ.m.out.getLast? = some 10
  tb : ∀ t ∈ σ.m.tabs, TFit t ∧ TCk t
  tn : σ.m.tabs.length ≤ 12
  tv : ∃ K : Cx, ∀ t ∈ σ.m.tabs, ∀ e ∈ t.order, VOk K e.1 ∧ VOk K e.2
theorem DI.zero : DI st0 := ⟨fun h => by simp [st0] at h, fun _ => ⟨⟨rfl, rfl, rfl, rfl, rfl, rfl, rfl, rfl⟩, by simp [st0], fun h => by simp [st0] at h⟩, by simp [st0], by simp [st0, vmZ], by simp [st0, vmZ], by simp [st0, vmZ], by simp [st0, vmZ], ⟨⟨0, 0, 0, fun _ => 0, fun _ => 0⟩, by simp [st0, vmZ]⟩⟩
/-- valid says VOk -/
theorem VOk.of_valid {K : Cx} {m : VMD} (V : VI K m) {v : Vl} (hb : v.n < 18446744073709551616) (h : validV m v = true) : VOk K v := by
  unfold validV at h
  split at h
  · cases h
  · rename_i hw
    have hw' : wellV v = true := by simpa using hw
    refine ⟨hw', hb, fun h2 hn => ?_, fun h4 => ?_, fun h5 => ?_, fun h7 => ?_⟩
    · rw [if_pos h2, hn] at h
      simpa using h
    · rw [if_neg (by omega), if_pos h4] at h
      rw [← V.kt]; simpa using h
    · rw [if_neg (by omega), if_neg (by omega), if_pos h5] at h
      rw [← V.kc]; simpa using h
    · rw [if_neg (by omega), if_neg (by omega), if_neg (by omega), if_pos h7] at h
      rw [← V.kh]; simpa using h

/-! ### an Exec -/
def evBad : EvD := ⟨6, 0, 0, nilV, nilV⟩
/-- the call is allowed -/
structure Okay (σ : St) (i : Int) (a b : Vl) : Prop where
  e : σ.e = 0
  i0 : 0 ≤ i
  il : i.toNat < σ.m.ths.length
  va : validV σ.m a = true
  vb : validV σ.m b = true
  st : (σ.m.th i.toNat).st = 1 ∨ (σ.m.th i.toNat).st = 2 ∨ (σ.m.th i.toNat).st = 3
def after (r : EvD × Nat × VMD) : St := if r.1.k = 5 then ⟨wipeD r.2.2, r.2.1, r.1.e⟩ else ⟨r.2.2, r.2.1, 0⟩
def ExecR (σ : St) (i : Int) (a b : Vl) (ev : EvD) (σ' : St) : Prop :=
  (¬ Okay σ i a b ∧ ev = evBad ∧ σ' = σ) ∨ (Okay σ i a b ∧ ∃ n r, roundsP n σ.f (startP σ.m i.toNat a b) i.toNat = some r ∧ ev = r.1 ∧ σ' = after r)
theorem ExecR.det {σ : St} {i : Int} {a b : Vl} {ev ev2 : EvD} {σ1 σ2 : St} (h : ExecR σ i a b ev σ1) (g : ExecR σ i a b ev2 σ2) : ev = ev2 ∧ σ1 = σ2 := by
  rcases h with ⟨h1, h2, h3⟩ | ⟨h1, n, r, h2, h3, h4⟩
  · rcases g with ⟨g1, g2, g3⟩ | ⟨g1, _⟩
    · exact ⟨h2.trans g2.symm, h3.trans g3.symm⟩
    · exact absurd g1 h1
  · rcases g with ⟨g1, _⟩ | ⟨g1, n', r', g2, g3, g4⟩
    · exact absurd h1 g1
    · have := roundsP_det h2 g2
      subst this
      exact ⟨h3.trans g3.symm, h4.trans g4.symm⟩
/-- a round's second value -/
theorem callP_w (m : VMD) (i x : Nat) : ∀ ev, (callP m i x).1 = .inr ev → ev.w = nilV := by
  intro ev
  unfold callP
  dsimp only
  repeat' split
  all_goals (intro e; first | (cases e; rfl) | (simp [thrR] at e; done) | (cases e; done))
theorem instrP_w {K : Cx} {m : VMD} {i : Nat} {t : ThD} {f : FmD} (h : At K m i t f) : ∀ ev, (instrP m i).2.1 = .inr ev → VOk K ev.w := by
  intro ev
  have v0 := topV_ok h.vi h.hi 0
  have hn := VOk.nil K
  unfold instrP
  dsimp only
  repeat' split
  all_goals first
    | (intro e; simp [trapR] at e; done)
    | (intro e; cases e; exact hn)
    | (intro e; rw [callP_w _ _ _ ev e]; exact hn)
    | (unfold retP; dsimp only; split <;> (intro e; cases e; first | exact v0 | exact hn))
    | (unfold bump; split <;> (intro e; first | (cases e; done) | (cases e; exact hn)))
theorem roundP_w {K : Cx} {m : VMD} {i : Nat} {t : ThD} {f : FmD} (h : At K m i t f) (fu : Nat) : ∀ r, roundP fu m i = .inr r → VOk K r.1.w := by
  intro r
  have hw := instrP_w h
  have hn := VOk.nil K
  unfold roundP
  dsimp only
  split
  · intro e; cases e; exact hn
  · split
    · split
      · intro e; cases e
      · intro e; cases e; exact hn
    · intro e; cases e; exact hn
    · rename_i ev m1 he
      split
      · intro e; cases e
      · intro e; cases e; exact hw ev (by rw [he])
theorem roundP_t {m : VMD} {i fu : Nat} : ∀ r, roundP fu m i = .inr r → r.1.k = 5 → r.1.v = nilV := by
  intro r
  have hk := fun (ev : EvD) (m1 : VMD) (h : (instrP m i).2 = (.inr ev, m1)) => instrP_k m i h
  unfold roundP
  dsimp only
  split
  · intro e; cases e; exact fun _ => rfl
  · split
    · split
      · intro e; cases e
      · intro e; cases e; intro h; cases h
    · intro e; cases e; exact fun _ => rfl
    · rename_i ev m1 he
      split
      · intro e; cases e
      · intro e; cases e; intro h; have := hk ev m1 he; dsimp only at h; omega
theorem rounds_t : ∀ (n : Nat) {fu : Nat} {m : VMD} {i : Nat} {r : EvD × Nat × VMD}, roundsP n fu m i = some r → r.1.k = 5 → r.1.v = nilV := by
  intro n
  induction n with
  | zero => intro fu m i r h; cases h
  | succ n ih =>
    intro fu m i r hr
    unfold roundsP at hr
    cases e1 : roundP fu m i with
    | inl x => rw [e1] at hr; exact ih hr
    | inr x => rw [e1] at hr; cases hr; exact roundP_t _ e1
theorem rounds_w : ∀ (n : Nat) {fu : Nat} {K : Cx} {m : VMD} {i : Nat} {t : ThD} {f : FmD} {r : EvD × Nat × VMD}, At K m i t f → Room K 0 t → roundsP n fu m i = some r → ∃ K', VOk K' r.1.w := by
  intro n
  induction n with
  | zero => intro fu K m i t f r _ _ h; cases h
  | succ n ih =>
    intro fu K m i t f r h room hr
    unfold roundsP at hr
    rcases round_ok h room fu with ⟨fu', m', K', t', f', e1, _, A', rm', _⟩ | ⟨ev, fu', m', e1, _⟩
    · rw [e1] at hr
      exact ih A' rm' hr
    · have hw := roundP_w h fu _ e1
      rw [e1] at hr
      cases hr
      exact ⟨K, hw⟩
/-- what an Exec that is allowed comes to -/
structure ExF (σ : St) (i : Int) (ev : EvD) (σ' : St) : Prop where
  d : DI σ'
  f : σ'.f ≤ σ.f
  o : Ln σ.m.out σ'.m.out
  k1 : 1 ≤ ev.k
  k5 : ev.k ≤ 5
  i0 : 0 ≤ i
  v : ∃ K, VOk K ev.v
  w : ∃ K, VOk K ev.w
  t5 : ev.k = 5 → σ'.e = ev.e ∧ σ'.m.ths = [] ∧ (ev.e = 8 ∨ ev.e = 9 ∨ ev.e = 10 ∨ ev.e = 11) ∧ 1 ≤ σ'.m.tabs.length
  t4 : ev.k ≠ 5 → σ'.e = 0 ∧ ∃ t', σ'.m.ths[i.toNat]? = some t' ∧ (ev.k = 1 ∨ ev.k = 2 → t'.st = 5) ∧ (ev.k = 3 → t'.st = 2 ∧ i ≠ 0) ∧ (ev.k = 4 → t'.st = 3 ∧ 1 ≤ ev.th ∧ ev.th ≠ i.toNat ∧ ∃ u, σ'.m.ths[ev.th]? = some u ∧ (u.st = 1 ∨ u.st = 2))
  z : σ.f = 0 → σ'.m.out = σ.m.out ∧ ev.k ≠ 3 ∧ ev.k ≠ 4 ∧ (ev.k = 2 → Msg ev.v)
theorem after_5 {r : EvD × Nat × VMD} (h : r.1.k = 5) : after r = ⟨wipeD r.2.2, r.2.1, r.1.e⟩ := if_pos h
theorem after_4 {r : EvD × Nat × VMD} (h : r.1.k ≠ 5) : after r = ⟨r.2.2, r.2.1, 0⟩ := if_neg h
theorem Okay.th {σ : St} {i : Int} {a b : Vl} (O : Okay σ i a b) : σ.m.ths[i.toNat]? = some (σ.m.th i.toNat) := by
  have h := O.il
  simp [VMD.th, h]
theorem exec_run {σ : St} (D : DI σ) {i : Int} {a b : Vl} (ha : a.n < 18446744073709551616) (hb : b.n < 18446744073709551616) (O : Okay σ i a b) :
    ∃ n r, roundsP n σ.f (startP σ.m i.toNat a b) i.toNat = some r ∧ ExF σ i r.1 (after r) := by
  obtain ⟨⟨K, S⟩, T0⟩ := D.live O.e
  have hi := O.th
  have il := O.il
  have va := VOk.of_valid S.vi ha O.va
  have vb := VOk.of_valid S.vi hb O.vb
  obtain ⟨t1, f1, A, rm, R1⟩ := start_ok S hi O.st va vb
  obtain ⟨k, ev, fu1, m1, e1, hle, ⟨K1, t2, l1, V1, U1, R2, hi2, hs2, hk1, hk2, hok, h4, h5⟩, hlt4⟩ := rounds_ok σ.f _ A rm rfl
  have R : Rest σ.m m1 i.toNat := R1.trans il R2
  have hln := roundsP_ln _ e1
  rw [startP_out] at hln
  dsimp only at hln
  have others : ∀ (j : Nat) (u : ThD), j ≠ i.toNat → m1.ths[j]? = some u → u.st ≠ 4 ∧ Room K1 2 u := by
    intro j u hj hu
    by_cases hjl : j < σ.m.ths.length
    · have hu0 := List.getElem?_eq_getElem hjl
      obtain ⟨u', b1, b2, b3, b4⟩ := R.old j _ hj hu0
      rw [hu] at b1
      cases b1
      obtain ⟨c1, c2⟩ := S.sl j _ hu0
      exact ⟨by rw [b2]; exact c1, c2.le l1 (S.vi.clos hu0) b3 b4⟩
    · have h1 := R.new j u (by omega) hu
      exact ⟨by omega, room_nil ((V1.th j u hu).al.2 (.inl h1))⟩
  have oln : m1.out = [] ∨ m1.out.getLast? = some 10 := by
    rcases hln.2 with e | e
    · rw [e]; exact D.ln
    · exact .inr e
  have hz : σ.f = 0 → m1.out = σ.m.out ∧ ev.k ≠ 3 ∧ ev.k ≠ 4 ∧ (ev.k = 2 → Msg ev.v) := by
    intro h0
    have e1' := e1
    rw [h0] at e1'
    have q1 := roundsP_still _ e1'
    have q2 := roundsP_q _ e1'
    rw [startP_out] at q1
    exact ⟨q1.1, q2.1, q1.2, q2.2⟩
  refine ⟨k, _, e1, ?_⟩
  by_cases hk : ev.k = 5
  · rw [after_5 hk]
    have h5' := h5 hk
    have nt : 1 ≤ m1.tabs.length := by rw [V1.kt]; exact V1.t1
    refine ⟨⟨fun e => ?_, fun _ => ⟨⟨rfl, rfl, rfl, rfl, rfl, rfl, rfl, rfl⟩, by dsimp only; omega, fun _ => nt⟩, by have := D.fu; dsimp only; omega, V1.ol, oln, fun t ht => ⟨(V1.tb t ht).1, V1.tk t ht⟩, by have := V1.tn; have := V1.kt; dsimp only [wipeD]; omega, ⟨K1, fun t ht => (V1.tb t ht).2⟩⟩, hle, hln, hk1, hk2, O.i0, ?_, rounds_w _ A rm e1, fun _ => ⟨rfl, rfl, h5', nt⟩, fun x => absurd hk x, hz⟩
    · dsimp only at e; omega
    · have := rounds_t _ e1 hk
      rw [this]
      exact ⟨K1, VOk.nil K1⟩
  · rw [after_4 hk]
    obtain ⟨o1, o2, o3, o4, o5⟩ := hok hk
    have slp : Slp K1 m1 := ⟨V1, U1, fun j u hu => by
      by_cases hj : j = i.toNat
      · subst hj
        rw [hi2] at hu
        cases hu
        exact ⟨o2, o3⟩
      · exact others j u hj hu⟩
    have h4s : ev.k = 4 → t2.st = 3 := fun e4 => (h4 e4).1
    have th0 : Th0 m1 := by
      clear h4
      intro t ht
      by_cases hj : 0 = i.toNat
      · rw [← hj] at hi2
        rw [hi2] at ht
        cases ht
        refine ⟨fun e2 => ?_, fun e1 => absurd e1 hs2⟩
        have hi0 := O.i0
        have : ev.k = 3 → False := fun e3 => (o5 e3).2 (by omega)
        have : ev.k = 1 ∨ ev.k = 2 ∨ ev.k = 4 := by omega
        rcases this with e | e | e
        · have := o4 (.inl e); omega
        · have := o4 (.inr e); omega
        · have := h4s e; omega
      · have hl0 : 0 < σ.m.ths.length := by omega
        have hu0 := List.getElem?_eq_getElem hl0
        obtain ⟨u', b1, b2, b3, b4⟩ := R.old 0 _ hj hu0
        rw [ht] at b1
        cases b1
        have := T0 _ hu0
        rw [b2]
        exact ⟨this.1, fun e => by have := this.2 e; omega⟩
    refine ⟨⟨fun _ => ⟨⟨K1, slp⟩, th0⟩, fun e => absurd rfl e, by have := D.fu; dsimp only; omega, V1.ol, oln, fun t ht => ⟨(V1.tb t ht).1, V1.tk t ht⟩, by have := V1.tn; have := V1.kt; dsimp only; omega, ⟨K1, fun t ht => (V1.tb t ht).2⟩⟩, hle, hln, hk1, hk2, O.i0, ⟨K1, o1⟩, rounds_w _ A rm e1, fun e => absurd e hk, fun _ => ⟨rfl, t2, hi2, o4, fun e => ⟨(o5 e).1, fun x => (o5 e).2 (by rw [x]; rfl)⟩, fun e4 => ?_⟩, hz⟩
    obtain ⟨s3, hne, u, hu, hus⟩ := h4 e4
    clear h4
    refine ⟨s3, ?_, hne, u, hu, hus⟩
    by_cases h0 : ev.th = 0
    · rw [h0] at hu hne
      have q := th0 u hu
      have hl : i.toNat < m1.ths.length := (List.getElem?_eq_some_iff.1 hi2).1
      rcases hus with e | e
      · have := q.2 e; omega
      · exact absurd e q.1
    · show 1 ≤ ev.th
      omega
theorem exec_ex {σ : St} (D : DI σ) (i : Int) {a b : Vl} (ha : a.n < 18446744073709551616) (hb : b.n < 18446744073709551616) : ∃ ev σ', ExecR σ i a b ev σ' := by
  by_cases O : Okay σ i a b
  · obtain ⟨n, r, h1, h2⟩ := exec_run D ha hb O
    exact ⟨r.1, after r, .inr ⟨O, n, r, h1, rfl, rfl⟩⟩
  · exact ⟨evBad, σ, .inl ⟨O, rfl, rfl⟩⟩
theorem exec_law {σ σ' : St} (D : DI σ) {i : Int} {a b : Vl} (ha : a.n < 18446744073709551616) (hb : b.n < 18446744073709551616) {ev : EvD} (h : ExecR σ i a b ev σ') : (ev = evBad ∧ σ' = σ) ∨ (ev.k ≠ 6 ∧ ExF σ i ev σ') := by
  rcases h with ⟨_, h2, h3⟩ | ⟨O, n, r, h2, h3, h4⟩
  · exact .inl ⟨h2, h3⟩
  · obtain ⟨n2, r2, g1, g2⟩ := exec_run D ha hb O
    have := roundsP_det h2 g1
    subst this
    subst h3 h4
    exact .inr ⟨by have := g2.k5; omega, g2⟩
end Go.Proofs.Qxb6500574aGreatDoor
