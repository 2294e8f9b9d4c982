/-
  moon: THE INTERPRETER's STATE AND THE MACHINE's: the relation, and what keeps it. Plain; no memory, no walk.
-/
import Derived.Test.Qxb6500574aGreatDoorZM7
namespace Go.Proofs.Qxb6500574aGreatDoor
set_option linter.unusedVariables false
set_option linter.unusedSimpArgs false
/-- nodes keep their names and what they hang on -/
structure EGr (E E' : List EnD) : Prop where
  le : E.length ≤ E'.length
  k : ∀ i, i < E.length → (E'.getD i en0).nm = (E.getD i en0).nm ∧ (E'.getD i en0).up = (E.getD i en0).up
theorem EGr.refl (E : List EnD) : EGr E E := ⟨Nat.le_refl _, fun _ _ => ⟨rfl, rfl⟩⟩
theorem EGr.trans {E E1 E2 : List EnD} (h : EGr E E1) (g : EGr E1 E2) : EGr E E2 := ⟨Nat.le_trans h.le g.le, fun i hi => ⟨(g.k i (Nat.lt_of_lt_of_le hi h.le)).1.trans (h.k i hi).1, (g.k i (Nat.lt_of_lt_of_le hi h.le)).2.trans (h.k i hi).2⟩⟩
theorem EGr.app (E F : List EnD) : EGr E (E ++ F) := ⟨by simp, fun i hi => by rw [List.getD_eq_getElem?_getD, List.getElem?_append_left hi, ← List.getD_eq_getElem?_getD]; exact ⟨rfl, rfl⟩⟩
theorem EGr.setV (E : List EnD) (n : Nat) (v : Vl) : EGr E (E.set n { E.getD n en0 with v := v }) := ⟨by simp, fun i hi => by
  by_cases e : n = i
  · subst e
    rw [List.getD_eq_getElem?_getD, List.getElem?_set_self hi]
    exact ⟨rfl, rfl⟩
  · rw [List.getD_eq_getElem?_getD, List.getElem?_set_ne e, ← List.getD_eq_getElem?_getD]
    exact ⟨rfl, rfl⟩⟩
theorem EGr.chn {E E' : List EnD} (h : EGr E E') {l : List Nat} {e : Option Nat} (g : Chn E l e) : Chn E' l e := g.keep h.le fun i hi => (h.k i hi).2
theorem EGr.nms {E E' : List EnD} (h : EGr E E') {l : List Nat} (g : ∀ i ∈ l, i < E.length) : nmN E' l = nmN E l := nmN.keep g fun i hi => (h.k i hi).1
/-- nodes hang on older ones -/
def AcE (E : List EnD) : Prop := ∀ i j, i < E.length → (E.getD i en0).up = some j → j < i
theorem Chn.short {E : List EnD} (A : AcE E) : ∀ {l : List Nat} {e : Option Nat} {b : Nat}, Chn E l e → (∀ j, e = some j → j < b) → l.length ≤ b
  | [], _, _, _, _ => Nat.zero_le _
  | i :: l, e, b, h, hb => by
    have h1 := hb i h.1
    have h2 := Chn.short A (b := i) h.2.2 (fun j hj => A i j h.2.1 hj)
    simp only [List.length_cons]
    omega
theorem AcE.setV {E : List EnD} (A : AcE E) (n : Nat) (v : Vl) : AcE (E.set n { E.getD n en0 with v := v }) := fun i j hi hj => by
  have G := EGr.setV E n v
  have hi' : i < E.length := by simpa using hi
  rw [(G.k i hi').2] at hj
  exact A i j hi' hj
theorem AcE.new {E : List EnD} (A : AcE E) {s : Bs} {v : Vl} {e : Option Nat} (he : ∀ j, e = some j → j < E.length) : AcE (E ++ [⟨s, v, e⟩]) := fun i j hi hj => by
  by_cases h : i < E.length
  · rw [((EGr.app E [⟨s, v, e⟩]).k i h).2] at hj
    exact A i j h hj
  · have : i = E.length := by simp at hi; omega
    subst this
    rw [List.getD_eq_getElem?_getD, List.getElem?_append_right (Nat.le_refl _)] at hj
    simp at hj
    exact he j hj
theorem Chn.head {E : List EnD} {l : List Nat} {e : Option Nat} (h : Chn E l e) : ∀ j, e = some j → j < E.length := fun j hj => by
  cases l with
  | nil => rw [show e = none from h] at hj; cases hj
  | cons i l =>
    rw [h.1] at hj
    cases hj
    exact h.2.1
/-- closure c: its node, the contexts it was made in, its variables -/
structure ClI (N : List Nd) (D : CmD) (m : VMD) (E : List EnD) (MC : List (Nat × Option Nat)) (P : List (Option Lc)) (c n : Nat) (r : En) (lc : List Nat) : Prop where
  lt : c < m.clos.length
  mc : ∃ e, MC[c]? = some (n, e) ∧ Chn E lc e
  cr : ClRZ D m E P c (m.clos.getD c cl0).p r lc
  fn : (n = 0 ∧ (m.clos.getD c cl0).p = 0 ∧ r = []) ∨ (n ≠ 0 ∧ ExSZ N n ∧ (N.getD n nd0).k = 20 ∧ (N.getD n nd0).n = (m.clos.getD c cl0).p ∧ ∃ f L r', r = (f, L) :: r' ∧ FnR N D (Lay N D) f L r' (N.getD n nd0))
/-- closures are kept -/
structure ClM (m m' : VMD) (P P' : List (Option Lc)) : Prop where
  cl : m.clos.length ≤ m'.clos.length
  cg : ∀ c, c < m.clos.length → m'.clos.getD c cl0 = m.clos.getD c cl0
  ul : m.upix.length ≤ m'.upix.length
  ug : ∀ k, k < m.upix.length → m'.upix.getD k 0 = m.upix.getD k 0
  ce : ∀ c n, c < m.cells.length → CeN m P c n → CeN m' P' c n
  ln : m.cells.length ≤ m'.cells.length
theorem ClM.refl (m : VMD) (P : List (Option Lc)) : ClM m m P P := ⟨Nat.le_refl _, fun _ _ => rfl, Nat.le_refl _, fun _ _ => rfl, fun _ _ _ h => h, Nat.le_refl _⟩
theorem ClM.trans {m m1 m2 : VMD} {P P1 P2 : List (Option Lc)} (h : ClM m m1 P P1) (g : ClM m1 m2 P1 P2) : ClM m m2 P P2 :=
  ⟨Nat.le_trans h.cl g.cl, fun c hc => (g.cg c (Nat.lt_of_lt_of_le hc h.cl)).trans (h.cg c hc), Nat.le_trans h.ul g.ul, fun k hk => (g.ug k (Nat.lt_of_lt_of_le hk h.ul)).trans (h.ug k hk), fun c n hc hn => g.ce c n (Nat.lt_of_lt_of_le hc h.ln) (h.ce c n hc hn), Nat.le_trans h.ln g.ln⟩
/-- nothing of closures, upvalues and cells changes -/
theorem ClM.same {m m' : VMD} {P : List (Option Lc)} (h1 : m'.clos = m.clos) (h2 : m'.upix = m.upix) (h3 : m'.cells = m.cells) : ClM m m' P P :=
  ⟨by rw [h1]; exact Nat.le_refl _, fun c hc => by rw [h1], by rw [h2]; exact Nat.le_refl _, fun c hc => by rw [h2], fun c n hc h => h.keep h3, by rw [h3]; exact Nat.le_refl _⟩
theorem ClI.keep {N : List Nd} {D : CmD} {m m' : VMD} {E E' : List EnD} {MC MC' : List (Nat × Option Nat)} {P P' : List (Option Lc)} {c n : Nat} {r : En} {lc : List Nat} (h : ClI N D m E MC P c n r lc) (C : ClM m m' P P') (G : EGr E E') (hM : MC <+: MC') : ClI N D m' E' MC' P' c n r lc := by
  obtain ⟨e, h1, h2⟩ := h.mc
  have hc := C.cg c h.lt
  refine ⟨Nat.lt_of_lt_of_le h.lt C.cl, ⟨e, ?_, G.chn h2⟩, ?_, by rw [hc]; exact h.fn⟩
  · obtain ⟨k, rfl⟩ := hM
    rw [List.getElem?_append_left (List.getElem?_eq_some_iff.1 h1).1]
    exact h1
  · rw [hc]
    have R := h.cr
    refine ⟨by rw [G.nms h2.len]; exact R.nm, by rw [hc]; exact Nat.le_trans R.ux C.ul, fun x hx => ?_⟩
    obtain ⟨z, z1, z2, z3⟩ := R.up x hx
    have hu : m'.upix.getD ((m'.clos.getD c cl0).up + x) 0 = m.upix.getD ((m.clos.getD c cl0).up + x) 0 := by
      rw [hc]
      exact C.ug _ (by have := R.ux; omega)
    rw [hu]
    exact ⟨z, z1, C.ce _ _ z3 z2, Nat.lt_of_lt_of_le z3 C.ln⟩
/-- what a thread's frames are seen against -/
structure Zx where
  N : List Nd
  D : CmD
  m : VMD
  E : List EnD
  MC : List (Nat × Option Nat)
  P : List (Option Lc)
  i : Nat
  stk : List Vl
abbrev Zx.g (Z : Zx) (f : FmD) : Nat := (Z.m.clos.getD f.clo cl0).p
abbrev Zx.ns (Z : Zx) (f : FmD) : Nat := (Z.D.fn (Z.g f)).nslots
structure FrIZ where
  n : Nat
  r : En
  lc : List Nat
  L : List Bs
  lf : List Nat
  seg : List TkD
  rest : List TkD
  low : List Vl
abbrev Zx.X (Z : Zx) (f : FmD) (F : FrIZ) : FX := ⟨Z.N, Z.D, Z.g f, F.r, Z.E, F.lc, F.low.length⟩
/-- a frame without what it is about to do -/
structure FrB (Z : Zx) (f : FmD) (F : FrIZ) (ts : List TkD) (vs : List Vl) (hi : Nat) : Prop where
  ci : ClI Z.N Z.D Z.m Z.E Z.MC Z.P f.clo F.n F.r F.lc
  te : ts = F.seg ++ ⟨3, if f.prot then 1 else 0, F.low.length, none⟩ :: F.rest
  sg : ∀ t ∈ F.seg, t.k ≠ 3
  ret : f.ret ≤ f.base
  le : f.base + Z.ns f ≤ hi
  lv : F.low <+: vs
  pl : ∀ (n q : Nat), Z.P[n]? = some (some (.inl (Z.i, q))) → f.ret ≤ q → q < hi → f.base ≤ q
/-- a frame: its tasks, its values, up to the height hi; aw more operands are awaited -/
structure FrOZ (Z : Zx) (f : FmD) (F : FrIZ) (ts : List TkD) (vs : List Vl) (hi aw : Nat) : Prop extends FrB Z f F ts vs hi where
  cb : Cb (Z.X f F) ts false f.pc (hi - (f.base + Z.ns f) + aw) F.L F.lf
  it : Itm ((Z.stk.take hi).drop (f.base + Z.ns f)) ts (hi - (f.base + Z.ns f) + aw) (hi - (f.base + Z.ns f))
  ns : F.L.length ≤ Z.ns f
  fe : FrE Z.E Z.P Z.i f.base F.L F.lf
  ll : ∀ n ∈ F.lf, n < Z.E.length
  vv : vs = F.low ++ hidV Z.stk f.base F.L ++ (Z.stk.take hi).drop (f.base + Z.ns f)
  pn : ∀ (n q : Nat), Z.P[n]? = some (some (.inl (Z.i, q))) → f.ret ≤ q → q < hi → ∃ j s, F.L[j]? = some s ∧ s ≠ [] ∧ q = f.base + j
/-- frames, the top one first -/
def FrsR (Z : Zx) : List FmD → List TkD → List Vl → Nat → Nat → Prop
  | [], ts, vs, _, _ => ts = [] ∧ vs = []
  | f :: fs, ts, vs, hi, aw => ∃ F, FrOZ Z f F ts vs hi aw ∧ FrsR Z fs F.rest F.low f.ret 2 ∧ (fs = [] → f.prot = false ∧ f.ret = 0)
theorem hidV_app (st : List Vl) : ∀ (L M : List Bs) (b : Nat), hidV st b (L ++ M) = hidV st b L ++ hidV st (b + L.length) M
  | [], M, b => by simp [hidV]
  | s :: L, M, b => by
    have ih := hidV_app st L M (b + 1)
    have e : b + 1 + L.length = b + (s :: L).length := by simp; omega
    rw [e] at ih
    by_cases h : s = []
    · simp only [List.cons_append, hidV, h, if_true, ih]
    · simp only [List.cons_append, hidV, h, if_false, ih]
theorem hidV_congr {st st' : List Vl} : ∀ {L : List Bs} {b : Nat}, (∀ j, L[j]? = some [] → st'.getD (b + j) nilV = st.getD (b + j) nilV) → hidV st' b L = hidV st b L
  | [], b, _ => rfl
  | s :: L, b, h => by
    have ih : hidV st' (b + 1) L = hidV st (b + 1) L := hidV_congr fun j hj => by
      have := h (j + 1) (by simpa using hj)
      have e : b + (j + 1) = b + 1 + j := by omega
      rw [e] at this
      exact this
    by_cases hs : s = []
    · have := h 0 (by simp [hs])
      simp only [hidV, hs, if_true, ih]
      rw [Nat.add_zero] at this
      rw [this]
    · simp only [hidV, hs, if_false, ih]
theorem hidV_len (st : List Vl) : ∀ (L : List Bs) (b : Nat), (hidV st b L).length = hidc L
  | [], _ => rfl
  | s :: L, b => by
    have := hidV_len st L (b + 1)
    by_cases hs : s = []
    · simp [hidV, hidc, hs, this]
    · simp [hidV, hidc, hs, this]
theorem td_congr {st st' : List Vl} {hi b : Nat} (h1 : hi ≤ st.length) (h2 : hi ≤ st'.length) (h : ∀ q, b ≤ q → q < hi → st'.getD q nilV = st.getD q nilV) : (st'.take hi).drop b = (st.take hi).drop b := by
  refine List.ext_getElem (by simp; omega) fun q g1 g2 => ?_
  simp only [List.length_drop, List.length_take] at g1 g2
  have := h (b + q) (by omega) (by omega)
  rw [List.getD_eq_getElem?_getD, List.getD_eq_getElem?_getD, List.getElem?_eq_getElem (by omega), List.getElem?_eq_getElem (by omega)] at this
  simpa using this
/-- what is kept below the height hi of thread i -/
structure KpR (Z Z' : Zx) (hi : Nat) : Prop where
  n : Z'.N = Z.N
  d : Z'.D = Z.D
  i : Z'.i = Z.i
  cm : ClM Z.m Z'.m Z.P Z'.P
  eg : EGr Z.E Z'.E
  mc : Z.MC <+: Z'.MC
  l1 : hi ≤ Z.stk.length
  l2 : hi ≤ Z'.stk.length
  st : ∀ q, q < hi → (∀ n : Nat, Z.P[n]? ≠ some (some (.inl (Z.i, q)))) → Z'.stk.getD q nilV = Z.stk.getD q nilV
  pl : ∀ q, q < hi → ∀ n : Nat, Z'.P[n]? = some (some (.inl (Z.i, q))) ↔ Z.P[n]? = some (some (.inl (Z.i, q)))
theorem KpR.mono {Z Z' : Zx} {hi hi' : Nat} (h : KpR Z Z' hi) (le : hi' ≤ hi) : KpR Z Z' hi' :=
  ⟨h.n, h.d, h.i, h.cm, h.eg, h.mc, Nat.le_trans le h.l1, Nat.le_trans le h.l2, fun q hq => h.st q (by omega), fun q hq => h.pl q (by omega)⟩
theorem FrB.keep {Z Z' : Zx} {f : FmD} {F : FrIZ} {ts : List TkD} {vs : List Vl} {hi : Nat} (h : FrB Z f F ts vs hi) (K : KpR Z Z' hi) : FrB Z' f F ts vs hi := by
  have hg : Z'.g f = Z.g f := by show (Z'.m.clos.getD f.clo cl0).p = _; rw [K.cm.cg _ h.ci.lt]
  have hn : Z'.ns f = Z.ns f := by show (Z'.D.fn (Z'.g f)).nslots = _; rw [hg, K.d]
  refine ⟨by rw [K.n, K.d]; exact h.ci.keep K.cm K.eg K.mc, h.te, h.sg, h.ret, by rw [hn]; exact h.le, h.lv, fun n q g1 g2 g3 => ?_⟩
  rw [K.i] at g1
  exact h.pl n q ((K.pl q g3 n).1 g1) g2 g3
theorem FrOZ.keep {Z Z' : Zx} {f : FmD} {F : FrIZ} {ts : List TkD} {vs : List Vl} {hi aw : Nat} (h : FrOZ Z f F ts vs hi aw) (K : KpR Z Z' hi) : FrOZ Z' f F ts vs hi aw := by
  have hg : Z'.g f = Z.g f := by show (Z'.m.clos.getD f.clo cl0).p = _; rw [K.cm.cg _ h.ci.lt]
  have hn : Z'.ns f = Z.ns f := by show (Z'.D.fn (Z'.g f)).nslots = _; rw [hg, K.d]
  have hle := h.le
  have hL := h.ns
  have hops : (Z'.stk.take hi).drop (f.base + Z.ns f) = (Z.stk.take hi).drop (f.base + Z.ns f) := by
    refine td_congr K.l1 K.l2 fun q q1 q2 => K.st q q2 fun n hp => ?_
    obtain ⟨k, s, k1, k2, k3⟩ := h.pn n _ hp (by have := h.ret; omega) q2
    have := (List.getElem?_eq_some_iff.1 k1).1
    omega
  refine ⟨h.toFrB.keep K, ?_, by rw [hn, hops]; exact h.it, by rw [hn]; exact h.ns, ⟨?_, fun j s hj hs => ?_⟩, fun n hn => Nat.lt_of_lt_of_le (h.ll n hn) K.eg.le, ?_, fun n q g1 g2 g3 => ?_⟩
  · rw [hn]
    show Cb ⟨Z'.N, Z'.D, Z'.g f, F.r, Z'.E, F.lc, F.low.length⟩ _ _ _ _ _ _
    rw [hg, K.n, K.d]
    exact Cb.mono (fun l e g => K.eg.chn g) h.cb
  · rw [K.eg.nms h.ll]; exact h.fe.nm
  · obtain ⟨n, n1, n2⟩ := h.fe.at_ j s hj hs
    have := (List.getElem?_eq_some_iff.1 hj).1
    refine ⟨n, n1, ?_⟩
    rw [K.i]
    exact (K.pl _ (by omega) n).2 n2
  · rw [h.vv, hn]
    congr 1
    · congr 1
      refine (hidV_congr fun j hj => ?_).symm
      have hl := (List.getElem?_eq_some_iff.1 hj).1
      refine K.st _ (by omega) fun n hp => ?_
      obtain ⟨k, s, k1, k2, k3⟩ := h.pn n _ hp (by have := h.ret; omega) (by omega)
      have : k = j := by omega
      subst this
      rw [hj] at k1
      exact k2 (Option.some.inj k1).symm
    · exact hops.symm
  · rw [K.i] at g1
    exact h.pn n q ((K.pl q g3 n).1 g1) g2 g3
theorem FrsR.keep {Z Z' : Zx} : ∀ {fs : List FmD} {ts : List TkD} {vs : List Vl} {hi aw : Nat}, FrsR Z fs ts vs hi aw → KpR Z Z' hi → FrsR Z' fs ts vs hi aw
  | [], _, _, _, _, h, _ => h
  | f :: fs, ts, vs, hi, aw, ⟨F, h, g, b⟩, K => ⟨F, h.keep K, FrsR.keep g (K.mono (by have := h.ret; have := h.le; omega)), b⟩
/-- two results come -/
theorem FrOZ.more {Z : Zx} {f : FmD} {F : FrIZ} {ts : List TkD} {vs : List Vl} {hi : Nat} (h : FrOZ Z f F ts vs hi 2) {A : List Vl} {a b : Vl} (hs : Z.stk = A ++ [a, b]) (hA : A.length = hi) (hp : ∀ n q : Nat, Z.P[n]? = some (some (.inl (Z.i, q))) → q < hi) : FrOZ Z f F ts (vs ++ [a, b]) (hi + 2) 0 := by
  have hle := h.le
  refine ⟨⟨h.ci, h.te, h.sg, h.ret, by omega, h.lv.trans (List.prefix_append _ _), fun n q h1 h2 h3 => h.pl n q h1 h2 (hp n q h1)⟩, ?_, ?_, h.ns, h.fe, h.ll, ?_, fun n q h1 h2 h3 => h.pn n q h1 h2 (hp n q h1)⟩
  · have e : hi + 2 - (f.base + Z.ns f) + 0 = hi - (f.base + Z.ns f) + 2 := by omega
    rw [e]
    exact h.cb
  · have e : hi + 2 - (f.base + Z.ns f) + 0 = hi - (f.base + Z.ns f) + 2 := by omega
    rw [e]
    refine h.it.mono (by omega) fun q hq => ?_
    have e2 : (A ++ [a, b]).take (hi + 2) = A ++ [a, b] := List.take_of_length_le (by simp; omega)
    rw [hs, e2, List.take_append_of_le_length (by omega), ← hA, List.take_length, List.drop_append_of_le_length (by omega), List.getD_eq_getElem?_getD, List.getElem?_append_left (by simp; omega), ← List.getD_eq_getElem?_getD]
  · rw [h.vv, hs, List.take_append_of_le_length (by omega), List.append_assoc]
    congr 1
    have e : (A ++ [a, b]).take (hi + 2) = A ++ [a, b] := List.take_of_length_le (by simp; omega)
    rw [e, List.drop_append_of_le_length (by omega), ← hA, List.take_length]
/-- a thread -/
structure ThR (Z : Zx) (t : ThD) (T : MTh) : Prop where
  st : T.st = t.st
  fn : T.fn = t.fn
  dp : T.depth = t.frames.length
  fr : FrsR Z t.frames.reverse T.tasks T.vals t.stack.length (if t.st = 4 then 0 else 2)
/-- a thread that sleeps while another goes on -/
theorem ThR.keep {Z Z' : Zx} {t t' : ThD} {T : MTh} (h : ThR Z t T) (K : KpR Z Z' t.stack.length) (h1 : t'.st = t.st) (h2 : t'.fn = t.fn) (h3 : t'.frames = t.frames) (h4 : t'.stack.length = t.stack.length) : ThR Z' t' T :=
  ⟨by rw [h1]; exact h.st, by rw [h2]; exact h.fn, by rw [h3]; exact h.dp, by rw [h1, h3, h4]; exact h.fr.keep K⟩
/-- what does not hang on threads: text of the program -/
structure TxtZ (N : List Nd) (root : Nat) (D : CmD) (m : VMD) : Prop where
  fx : ∀ p, p < m.protos.length → fxOf m p = fxD D p ∧ (m.protos.getD p pr0).np = (D.fn p).np
  np : m.protos.length = D.np
  z0 : (N.getD 0 nd0).k = 0
  za : (N.getD 0 nd0).a = 0
  main : ∃ l s1, Chain N root l ∧ (∀ x ∈ l, StS N x false) ∧ Lay N D 3 [(0, [])] root 0 s1 [] 0 0 ∧ (D.fn 0).code = s1 ++ [(2, 0), (2, 0), (27, 0)] ∧ (D.fn 0).np = 0 ∧ (D.fn 0).ups = []
theorem TxtZ.keep {N : List Nd} {root : Nat} {D : CmD} {m m' : VMD} (h : TxtZ N root D m) (t : TxtT m m') : TxtZ N root D m' :=
  ⟨fun p hp => by rw [t.fx, t.pr]; exact h.fx p (by rw [← t.pr]; exact hp), by rw [t.pr]; exact h.np, h.z0, h.za, h.main⟩
/-- THE RELATION, but for thread i -/
structure RelW (N : List Nd) (root : Nat) (D : CmD) (m : VMD) (fu s : Nat) (M : MD) (P : List (Option Lc)) (i : Nat) : Prop where
  fuel : M.fuel = fu
  first : M.first = s
  out : M.out = m.out
  tabs : M.tabs = m.tabs
  done : M.done = none
  tx : TxtZ N root D m
  tl : M.ths.length = m.ths.length
  vr : VrR m M.envs P
  ac : AcE M.envs
  cl : M.clos.length = m.clos.length
  ci : ∀ c, c < m.clos.length → ∃ n r lc, ClI N D m M.envs M.clos P c n r lc
  nd : (M.cur :: M.stack).Nodup
  la : (M.cur :: M.stack).getLast? = some 0
  wt : ∀ c ∈ M.stack, (m.th c).st = 3 ∧ c < m.ths.length
  th : ∀ j t, j ≠ i → m.ths[j]? = some t → ∃ T, M.ths[j]? = some T ∧ ThR ⟨N, D, m, M.envs, M.clos, P, j, t.stack⟩ t T
/-- THE RELATION -/
structure Rel (N : List Nd) (root : Nat) (D : CmD) (m : VMD) (fu s : Nat) (M : MD) (P : List (Option Lc)) : Prop where
  w : ∀ i, RelW N root D m fu s M P i
theorem Rel.th {N : List Nd} {root : Nat} {D : CmD} {m : VMD} {fu s : Nat} {M : MD} {P : List (Option Lc)} (h : Rel N root D m fu s M P) (j : Nat) (t : ThD) (hj : m.ths[j]? = some t) : ∃ T, M.ths[j]? = some T ∧ ThR ⟨N, D, m, M.envs, M.clos, P, j, t.stack⟩ t T := (h.w (j + 1)).th j t (by omega) hj
theorem RelW.rel {N : List Nd} {root : Nat} {D : CmD} {m : VMD} {fu s : Nat} {M : MD} {P : List (Option Lc)} {i : Nat} (h : RelW N root D m fu s M P i) {t : ThD} {T : MTh} (hi : m.ths[i]? = some t) (hT : M.ths[i]? = some T) (g : ThR ⟨N, D, m, M.envs, M.clos, P, i, t.stack⟩ t T) : Rel N root D m fu s M P :=
  ⟨fun k => ⟨h.fuel, h.first, h.out, h.tabs, h.done, h.tx, h.tl, h.vr, h.ac, h.cl, h.ci, h.nd, h.la, h.wt, fun j u _ hu => by
    by_cases e : j = i
    · subst e
      rw [hi] at hu
      cases hu
      exact ⟨T, hT, g⟩
    · exact h.th j u e hu⟩⟩
/-- how a state moves, thread i apart -/
structure MvW (N : List Nd) (D : CmD) (m m' : VMD) (M M' : MD) (P P' : List (Option Lc)) (i : Nat) : Prop where
  out : M'.out = m'.out
  tabs : M'.tabs = m'.tabs
  done : M'.done = none
  cur : M'.cur = M.cur
  sk : M'.stack = M.stack
  tx : TxtT m m'
  tl : ∃ T', M'.ths = M.ths.set i T'
  ml : m'.ths.length = m.ths.length
  ot : ∀ j u, j ≠ i → m'.ths[j]? = some u → ∃ u0, m.ths[j]? = some u0 ∧ u.st = u0.st ∧ u.fn = u0.fn ∧ u.frames = u0.frames ∧ u.stack.length = u0.stack.length ∧ ∀ q, (∀ n : Nat, P[n]? ≠ some (some (.inl (j, q)))) → u.stack.getD q nilV = u0.stack.getD q nilV
  cm : ClM m m' P P'
  eg : EGr M.envs M'.envs
  mc : M.clos <+: M'.clos
  cl : M'.clos.length = m'.clos.length
  cn : ∀ c, m.clos.length ≤ c → c < m'.clos.length → ∃ n r lc, ClI N D m' M'.envs M'.clos P' c n r lc
  vr : VrR m' M'.envs P'
  ac : AcE M'.envs
  pl : ∀ (j q n : Nat), j ≠ i → (P'[n]? = some (some (.inl (j, q))) ↔ P[n]? = some (some (.inl (j, q))))
theorem RelW.move {N : List Nd} {root : Nat} {D : CmD} {m m' : VMD} {fu s fu' s' : Nat} {M M' : MD} {P P' : List (Option Lc)} {i : Nat} (R : RelW N root D m fu s M P i) (hc : M.cur = i) (V : MvW N D m m' M M' P P' i) (e1 : M'.fuel = fu') (e2 : M'.first = s') : RelW N root D m' fu' s' M' P' i := by
  obtain ⟨T', tl⟩ := V.tl
  refine ⟨e1, e2, V.out, V.tabs, V.done, R.tx.keep V.tx, by rw [tl, V.ml, List.length_set]; exact R.tl, V.vr, V.ac, V.cl, fun c hc => ?_, by rw [V.cur, V.sk]; exact R.nd, by rw [V.cur, V.sk]; exact R.la, fun c hcs => ?_, fun j u hj hu => ?_⟩
  · by_cases hl : c < m.clos.length
    · obtain ⟨n, r, lc, z⟩ := R.ci c hl
      exact ⟨n, r, lc, z.keep V.cm V.eg V.mc⟩
    · exact V.cn c (by omega) hc
  · rw [V.sk] at hcs
    obtain ⟨w1, w2⟩ := R.wt c hcs
    have hci : c ≠ i := by
      intro e
      have := R.nd
      rw [hc, ← e] at this
      exact (List.nodup_cons.1 this).1 hcs
    obtain ⟨u0, z1, z2, _⟩ := V.ot c _ hci (List.getElem?_eq_getElem (by rw [V.ml]; exact w2))
    refine ⟨?_, by rw [V.ml]; exact w2⟩
    rw [th_get (List.getElem?_eq_getElem (by rw [V.ml]; exact w2)), z2]
    rw [th_get z1] at w1
    exact w1
  · obtain ⟨u0, z1, z2, z3, z4, z5, z6⟩ := V.ot j u hj hu
    obtain ⟨T0, z7, z8⟩ := R.th j u0 hj z1
    exact ⟨T0, by rw [tl, List.getElem?_set_ne (fun e => hj e.symm)]; exact z7, z8.keep ⟨rfl, rfl, rfl, V.cm, V.eg, V.mc, Nat.le_refl _, Nat.le_of_eq z5.symm, fun q _ hq => z6 q hq, fun q _ n => V.pl j q n hj⟩ z2 z3 z4 z5⟩
end Go.Proofs.Qxb6500574aGreatDoor
