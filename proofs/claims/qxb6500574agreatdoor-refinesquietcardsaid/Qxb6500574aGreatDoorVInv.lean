/-
  moon: WHAT THE MACHINE KEEPS TO between two instructions. Plain; no memory, no walk.
-/
import Derived.Test.Qxb6500574aGreatDoorVLawC
namespace Go.Proofs.Qxb6500574aGreatDoor
set_option linter.unusedVariables false
set_option linter.unusedSimpArgs false

/-- how many tables, closures, threads there are; how many slots and instructions a closure has -/
structure Cx where
  nt : Nat
  nc : Nat
  nh : Nat
  ns : Nat → Nat
  cd : Nat → Nat
structure VOk (K : Cx) (v : Vl) : Prop where
  w : wellV v = true
  b : v.n < 18446744073709551616
  n : v.t = 2 → isNan v.n = true → v.n = nanB
  t : v.t = 4 → v.n < K.nt
  c : v.t = 5 → v.n < K.nc
  h : v.t = 7 → v.n < K.nh
structure Cx.le (K K' : Cx) : Prop where
  t : K.nt ≤ K'.nt
  c : K.nc ≤ K'.nc
  h : K.nh ≤ K'.nh
  n : ∀ c, c < K.nc → K'.ns c = K.ns c
  d : ∀ c, c < K.nc → K'.cd c = K.cd c
theorem Cx.le.refl (K : Cx) : K.le K := ⟨Nat.le_refl _, Nat.le_refl _, Nat.le_refl _, fun _ _ => rfl, fun _ _ => rfl⟩
theorem Cx.le.trans {K K1 K2 : Cx} (h : K.le K1) (g : K1.le K2) : K.le K2 := ⟨Nat.le_trans h.t g.t, Nat.le_trans h.c g.c, Nat.le_trans h.h g.h, fun c hc => (g.n c (Nat.lt_of_lt_of_le hc h.c)).trans (h.n c hc), fun c hc => (g.d c (Nat.lt_of_lt_of_le hc h.c)).trans (h.d c hc)⟩
theorem VOk.le {K K' : Cx} {v : Vl} (h : VOk K v) (l : K.le K') : VOk K' v :=
  ⟨h.w, h.b, h.n, fun x => Nat.lt_of_lt_of_le (h.t x) l.t, fun x => Nat.lt_of_lt_of_le (h.c x) l.c, fun x => Nat.lt_of_lt_of_le (h.h x) l.h⟩
theorem VOk.nil (K : Cx) : VOk K nilV := ⟨rfl, by decide, (fun h => by simp [nilV, boolV, numV, strV] at h), (fun h => by simp [nilV, boolV, numV, strV] at h), (fun h => by simp [nilV, boolV, numV, strV] at h), (fun h => by simp [nilV, boolV, numV, strV] at h)⟩
theorem VOk.bool (K : Cx) (b : Bool) : VOk K (boolV b) := by
  cases b <;> exact ⟨rfl, by decide, (fun h => by simp [nilV, boolV, numV, strV] at h), (fun h => by simp [nilV, boolV, numV, strV] at h), (fun h => by simp [nilV, boolV, numV, strV] at h), (fun h => by simp [nilV, boolV, numV, strV] at h)⟩
theorem VOk.num (K : Cx) {n : Nat} (h : n < 18446744073709551616) (hn : isNan n = true → n = nanB) : VOk K (numV n) :=
  ⟨rfl, h, fun _ => hn, (fun h => by simp [nilV, boolV, numV, strV] at h), (fun h => by simp [nilV, boolV, numV, strV] at h), (fun h => by simp [nilV, boolV, numV, strV] at h)⟩
theorem VOk.str (K : Cx) {s : Bs} (h : s.length ≤ 40) : VOk K (strV s) :=
  ⟨by simp [wellV, strV, h], by simp [strV], (fun h => by simp [nilV, boolV, numV, strV] at h), (fun h => by simp [nilV, boolV, numV, strV] at h), (fun h => by simp [nilV, boolV, numV, strV] at h), (fun h => by simp [nilV, boolV, numV, strV] at h)⟩
theorem VOk.valid {K : Cx} {v : Vl} (h : VOk K v) {m : VMD} (ht : m.tabs.length = K.nt) (hc : m.clos.length = K.nc) (hh : m.ths.length = K.nh) : validV m v = true := by
  unfold validV
  rw [h.w]
  simp only [Bool.not_true, Bool.false_eq_true, if_false]
  split
  · rename_i h2
    cases hn : isNan v.n
    · rfl
    · simp [h.n h2 hn]
  · split
    · rename_i h4; simpa [ht] using h.t h4
    · split
      · rename_i h5; simpa [hc] using h.c h5
      · split
        · rename_i h7; simpa [hh] using h.h h7
        · rfl
theorem VOk.well {K : Cx} {v : Vl} (h : VOk K v) : 0 ≤ v.t ∧ v.t ≤ 7 ∧ v.s.length ≤ 40 := by
  have hw := h.w
  unfold wellV at hw
  split at hw
  · simp at hw; omega
  · split at hw
    · cases hw
    · rename_i h3
      have hs : v.s = [] := Decidable.byContradiction fun e => h3 (.inl e)
      have h0 : ¬ v.t < 0 := fun e => h3 (.inr (.inl e))
      have h7 : ¬ v.t > 7 := fun e => h3 (.inr (.inr e))
      rw [hs]
      simp
      omega
theorem VOk.oneV {K : Cx} {v : Vl} (h : VOk K v) : VOk K (oneV v).1 := by
  have e : (Go.Proofs.Qxb6500574aGreatDoor.oneV v).1 = v ∨ ((Go.Proofs.Qxb6500574aGreatDoor.oneV v).1 = ⟨2, 0, v.s⟩ ∧ v.t = 2) := by
    unfold Go.Proofs.Qxb6500574aGreatDoor.oneV
    split
    · exact .inl rfl
    · rename_i h2
      have h2' : v.t = 2 := Decidable.not_not.1 h2
      split
      · exact .inl rfl
      · split
        · exact .inr ⟨rfl, h2'⟩
        · exact .inl rfl
  rcases e with e | ⟨e, h2⟩
  · rw [e]; exact h
  · have hs : v.s = [] := by
      have hw := h.w
      unfold wellV at hw
      rw [if_neg (by omega)] at hw
      split at hw
      · cases hw
      · rename_i h3
        exact Decidable.byContradiction fun e => h3 (.inl e)
    rw [e, hs]
    exact ⟨rfl, by decide, fun _ x => by revert x; decide, (fun h => by simp [nilV, boolV, numV, strV] at h), (fun h => by simp [nilV, boolV, numV, strV] at h), (fun h => by simp [nilV, boolV, numV, strV] at h)⟩

/-! ### frames -/
structure FrsOk (K : Cx) (fs : List FmD) (L : Nat) : Prop where
  len : fs.length ≤ 8
  each : ∀ j f, fs[j]? = some f → f.clo < K.nc ∧ f.ret ≤ f.base ∧ f.base ≤ 140 * j
  pcs : ∀ (j : Nat) (f : FmD), fs[j]? = some f → f.pc ≤ K.cd f.clo
  p0 : ∀ f : FmD, fs[0]? = some f → f.prot = false
  gap : ∀ (j : Nat) (f g : FmD), fs[j]? = some f → fs[j + 1]? = some g → g.ret + 1 ≤ g.base ∧ g.base ≤ g.ret + 4 ∧ g.base ≤ f.base + K.ns f.clo + 128
  mid : ∀ j f g, fs[j]? = some f → fs[j + 1]? = some g → f.base + K.ns f.clo ≤ g.ret ∧ g.ret + 2 ≤ f.base + K.ns f.clo + 128
  top : ∀ f, fs[fs.length - 1]? = some f → f.base + K.ns f.clo ≤ L
theorem FrsOk.nil (K : Cx) : FrsOk K [] 0 := ⟨by simp, by simp, by simp, by simp, by simp, by simp, by simp⟩
theorem FrsOk.le {K K' : Cx} {fs : List FmD} {L : Nat} (h : FrsOk K fs L) (l : K.le K') : FrsOk K' fs L :=
  ⟨h.len, fun j f hj => ⟨Nat.lt_of_lt_of_le (h.each j f hj).1 l.c, (h.each j f hj).2⟩, fun j f hj => by rw [l.d _ (h.each j f hj).1]; exact h.pcs j f hj, h.p0, fun j f g hj hg => by rw [l.n _ (h.each j f hj).1]; exact h.gap j f g hj hg, fun j f g hj hg => by rw [l.n _ (h.each j f hj).1]; exact h.mid j f g hj hg, fun f hf => by rw [l.n _ (h.each _ f hf).1]; exact h.top f hf⟩
theorem FrsOk.lenTo {K : Cx} {fs : List FmD} {L L' : Nat} (h : FrsOk K fs L) (t : ∀ f, fs[fs.length - 1]? = some f → f.base + K.ns f.clo ≤ L') : FrsOk K fs L' := ⟨h.len, h.each, h.pcs, h.p0, h.gap, h.mid, t⟩
theorem FrsOk.more {K : Cx} {fs : List FmD} {L L' : Nat} (h : FrsOk K fs L) (l : L ≤ L') : FrsOk K fs L' := h.lenTo fun f hf => Nat.le_trans (h.top f hf) l
/-- a frame goes on top -/
theorem FrsOk.snoc {K : Cx} {fs : List FmD} {L L' : Nat} (h : FrsOk K fs L) (h8 : fs.length < 8) (f : FmD) (hc : f.clo < K.nc) (hr : f.ret ≤ f.base) (h0 : fs = [] → f.base = 0 ∧ f.prot = false) (hpc : f.pc ≤ K.cd f.clo)
    (hg : ∀ g, fs[fs.length - 1]? = some g → g.base + K.ns g.clo ≤ f.ret ∧ f.ret + 2 ≤ g.base + K.ns g.clo + 128 ∧ f.base ≤ g.base + K.ns g.clo + 128 ∧ f.ret + 1 ≤ f.base ∧ f.base ≤ f.ret + 4) (hn : ∀ c, c < K.nc → K.ns c ≤ 12) (hl : f.base + K.ns f.clo ≤ L') : FrsOk K (fs ++ [f]) L' := by
  have at' : ∀ j g, (fs ++ [f])[j]? = some g → (fs[j]? = some g ∧ j < fs.length) ∨ (j = fs.length ∧ g = f) := by
    intro j g hj
    by_cases hlt : j < fs.length
    · rw [List.getElem?_append_left hlt] at hj
      exact .inl ⟨hj, hlt⟩
    · rw [List.getElem?_append_right (by omega)] at hj
      have : j - fs.length = 0 := by
        have := (List.getElem?_eq_some_iff.1 hj).1
        simpa using this
      rw [this] at hj
      simp at hj
      exact .inr ⟨by omega, hj.symm⟩
  refine ⟨by simp; omega, fun j g hj => ?_, fun j g hj => ?_, fun g hg0 => ?_, fun j a b ha hb => ?_, fun j a b ha hb => ?_, fun g hgt => ?_⟩
  · rcases at' j g hj with ⟨x, _⟩ | ⟨x, rfl⟩
    · exact h.each j g x
    · refine ⟨hc, hr, ?_⟩
      rw [x]
      by_cases e : fs = []
      · rw [(h0 e).1]; omega
      · have hp : 0 < fs.length := List.length_pos_iff.2 e
        obtain ⟨b, hb⟩ : ∃ b, fs[fs.length - 1]? = some b := ⟨_, List.getElem?_eq_getElem (by omega)⟩
        have h1 := hg b hb
        have h2 := h.each _ b hb
        have h3 := hn b.clo h2.1
        omega
  · rcases at' j g hj with ⟨x, _⟩ | ⟨x, rfl⟩
    · exact h.pcs j g x
    · exact hpc
  · rcases at' 0 g hg0 with ⟨x, _⟩ | ⟨x, rfl⟩
    · exact h.p0 g x
    · exact (h0 (List.length_eq_zero_iff.1 x.symm)).2
  · rcases at' j a ha with ⟨x, hx⟩ | ⟨x, rfl⟩
    · rcases at' (j + 1) b hb with ⟨y, hy⟩ | ⟨y, rfl⟩
      · exact h.gap j a b x y
      · have : j = fs.length - 1 := by omega
        rw [this] at x
        have h1 := hg a x
        exact ⟨h1.2.2.2.1, h1.2.2.2.2, h1.2.2.1⟩
    · rcases at' (j + 1) b hb with ⟨y, hy⟩ | ⟨y, _⟩ <;> omega
  · rcases at' j a ha with ⟨x, hx⟩ | ⟨x, rfl⟩
    · rcases at' (j + 1) b hb with ⟨y, hy⟩ | ⟨y, rfl⟩
      · exact h.mid j a b x y
      · have : j = fs.length - 1 := by omega
        rw [this] at x
        exact ⟨(hg a x).1, (hg a x).2.1⟩
    · rcases at' (j + 1) b hb with ⟨y, hy⟩ | ⟨y, _⟩ <;> omega
  · rw [show (fs ++ [f]).length - 1 = fs.length by simp] at hgt
    simp at hgt
    rw [← hgt]
    exact hl
/-- the frames from n on go -/
theorem FrsOk.take {K : Cx} {fs : List FmD} {L L' n : Nat} (h : FrsOk K fs L) {f : FmD} (hn : fs[n]? = some f) (hL : f.ret ≤ L') : FrsOk K (fs.take n) L' := by
  have hlt := (List.getElem?_eq_some_iff.1 hn).1
  have gt : ∀ j g, (fs.take n)[j]? = some g → fs[j]? = some g ∧ j < n := by
    intro j g hj
    have := (List.getElem?_eq_some_iff.1 hj).1
    have hjn : j < n := by simp at this; omega
    rw [List.getElem?_take_of_lt hjn] at hj
    exact ⟨hj, hjn⟩
  have hlen : (fs.take n).length = n := by simp; omega
  refine ⟨by have := h.len; omega, fun j g hj => h.each j g (gt j g hj).1, fun j g hj => h.pcs j g (gt j g hj).1, fun g hg => h.p0 g (gt 0 g hg).1, fun j a b ha hb => h.gap j a b (gt j a ha).1 (gt _ b hb).1, fun j a b ha hb => h.mid j a b (gt j a ha).1 (gt _ b hb).1, fun g hg => ?_⟩
  rw [hlen] at hg
  obtain ⟨h1, h2⟩ := gt _ g hg
  have h3 := h.mid (n - 1) g f h1 (by rw [show n - 1 + 1 = n by omega]; exact hn)
  omega
/-- another pc of a frame -/
theorem FrsOk.pc {K : Cx} {fs : List FmD} {L j : Nat} (h : FrsOk K fs L) {f : FmD} (hj : fs[j]? = some f) {x : Nat} (hx : x ≤ K.cd f.clo) : FrsOk K (fs.set j { f with pc := x }) L := by
  have hlt := (List.getElem?_eq_some_iff.1 hj).1
  have gt : ∀ (k : Nat) (g : FmD), (fs.set j { f with pc := x })[k]? = some g → ∃ g', fs[k]? = some g' ∧ g.clo = g'.clo ∧ g.base = g'.base ∧ g.ret = g'.ret ∧ g.prot = g'.prot ∧ (g.pc = g'.pc ∨ g.pc ≤ K.cd g.clo) := by
    intro k g hk
    by_cases e : j = k
    · subst e
      rw [List.getElem?_set_self hlt] at hk
      cases hk
      exact ⟨f, hj, rfl, rfl, rfl, rfl, .inr hx⟩
    · rw [List.getElem?_set_ne e] at hk
      exact ⟨g, hk, rfl, rfl, rfl, rfl, .inl rfl⟩
  refine ⟨by simpa using h.len, fun k g hk => ?_, fun k g hk => ?_, fun g hk => ?_, fun k a b ha hb => ?_, fun k a b ha hb => ?_, fun g hg => ?_⟩
  · obtain ⟨g', h1, h2, h3, h4, _⟩ := gt k g hk
    rw [h2, h3, h4]; exact h.each k g' h1
  · obtain ⟨g', h1, h2, h3, h4, _, h5⟩ := gt k g hk
    rcases h5 with h5 | h5
    · rw [h5, h2]; exact h.pcs k g' h1
    · exact h5
  · obtain ⟨g', h1, h2, h3, h4, h5, _⟩ := gt 0 g hk
    rw [h5]; exact h.p0 g' h1
  · obtain ⟨a', h1, h2, h3, h4, _⟩ := gt k a ha
    obtain ⟨b', g1, g2, g3, g4, _⟩ := gt _ b hb
    rw [h2, h3, g3, g4]; exact h.gap k a' b' h1 g1
  · obtain ⟨a', h1, h2, h3, h4, _⟩ := gt k a ha
    obtain ⟨b', g1, g2, g3, g4, _⟩ := gt _ b hb
    rw [h2, h3, g4]; exact h.mid k a' b' h1 g1
  · rw [List.length_set] at hg
    obtain ⟨g', h1, h2, h3, h4, _⟩ := gt _ g hg
    rw [h2, h3]; exact h.top g' h1
/-- a place below the stack's top -/
theorem FrsOk.below {K : Cx} {fs : List FmD} {L : Nat} (h : FrsOk K fs L) {f : FmD} (hf : f ∈ fs) : f.base + K.ns f.clo ≤ L := by
  obtain ⟨j, hj, rfl⟩ := List.getElem_of_mem hf
  have key : ∀ d j (hj : j < fs.length), fs.length - 1 - j = d → fs[j].base + K.ns fs[j].clo ≤ L := by
    intro d
    induction d with
    | zero =>
      intro j hj hd
      have : j = fs.length - 1 := by omega
      exact h.top _ (by rw [← this]; exact List.getElem?_eq_getElem hj)
    | succ d ih =>
      intro j hj hd
      have hj1 : j + 1 < fs.length := by omega
      have h1 := ih (j + 1) hj1 (by omega)
      have h2 := h.mid j _ _ (List.getElem?_eq_getElem hj) (List.getElem?_eq_getElem hj1)
      have h3 := h.each (j + 1) _ (List.getElem?_eq_getElem hj1)
      omega
  exact key _ j hj rfl
theorem FrsOk.stackLe {K : Cx} {fs : List FmD} {L : Nat} (h : FrsOk K fs L) {f : FmD} (hf : fs[fs.length - 1]? = some f) (hr : L ≤ f.base + K.ns f.clo + 128) (hn : ∀ c, c < K.nc → K.ns c ≤ 12) : L ≤ 1120 := by
  have h1 := h.each _ f hf
  have h2 := h.len
  have h3 := hn f.clo h1.1
  have h4 := (List.getElem?_eq_some_iff.1 hf).1
  omega

/-! ### threads and the whole -/
structure OpOk (K : Cx) (cells : List CeD) (i : Nat) (t : ThD) : Prop where
  ok : ∀ c ∈ t.opn, ∃ ce, cells[c]? = some ce ∧ ce.th = (i : Int) ∧ ∃ f ∈ t.frames, f.base ≤ ce.pos ∧ ce.pos < f.base + K.ns f.clo
  so : t.opn.Pairwise (fun c d => (cells.getD c ce0).pos < (cells.getD d ce0).pos)
structure ThOk (K : Cx) (cells : List CeD) (i : Nat) (t : ThD) : Prop where
  fn : t.fn < K.nc
  st : 1 ≤ t.st ∧ t.st ≤ 5
  sv : ∀ v ∈ t.stack, VOk K v
  fr : FrsOk K t.frames t.stack.length
  op : OpOk K cells i t
  em : t.frames = [] → t.stack = []
  al : t.frames = [] ↔ (t.st = 1 ∨ t.st = 5)
structure PrOk (descs consts code : Nat) (p : PrD) : Prop where
  np : p.np ≤ 3
  ns : p.ns ≤ 12
  le : p.np ≤ p.ns
  nu : p.nup ≤ 255
  up : p.up + p.nup ≤ descs
  k : p.k + p.nk ≤ consts
  c : p.code + p.nc ≤ code
/-- the protos' windows lie side by side -/
structure TileP (ps : List PrD) (a b c : Nat) : Prop where
  each : ∀ (j : Nat) (p : PrD), ps[j]? = some p → p.up = ((ps.take j).map PrD.nup).sum ∧ p.k = ((ps.take j).map PrD.nk).sum ∧ p.code = ((ps.take j).map PrD.nc).sum
  all : a = (ps.map PrD.nup).sum ∧ b = (ps.map PrD.nk).sum ∧ c = (ps.map PrD.nc).sum
structure TxtOk (m : VMD) : Prop where
  p1 : 1 ≤ m.protos.length
  pl : m.protos.length ≤ 13
  pr : ∀ p ∈ m.protos, PrOk m.descs.length m.consts.length m.code.length p
  dl : m.descs.length ≤ 32768
  kl : m.consts.length ≤ 32768
  cl : m.code.length ≤ 32768
  ds : ∀ d ∈ m.descs, d.1 ≤ 1 ∧ d.2 < 256
  ks : ∀ v ∈ m.consts, (v.t = 2 ∨ v.t = 3) ∧ ∀ K, VOk K v
  cs : ∀ c ∈ m.code, c.1 < 256 ∧ c.2 < 65536
  ti : TileP m.protos m.descs.length m.consts.length m.code.length
structure VI (K : Cx) (m : VMD) : Prop where
  kt : m.tabs.length = K.nt
  kc : m.clos.length = K.nc
  kh : m.ths.length = K.nh
  kn : ∀ c, c < K.nc → (m.proto c).ns = K.ns c
  kd : ∀ c, c < K.nc → (m.proto c).nc = K.cd c
  txt : TxtOk m
  cl : ∀ c ∈ m.clos, c.p < m.protos.length ∧ c.nup = (m.protos.getD c.p pr0).nup ∧ c.up + c.nup ≤ m.upix.length
  c1 : 1 ≤ K.nc
  cn : K.nc ≤ 24
  ux : ∀ c ∈ m.upix, c < m.cells.length
  cu : m.cells.length ≤ m.upix.length
  ce : ∀ c ce, m.cells[c]? = some ce → (ce.th = -1 ∧ VOk K ce.v) ∨ (∃ y t, ce.th = ((y : Nat) : Int) ∧ m.ths[y]? = some t ∧ c ∈ t.opn)
  cz : ∀ ce ∈ m.cells, VOk K ce.v ∧ (ce.th = -1 → ce.pos = 0)
  h1 : 1 ≤ K.nh
  hn : K.nh ≤ 5
  th : ∀ i t, m.ths[i]? = some t → ThOk K m.cells i t
  ol : m.out.length ≤ 200
  t1 : 1 ≤ K.nt
  tn : K.nt ≤ 12
  tb : ∀ t ∈ m.tabs, TFit t ∧ ∀ e ∈ t.order, VOk K e.1 ∧ VOk K e.2
  tk : ∀ t ∈ m.tabs, TCk t
theorem VI.proto {K : Cx} {m : VMD} (h : VI K m) {c : Nat} (hc : c < K.nc) : ∃ q p, m.clos[c]? = some q ∧ m.protos[q.p]? = some p ∧ m.proto c = p ∧ p ∈ m.protos ∧ q.nup = p.nup ∧ q.up + q.nup ≤ m.upix.length := by
  have hlt : c < m.clos.length := by rw [h.kc]; exact hc
  obtain ⟨h1, h2, h3⟩ := h.cl _ (List.getElem_mem hlt)
  refine ⟨m.clos[c], m.protos[m.clos[c].p], List.getElem?_eq_getElem hlt, List.getElem?_eq_getElem h1, ?_, List.getElem_mem h1, ?_, h3⟩
  · unfold VMD.proto
    simp [hlt, h1]
  · rw [h2]; simp [h1]
theorem VI.ns12 {K : Cx} {m : VMD} (h : VI K m) : ∀ c, c < K.nc → K.ns c ≤ 12 := by
  intro c hc
  obtain ⟨q, p, _, _, h3, h4, _⟩ := h.proto hc
  rw [← h.kn c hc, h3]
  exact (h.txt.pr p h4).ns
/-- thread i is put for another with the same open list -/
theorem VI.setTh {K : Cx} {m : VMD} (h : VI K m) {i : Nat} {t t' : ThD} (hi : m.ths[i]? = some t) (ht : ThOk K m.cells i t') (ho : ∀ c ∈ t.opn, c ∈ t'.opn) : VI K (m.setTh i t') := by
  have hlt := (List.getElem?_eq_some_iff.1 hi).1
  refine { h with kh := by rw [← h.kh]; simp [VMD.setTh], ce := fun c ce hc => ?_, th := fun j u hj => ?_, txt := ⟨h.txt.p1, h.txt.pl, h.txt.pr, h.txt.dl, h.txt.kl, h.txt.cl, h.txt.ds, h.txt.ks, h.txt.cs, h.txt.ti⟩ }
  · rcases h.ce c ce hc with x | ⟨y, u, e1, e2, e3⟩
    · exact .inl x
    · right
      by_cases e : i = y
      · subst e
        rw [hi] at e2
        cases e2
        exact ⟨i, t', e1, by simp [VMD.setTh, hlt], ho c e3⟩
      · exact ⟨y, u, e1, by simp only [VMD.setTh]; rw [List.getElem?_set_ne e]; exact e2, e3⟩
  · by_cases e : i = j
    · subst e
      simp only [VMD.setTh] at hj
      rw [List.getElem?_set_self hlt] at hj
      cases hj
      exact ht
    · simp only [VMD.setTh] at hj
      rw [List.getElem?_set_ne e] at hj
      exact h.th j u hj
theorem th_get {m : VMD} {i : Nat} {t : ThD} (hi : m.ths[i]? = some t) : m.th i = t := by simp [VMD.th, hi]
theorem setTh_get {m : VMD} {i : Nat} {t t' : ThD} (hi : m.ths[i]? = some t) : (m.setTh i t').ths[i]? = some t' := by
  simp [VMD.setTh, (List.getElem?_eq_some_iff.1 hi).1]
/-- thread i's stack is put for another -/
theorem ThOk.stack {K : Cx} {cells : List CeD} {i : Nat} {t : ThD} (h : ThOk K cells i t) (xs : List Vl) (hv : ∀ v ∈ xs, VOk K v) (hf : ∀ f, t.frames[t.frames.length - 1]? = some f → f.base + K.ns f.clo ≤ xs.length) (hne : t.frames ≠ []) : ThOk K cells i { t with stack := xs } :=
  ⟨h.fn, h.st, hv, h.fr.lenTo hf, ⟨h.op.ok, h.op.so⟩, fun e => (hne e).elim, h.al⟩
end Go.Proofs.Qxb6500574aGreatDoor
