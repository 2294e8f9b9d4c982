/-
  moon: the invariant through closeFrom, capture, closure. Plain; no memory, no walk.
-/
import Derived.Test.Qxb6500574aGreatDoorVInv
namespace Go.Proofs.Qxb6500574aGreatDoor
set_option linter.unusedVariables false
set_option linter.unusedSimpArgs false

theorem OpOk.nodup {K : Cx} {cells : List CeD} {i : Nat} {t : ThD} (h : OpOk K cells i t) : t.opn.Nodup := by
  refine h.so.imp fun {a b} hab => ?_
  intro e
  rw [e] at hab
  omega
theorem getD_set_ne {cells : List CeD} {c d : Nat} (h : c ≠ d) (x : CeD) : (cells.set c x).getD d ce0 = cells.getD d ce0 := by
  rw [List.getD_eq_getElem?_getD, List.getD_eq_getElem?_getD, List.getElem?_set_ne h]
theorem getD_app {cells : List CeD} {d : Nat} (h : d < cells.length) (x : List CeD) : (cells ++ x).getD d ce0 = cells.getD d ce0 := by
  rw [List.getD_eq_getElem?_getD, List.getD_eq_getElem?_getD, List.getElem?_append_left h]
theorem pw_congr {cells cells' : List CeD} {l : List Nat} (h : l.Pairwise (fun c d => (cells.getD c ce0).pos < (cells.getD d ce0).pos)) (e : ∀ c ∈ l, cells'.getD c ce0 = cells.getD c ce0) : l.Pairwise (fun c d => (cells'.getD c ce0).pos < (cells'.getD d ce0).pos) := by
  refine List.Pairwise.imp_of_mem ?_ h
  intro a b ha hb hab
  rw [e a ha, e b hb]
  exact hab
structure ClosePost (K : Cx) (m m' : VMD) (i a : Nat) (t : ThD) : Prop where
  vi : VI K m'
  th : ∃ k, m'.ths[i]? = some { t with opn := t.opn.take k }
  ot : ∀ j, j ≠ i → m'.ths[j]? = m.ths[j]?
  lo : ∀ c ∈ (m'.th i).opn, (m'.cells.getD c ce0).pos < a
  ux : m'.upix = m.upix
  cl : m'.clos = m.clos
  pr : m'.protos = m.protos
  ln : m'.cells.length = m.cells.length
theorem close_step {K : Cx} {m : VMD} (h : VI K m) {i n c : Nat} {t : ThD} (hi : m.ths[i]? = some t) (hl : t.opn.length = n + 1) (hc : t.opn[n]? = some c) {ce : CeD} (hce : m.cells[c]? = some ce) {v : Vl} (hv : t.stack[ce.pos]? = some v) :
    VI K { m with cells := m.cells.set c ⟨-1, 0, v⟩, ths := m.ths.set i { t with opn := t.opn.take n } } := by
  have hlt := (List.getElem?_eq_some_iff.1 hi).1
  have hcl := (List.getElem?_eq_some_iff.1 hce).1
  have T := h.th i t hi
  have nd := T.op.nodup
  have hsp : t.opn = t.opn.take n ++ [c] := by
    have h1 := List.take_append_drop n t.opn
    have h2 : t.opn.drop n = [c] := by
      have hn : n < t.opn.length := by omega
      rw [List.drop_eq_getElem_cons hn]
      have : t.opn[n] = c := by rw [List.getElem?_eq_getElem hn] at hc; exact Option.some.inj hc
      rw [this]
      simp
      omega
    rw [h2] at h1
    exact h1.symm
  have hnc : ∀ c' ∈ t.opn.take n, c ≠ c' := by
    intro c' hc' e
    subst e
    rw [hsp] at nd
    exact (List.nodup_append.1 nd).2.2 c hc' c (by simp) rfl
  have hth : ce.th = (i : Int) := by
    obtain ⟨ce', h1, h2, _⟩ := T.op.ok c (List.mem_of_getElem? hc)
    rw [hce] at h1
    cases h1
    exact h2
  have oth : ∀ (j : Nat) (u : ThD), j ≠ i → m.ths[j]? = some u → ∀ c' ∈ u.opn, c ≠ c' := by
    intro j u hj hu c' hc' e
    subst e
    obtain ⟨ce', h1, h2, _⟩ := (h.th j u hu).op.ok c hc'
    rw [hce] at h1
    cases h1
    rw [hth] at h2
    omega
  have opk : ∀ (j : Nat) (u : ThD), (∀ c' ∈ u.opn, c ≠ c') → OpOk K m.cells j u → OpOk K (m.cells.set c ⟨-1, 0, v⟩) j u := by
    intro j u hne ho
    refine ⟨fun c' hc' => ?_, pw_congr ho.so fun c' hc' => getD_set_ne (hne c' hc') _⟩
    obtain ⟨ce', h1, h2⟩ := ho.ok c' hc'
    exact ⟨ce', by rw [List.getElem?_set_ne (hne c' hc')]; exact h1, h2⟩
  refine { h with kh := by rw [← h.kh]; simp, ux := fun x hx => by have := h.ux x hx; simpa using this, cu := by have := h.cu; simpa using this, cz := fun x hx => (List.mem_or_eq_of_mem_set hx).elim (h.cz x) (fun e => by rw [e]; exact ⟨T.sv v (List.mem_of_getElem? hv), fun _ => rfl⟩), ce := fun c' ce' hc' => ?_, th := fun j u hj => ?_, txt := ⟨h.txt.p1, h.txt.pl, h.txt.pr, h.txt.dl, h.txt.kl, h.txt.cl, h.txt.ds, h.txt.ks, h.txt.cs, h.txt.ti⟩ }
  · by_cases e : c = c'
    · subst e
      simp only at hc'
      rw [List.getElem?_set_self hcl] at hc'
      cases hc'
      exact .inl ⟨rfl, T.sv v (List.mem_of_getElem? hv)⟩
    · simp only at hc'
      rw [List.getElem?_set_ne e] at hc'
      rcases h.ce c' ce' hc' with x | ⟨y, u, e1, e2, e3⟩
      · exact .inl x
      · right
        by_cases ey : i = y
        · subst ey
          rw [hi] at e2
          cases e2
          refine ⟨i, _, e1, by simp only; rw [List.getElem?_set_self hlt], ?_⟩
          rw [hsp] at e3
          rcases List.mem_append.1 e3 with e3 | e3
          · exact e3
          · simp at e3; exact absurd e3.symm e
        · exact ⟨y, u, e1, by simp only; rw [List.getElem?_set_ne ey]; exact e2, e3⟩
  · by_cases e : i = j
    · subst e
      simp only at hj
      rw [List.getElem?_set_self hlt] at hj
      cases hj
      refine ⟨T.fn, T.st, T.sv, T.fr, opk i _ hnc ⟨fun c' hc' => T.op.ok c' (List.mem_of_mem_take hc'), T.op.so.sublist (List.take_sublist _ _)⟩, T.em, T.al⟩
    · simp only at hj
      rw [List.getElem?_set_ne e] at hj
      have U := h.th j u hj
      exact ⟨U.fn, U.st, U.sv, U.fr, opk j u (oth j u (fun x => e x.symm) hj) U.op, U.em, U.al⟩
theorem closeN_inv {K : Cx} {i a : Nat} : ∀ (n : Nat) {m : VMD} (h : VI K m) {t : ThD} (hi : m.ths[i]? = some t) (hl : t.opn.length = n), ClosePost K m (closeN n m i a) i a t := by
  intro n
  induction n with
  | zero =>
    intro m h t hi hl
    have : t.opn = [] := List.length_eq_zero_iff.1 hl
    refine ⟨h, ⟨0, ?_⟩, fun j _ => rfl, fun c hc => ?_, rfl, rfl, rfl, rfl⟩
    · unfold closeN; rw [hi]; simp [← this]
    · unfold closeN at hc; rw [th_get hi, this] at hc; cases hc
  | succ n ih =>
    intro m h t hi hl
    have hn : n < t.opn.length := by omega
    obtain ⟨c, hc⟩ : ∃ c, t.opn[n]? = some c := ⟨_, List.getElem?_eq_getElem hn⟩
    have T := h.th i t hi
    obtain ⟨ce, hce, hth, f, hf, hb1, hb2⟩ := T.op.ok c (List.mem_of_getElem? hc)
    have hlt : ce.pos < t.stack.length := Nat.lt_of_lt_of_le hb2 (T.fr.below hf)
    obtain ⟨v, hv⟩ : ∃ v, t.stack[ce.pos]? = some v := ⟨_, List.getElem?_eq_getElem hlt⟩
    have e1 : t.opn.getD n 0 = c := by simp [hc]
    have e2 : m.cells.getD c ce0 = ce := by simp [hce]
    have e3 : t.stack.getD ce.pos nilV = v := by simp [hv]
    unfold closeN
    dsimp only
    rw [th_get hi, e1, e2, e3]
    split
    · rename_i hpa
      refine ⟨h, ⟨n + 1, by rw [hi, ← hl, List.take_length]⟩, fun j _ => rfl, fun c' hc' => ?_, rfl, rfl, rfl, rfl⟩
      rw [th_get hi] at hc'
      obtain ⟨k, hk, rfl⟩ := List.getElem_of_mem hc'
      by_cases ek : k = n
      · subst ek
        have : t.opn[k] = c := by rw [List.getElem?_eq_getElem hk] at hc; exact Option.some.inj hc
        rw [this, e2]
        exact hpa
      · have h1 := (List.pairwise_iff_getElem.1 T.op.so) k n hk hn (by omega)
        have : t.opn[n] = c := by rw [List.getElem?_eq_getElem hn] at hc; exact Option.some.inj hc
        rw [this, e2] at h1
        omega
    · have hs := close_step h hi hl hc hce hv
      have hi2 : ({ m with cells := m.cells.set c ⟨-1, 0, v⟩, ths := m.ths.set i { t with opn := t.opn.take n } } : VMD).ths[i]? = some { t with opn := t.opn.take n } := by
        simp [(List.getElem?_eq_some_iff.1 hi).1]
      obtain ⟨r1, ⟨k, r2⟩, r3, r4, r5, r6, r7, r8⟩ := ih hs hi2 (by simp; omega)
      refine ⟨r1, ⟨min k n, by rw [r2]; simp [List.take_take]⟩, fun j hj => ?_, r4, r5, r6, r7, by rw [r8]; simp⟩
      rw [r3 j hj]
      simp only
      rw [List.getElem?_set_ne (fun x => hj x.symm)]
theorem closeFrom_inv {K : Cx} {m : VMD} (h : VI K m) {i : Nat} {t : ThD} (hi : m.ths[i]? = some t) (a : Nat) : ClosePost K m (closeFrom m i a) i a t := by
  unfold closeFrom
  rw [th_get hi]
  exact closeN_inv _ h hi rfl
/-- the open list is empty behind closeFrom 0 -/
theorem ClosePost.none {K : Cx} {m m' : VMD} {i : Nat} {t : ThD} (h : ClosePost K m m' i 0 t) : m'.ths[i]? = some { t with opn := [] } := by
  obtain ⟨k, hk⟩ := h.th
  have : (t.opn.take k) = [] := by
    cases hx : t.opn.take k with
    | nil => rfl
    | cons c r =>
      have := h.lo c (by rw [th_get hk]; simp [hx])
      omega
  rw [hk, this]

/-! ### capture -/
theorem capI_le (cells : List CeD) (a : Nat) : ∀ (n : Nat) (l : List Nat), capI cells a n l ≤ n := by
  intro n
  induction n with
  | zero => intro l; exact Nat.le_refl _
  | succ n ih =>
    intro l
    unfold capI
    split
    · exact Nat.le_succ_of_le (ih l)
    · exact Nat.le_refl _
theorem capI_hi (cells : List CeD) (a : Nat) (l : List Nat) : ∀ (n k : Nat), capI cells a n l ≤ k → k < n → (cells.getD (l.getD k 0) ce0).pos > a := by
  intro n
  induction n with
  | zero => intro k _ h; omega
  | succ n ih =>
    intro k h1 h2
    unfold capI at h1
    split at h1
    · rename_i hgt
      by_cases e : k = n
      · rw [e]; exact hgt
      · exact ih k h1 (by omega)
    · omega
theorem capI_lo (cells : List CeD) (a : Nat) (l : List Nat) : ∀ (n : Nat), 0 < capI cells a n l → (cells.getD (l.getD (capI cells a n l - 1) 0) ce0).pos ≤ a := by
  intro n
  induction n with
  | zero => intro h; simp [capI] at h
  | succ n ih =>
    unfold capI
    split
    · exact ih
    · intro _
      rename_i h
      simp only [Nat.add_sub_cancel]
      omega
/-- capture and the append of the cell to the upvalues -/
def capU (m : VMD) (i a : Nat) : VMD := { (capture m i a).2 with upix := (capture m i a).2.upix ++ [(capture m i a).1] }
/-- upvalues grow by a cell that is there -/
theorem VI.addUp {K : Cx} {m : VMD} (h : VI K m) {c : Nat} (hc : c < m.cells.length) : VI K { m with upix := m.upix ++ [c] } := by
  refine { h with cl := fun q hq => ?_, ux := fun x hx => ?_, cu := ?_, txt := ⟨h.txt.p1, h.txt.pl, h.txt.pr, h.txt.dl, h.txt.kl, h.txt.cl, h.txt.ds, h.txt.ks, h.txt.cs, h.txt.ti⟩ }
  · obtain ⟨h1, h2, h3⟩ := h.cl q hq
    exact ⟨h1, h2, by simp; omega⟩
  · rcases List.mem_append.1 hx with hx | hx
    · exact h.ux x hx
    · simp at hx; rw [hx]; exact hc
  · have := h.cu; simp; omega
theorem capture_new {K : Cx} {m : VMD} (h : VI K m) {i a j : Nat} {t : ThD} (hi : m.ths[i]? = some t) {f : FmD} (hf : f ∈ t.frames) (ha1 : f.base ≤ a) (ha2 : a < f.base + K.ns f.clo) (hj : j ≤ t.opn.length)
    (hlo : ∀ c ∈ t.opn.take j, (m.cells.getD c ce0).pos < a) (hhi : ∀ c ∈ t.opn.drop j, a < (m.cells.getD c ce0).pos) :
    VI K { m with cells := m.cells ++ [⟨i, a, nilV⟩], ths := m.ths.set i { t with opn := t.opn.take j ++ [m.cells.length] ++ t.opn.drop j }, upix := m.upix ++ [m.cells.length] } := by
  have hlt := (List.getElem?_eq_some_iff.1 hi).1
  have T := h.th i t hi
  have lt : ∀ (j : Nat) (u : ThD), m.ths[j]? = some u → ∀ c ∈ u.opn, c < m.cells.length := by
    intro j u hu c hc
    obtain ⟨ce, h1, _⟩ := (h.th j u hu).op.ok c hc
    exact (List.getElem?_eq_some_iff.1 h1).1
  have opk : ∀ (j : Nat) (u : ThD), m.ths[j]? = some u → OpOk K (m.cells ++ [⟨i, a, nilV⟩]) j u := by
    intro j u hu
    have ho := (h.th j u hu).op
    refine ⟨fun c hc => ?_, pw_congr ho.so fun c hc => getD_app (lt j u hu c hc) _⟩
    obtain ⟨ce, h1, h2⟩ := ho.ok c hc
    exact ⟨ce, by rw [List.getElem?_append_left (lt j u hu c hc)]; exact h1, h2⟩
  have memS : ∀ c, c ∈ t.opn → c ∈ t.opn.take j ++ [m.cells.length] ++ t.opn.drop j := by
    intro c hc
    rw [← List.take_append_drop j t.opn] at hc
    rcases List.mem_append.1 hc with hc | hc
    · exact List.mem_append_left _ (List.mem_append_left _ hc)
    · exact List.mem_append_right _ hc
  refine { h with kh := by rw [← h.kh]; simp, cl := fun q hq => ?_, ux := fun x hx => ?_, cu := by have := h.cu; simp; omega, cz := fun x hx => (List.mem_append.1 hx).elim (h.cz x) (fun e => by simp at e; rw [e]; exact ⟨VOk.nil K, fun e => by simp only at e; omega⟩), ce := fun c ce hc => ?_, th := fun j' u hj' => ?_, txt := ⟨h.txt.p1, h.txt.pl, h.txt.pr, h.txt.dl, h.txt.kl, h.txt.cl, h.txt.ds, h.txt.ks, h.txt.cs, h.txt.ti⟩ }
  · obtain ⟨h1, h2, h3⟩ := h.cl q hq
    exact ⟨h1, h2, by simp; omega⟩
  · simp only at hx ⊢
    rcases List.mem_append.1 hx with hx | hx
    · have := h.ux x hx; simp; omega
    · simp at hx; rw [hx]; simp
  · simp only at hc
    by_cases hcl : c < m.cells.length
    · rw [List.getElem?_append_left hcl] at hc
      rcases h.ce c ce hc with x | ⟨y, u, e1, e2, e3⟩
      · exact .inl x
      · right
        by_cases ey : i = y
        · subst ey
          rw [hi] at e2
          cases e2
          exact ⟨i, _, e1, by simp only; rw [List.getElem?_set_self hlt], memS c e3⟩
        · exact ⟨y, u, e1, by simp only; rw [List.getElem?_set_ne ey]; exact e2, e3⟩
    · rw [List.getElem?_append_right (by omega)] at hc
      have e0 : c - m.cells.length = 0 := by
        have := (List.getElem?_eq_some_iff.1 hc).1
        simpa using this
      rw [e0] at hc
      simp at hc
      right
      refine ⟨i, _, by rw [← hc], by simp only; rw [List.getElem?_set_self hlt], ?_⟩
      have : c = m.cells.length := by omega
      rw [this]
      simp
  · simp only at hj'
    by_cases e : i = j'
    · subst e
      rw [List.getElem?_set_self hlt] at hj'
      cases hj'
      have O := opk i t hi
      refine ⟨T.fn, T.st, T.sv, T.fr, ⟨fun c hc => ?_, ?_⟩, T.em, T.al⟩
      · simp only at hc
        have hc' : c ∈ t.opn ∨ c = m.cells.length := by
          simp at hc
          rcases hc with hc | hc | hc
          · exact .inl (List.mem_of_mem_take hc)
          · exact .inr hc
          · exact .inl (List.mem_of_mem_drop hc)
        rcases hc' with hc' | hc'
        · exact O.ok c hc'
        · rw [hc']
          exact ⟨⟨i, a, nilV⟩, by simp, rfl, f, hf, ha1, ha2⟩
      · simp only
        have pN : ((m.cells ++ [(⟨(i : Int), a, nilV⟩ : CeD)]).getD m.cells.length ce0).pos = a := by simp
        have e1 : ∀ c ∈ t.opn, ((m.cells ++ [(⟨(i : Int), a, nilV⟩ : CeD)]).getD c ce0).pos = (m.cells.getD c ce0).pos := fun c hc => by rw [getD_app (lt i t hi c hc)]
        have S := O.so
        rw [← List.take_append_drop j t.opn] at S
        obtain ⟨s1, s2, s3⟩ := List.pairwise_append.1 S
        rw [List.append_assoc, List.pairwise_append]
        refine ⟨s1, ?_, fun x hx y hy => ?_⟩
        · rw [List.pairwise_append]
          refine ⟨List.pairwise_singleton _ _, s2, fun x hx y hy => ?_⟩
          simp at hx
          rw [hx, pN, e1 y (List.mem_of_mem_drop hy)]
          exact hhi y hy
        · rcases List.mem_append.1 hy with hy | hy
          · simp at hy
            rw [hy, pN, e1 x (List.mem_of_mem_take hx)]
            exact hlo x hx
          · exact s3 x hx y hy
    · rw [List.getElem?_set_ne e] at hj'
      have U := h.th j' u hj'
      exact ⟨U.fn, U.st, U.sv, U.fr, opk j' u hj', U.em, U.al⟩
/-- what a step does to a thread whose stack and frames stay -/
structure OpnPost (K : Cx) (m m' : VMD) (i : Nat) (t : ThD) : Prop where
  vi : VI K m'
  th : ∃ o, m'.ths[i]? = some { t with opn := o }
  ot : ∀ j, j ≠ i → m'.ths[j]? = m.ths[j]?
  cl : m'.clos = m.clos
  pr : m'.protos = m.protos
  tb : m'.tabs = m.tabs
  ou : m'.out = m.out
  ds : m'.descs = m.descs
theorem capU_inv {K : Cx} {m : VMD} (h : VI K m) {i a : Nat} {t : ThD} (hi : m.ths[i]? = some t) {f : FmD} (hf : f ∈ t.frames) (ha1 : f.base ≤ a) (ha2 : a < f.base + K.ns f.clo) : OpnPost K m (capU m i a) i t ∧ (capU m i a).upix.length = m.upix.length + 1 ∧ m.upix <+: (capU m i a).upix := by
  have T := h.th i t hi
  have hlt := (List.getElem?_eq_some_iff.1 hi).1
  have hle := capI_le m.cells a t.opn.length t.opn
  have hcap : capture m i a = (let j := capI m.cells a t.opn.length t.opn
    if j > 0 ∧ (m.cells.getD (t.opn.getD (j - 1) 0) ce0).pos = a then (t.opn.getD (j - 1) 0, m)
    else (m.cells.length, { m with cells := m.cells ++ [⟨i, a, nilV⟩], ths := m.ths.set i { t with opn := t.opn.take j ++ [m.cells.length] ++ t.opn.drop j } })) := by
    simp only [capture, th_get hi]
  dsimp only at hcap
  unfold capU
  rw [hcap]
  split
  · rename_i hp
    have hlt2 : capI m.cells a t.opn.length t.opn - 1 < t.opn.length := by omega
    have hm : t.opn.getD (capI m.cells a t.opn.length t.opn - 1) 0 ∈ t.opn := by
      rw [List.getD_eq_getElem?_getD, List.getElem?_eq_getElem hlt2]
      exact List.getElem_mem hlt2
    obtain ⟨ce, h1, _⟩ := T.op.ok _ hm
    refine ⟨⟨h.addUp (List.getElem?_eq_some_iff.1 h1).1, ⟨t.opn, hi⟩, fun _ _ => rfl, rfl, rfl, rfl, rfl, rfl⟩, by simp, List.prefix_append _ _⟩
  · rename_i hp
    have gd : ∀ k (hk : k < t.opn.length), t.opn.getD k 0 = t.opn[k] := fun k hk => by simp [hk]
    refine ⟨⟨capture_new h hi hf ha1 ha2 hle (fun c hc => ?_) (fun c hc => ?_), ⟨_, by simp only; rw [List.getElem?_set_self hlt]⟩, fun j hj => by simp only; rw [List.getElem?_set_ne (fun x => hj x.symm)], rfl, rfl, rfl, rfl, rfl⟩, by simp, List.prefix_append _ _⟩
    · obtain ⟨k, hk, rfl⟩ := List.getElem_of_mem hc
      have hk2 : k < capI m.cells a t.opn.length t.opn := by simp at hk; omega
      have hkl : k < t.opn.length := by omega
      rw [List.getElem_take]
      have h1 := capI_lo m.cells a t.opn t.opn.length (by omega)
      have h2 : (m.cells.getD (t.opn.getD (capI m.cells a t.opn.length t.opn - 1) 0) ce0).pos < a := by
        have : ¬ (m.cells.getD (t.opn.getD (capI m.cells a t.opn.length t.opn - 1) 0) ce0).pos = a := fun e => hp ⟨by omega, e⟩
        omega
      by_cases e : k = capI m.cells a t.opn.length t.opn - 1
      · rw [← e, gd k hkl] at h2
        exact h2
      · have h3 := (List.pairwise_iff_getElem.1 T.op.so) k (capI m.cells a t.opn.length t.opn - 1) hkl (by omega) (by omega)
        rw [gd _ (by omega)] at h2
        omega
    · obtain ⟨k, hk, rfl⟩ := List.getElem_of_mem hc
      simp at hk
      rw [List.getElem_drop]
      have := capI_hi m.cells a t.opn t.opn.length (capI m.cells a t.opn.length t.opn + k) (by omega) (by omega)
      rw [gd _ (by omega)] at this
      exact this
theorem closL_inv {K : Cx} {i clo : Nat} {f : FmD} : ∀ (l : List (Nat × Nat)) {m : VMD} (h : VI K m) {t : ThD} (hi : m.ths[i]? = some t) (hf : f ∈ t.frames) (hc : clo < K.nc)
    (hd : ∀ d ∈ l, ¬ ((d.1 = 1 ∧ d.2 ≥ K.ns f.clo) ∨ (d.1 = 0 ∧ d.2 ≥ (m.clos.getD clo cl0).nup)) ∧ d.1 ≤ 1), OpnPost K m (closL i f.base clo l m) i t ∧ (closL i f.base clo l m).upix.length = m.upix.length + l.length ∧ m.upix <+: (closL i f.base clo l m).upix := by
  intro l
  induction l with
  | nil => intro m h t hi hf hc hd; exact ⟨⟨h, ⟨t.opn, hi⟩, fun _ _ => rfl, rfl, rfl, rfl, rfl, rfl⟩, rfl, List.prefix_refl _⟩
  | cons d r ih =>
    intro m h t hi hf hc hd
    have hd0 := hd d (by simp)
    unfold closL
    split
    · rename_i h1
      have hlt : d.2 < K.ns f.clo := Nat.lt_of_not_le fun x => hd0.1 (.inl ⟨h1, x⟩)
      obtain ⟨P, e1, e2⟩ := capU_inv h hi hf (Nat.le_add_right f.base d.2) (by omega)
      obtain ⟨o, ho⟩ := P.th
      have hcl : (capU m i (f.base + d.2)).clos = m.clos := P.cl
      obtain ⟨Q, q1, q2⟩ := ih P.vi ho hf hc (fun x hx => by rw [hcl]; exact hd x (by simp [hx]))
      change OpnPost K m (closL i f.base clo r (capU m i (f.base + d.2))) i t ∧ (closL i f.base clo r (capU m i (f.base + d.2))).upix.length = _ ∧ _ <+: (closL i f.base clo r (capU m i (f.base + d.2))).upix
      obtain ⟨o2, ho2⟩ := Q.th
      exact ⟨⟨Q.vi, ⟨o2, ho2⟩, fun j hj => (Q.ot j hj).trans (P.ot j hj), Q.cl.trans P.cl, Q.pr.trans P.pr, Q.tb.trans P.tb, Q.ou.trans P.ou, Q.ds.trans P.ds⟩, by rw [q1, e1]; simp; omega, e2.trans q2⟩
    · rename_i h1
      have h0 : d.1 = 0 := by omega
      have hlt : d.2 < (m.clos.getD clo cl0).nup := Nat.lt_of_not_le fun x => hd0.1 (.inr ⟨h0, x⟩)
      obtain ⟨q, p, k1, _, _, _, _, k6⟩ := h.proto hc
      have hq : m.clos.getD clo cl0 = q := by simp [k1]
      rw [hq] at hlt
      have hu : q.up + d.2 < m.upix.length := by omega
      have hmem : m.upix.getD ((m.clos.getD clo cl0).up + d.2) 0 < m.cells.length := by
        rw [hq, List.getD_eq_getElem?_getD, List.getElem?_eq_getElem hu]
        exact h.ux _ (List.getElem_mem hu)
      obtain ⟨Q, q1, q2⟩ := ih (h.addUp hmem) hi hf hc (fun x hx => hd x (by simp [hx]))
      obtain ⟨o2, ho2⟩ := Q.th
      exact ⟨⟨Q.vi, ⟨o2, ho2⟩, Q.ot, Q.cl, Q.pr, Q.tb, Q.ou, Q.ds⟩, by rw [q1]; simp; omega, (List.prefix_append _ _).trans q2⟩
end Go.Proofs.Qxb6500574aGreatDoor
