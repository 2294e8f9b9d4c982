/-
  moon: what is loaded keeps to the invariant. Plain; no memory, no walk.
-/
import Derived.Test.Qxb6500574aGreatDoorVInv8
namespace Go.Proofs.Qxb6500574aGreatDoor
set_option linter.unusedVariables false
set_option linter.unusedSimpArgs false

theorem rdTake_len {n : Nat} {r w r' : Bs} (h : rdTake n r = some (w, r')) : w.length = n ∧ r'.length + n = r.length ∧ r = w ++ r' := by
  unfold rdTake at h
  split at h
  · cases h
  · cases h
    refine ⟨by rw [List.length_take]; omega, by rw [List.length_drop]; omega, (List.take_append_drop n r).symm⟩
theorem leN_lt : ∀ w : Bs, leN w < 256 ^ w.length := by
  intro w
  induction w with
  | nil => decide
  | cons b r ih =>
    have hb := b.toNat_lt
    unfold leN
    rw [List.length_cons, Nat.pow_succ]
    omega
def ConstOk (v : Vl) : Prop := (v.t = 2 ∨ v.t = 3) ∧ ∀ K, VOk K v
theorem constP_ok {r r' : Bs} {c : Vl} (h : constP r = some (c, r')) : r'.length < r.length ∧ ConstOk c := by
  unfold constP at h
  cases r with
  | nil => cases h
  | cons tag r1 =>
    dsimp only at h
    split at h
    · split at h
      · cases h
      · rename_i w r2 hr
        obtain ⟨h1, h2, _⟩ := rdTake_len hr
        split at h
        · cases h
        · rename_i hn
          cases h
          have hlt := leN_lt w
          rw [h1] at hlt
          refine ⟨by simp; omega, .inl rfl, fun K => NumOk.val ⟨by omega, fun x => ?_⟩⟩
          exact Decidable.byContradiction fun y => hn ⟨x, y⟩
    · split at h
      · split at h
        · cases h
        · split at h
          · cases h
          · rename_i l r2 hl
            split at h
            · cases h
            · rename_i w r3 hr
              obtain ⟨h1, h2, _⟩ := rdTake_len hr
              cases h
              refine ⟨by simp; omega, .inr rfl, fun K => VOk.str K (by omega)⟩
      · cases h
theorem constsP_ok : ∀ (n : Nat) {cs cs' : List Vl} {r r' : Bs}, constsP n cs r = some (cs', r') → cs'.length = cs.length + n ∧ cs'.length + r'.length ≤ cs.length + r.length ∧ ((∀ v ∈ cs, ConstOk v) → ∀ v ∈ cs', ConstOk v) := by
  intro n
  induction n with
  | zero => intro cs cs' r r' h; unfold constsP at h; cases h; exact ⟨rfl, Nat.le_refl _, fun x => x⟩
  | succ n ih =>
    intro cs cs' r r' h
    unfold constsP at h
    split at h
    · cases h
    · rename_i c r1 hc
      obtain ⟨h1, h2⟩ := constP_ok hc
      obtain ⟨g1, g2, g3⟩ := ih h
      simp at g1 g2
      refine ⟨by omega, by omega, fun x => g3 fun v hv => ?_⟩
      rcases List.mem_append.1 hv with hv | hv
      · exact x v hv
      · simp at hv; rw [hv]; exact h2
theorem descsP_ok : ∀ (n : Nat) {ds ds' : List (Nat × Nat)} {r r' : Bs}, descsP n ds r = some (ds', r') → ds'.length = ds.length + n ∧ ds'.length + r'.length ≤ ds.length + r.length ∧ ((∀ d ∈ ds, d.1 ≤ 1 ∧ d.2 < 256) → ∀ d ∈ ds', d.1 ≤ 1 ∧ d.2 < 256) := by
  intro n
  induction n with
  | zero => intro ds ds' r r' h; unfold descsP at h; cases h; exact ⟨rfl, Nat.le_refl _, fun x => x⟩
  | succ n ih =>
    intro ds ds' r r' h
    unfold descsP at h
    split at h
    · cases h
    · rename_i w r1 hc
      obtain ⟨h1, h2, _⟩ := rdTake_len hc
      split at h
      · cases h
      · rename_i hle
        obtain ⟨g1, g2, g3⟩ := ih h
        simp only [List.length_append, List.length_singleton] at g1 g2
        refine ⟨by omega, by omega, fun x => g3 fun v hv => ?_⟩
        rcases List.mem_append.1 hv with hv | hv
        · exact x v hv
        · simp only [List.mem_singleton] at hv
          rw [hv]
          exact ⟨by dsimp only; omega, (w.getD 1 0).toNat_lt⟩
theorem u16_lt (w : Bs) : u16N w < 65536 := by
  have h0 := (w.getD 0 0).toNat_lt
  have h1 := (w.getD 1 0).toNat_lt
  unfold u16N
  omega
theorem codeP_ok : ∀ (n : Nat) {cs cs' : List (Nat × Nat)} {r r' : Bs}, codeP n cs r = some (cs', r') → cs'.length = cs.length + n ∧ cs'.length + r'.length ≤ cs.length + r.length ∧ ((∀ c ∈ cs, c.1 < 256 ∧ c.2 < 65536) → ∀ c ∈ cs', c.1 < 256 ∧ c.2 < 65536) := by
  intro n
  induction n with
  | zero => intro cs cs' r r' h; unfold codeP at h; cases h; exact ⟨rfl, Nat.le_refl _, fun x => x⟩
  | succ n ih =>
    intro cs cs' r r' h
    unfold codeP at h
    split at h
    · cases h
    · rename_i w r1 hc
      obtain ⟨h1, h2, _⟩ := rdTake_len hc
      obtain ⟨g1, g2, g3⟩ := ih h
      simp only [List.length_append, List.length_singleton] at g1 g2
      refine ⟨by omega, by omega, fun x => g3 fun v hv => ?_⟩
      rcases List.mem_append.1 hv with hv | hv
      · exact x v hv
      · simp only [List.mem_singleton] at hv
        rw [hv]
        exact ⟨(w.getD 0 0).toNat_lt, u16_lt _⟩
structure ImOk (im : ImD) : Prop where
  pr : ∀ p ∈ im.protos, PrOk im.descs.length im.consts.length im.code.length p
  ds : ∀ d ∈ im.descs, d.1 ≤ 1 ∧ d.2 < 256
  ks : ∀ v ∈ im.consts, ConstOk v
  cs : ∀ c ∈ im.code, c.1 < 256 ∧ c.2 < 65536
  ti : TileP im.protos im.descs.length im.consts.length im.code.length
def imLen (im : ImD) : Nat := im.descs.length + im.consts.length + im.code.length
theorem PrOk.mono {a b c a' b' c' : Nat} {p : PrD} (h : PrOk a b c p) (h1 : a ≤ a') (h2 : b ≤ b') (h3 : c ≤ c') : PrOk a' b' c' p := ⟨h.np, h.ns, h.le, h.nu, Nat.le_trans h.up h1, Nat.le_trans h.k h2, Nat.le_trans h.c h3⟩
theorem TileP.snoc {ps : List PrD} {a b c : Nat} (h : TileP ps a b c) {p : PrD} (h1 : p.up = a) (h2 : p.k = b) (h3 : p.code = c) : TileP (ps ++ [p]) (a + p.nup) (b + p.nk) (c + p.nc) := by
  refine ⟨fun j q hj => ?_, ?_⟩
  · by_cases hjl : j < ps.length
    · rw [List.getElem?_append_left hjl] at hj
      rw [List.take_append_of_le_length (by omega)]
      exact h.each j q hj
    · have hj2 := (List.getElem?_eq_some_iff.1 hj).1
      simp at hj2
      have hjj : j = ps.length := by omega
      subst hjj
      simp at hj
      rw [← hj, h1, h2, h3]
      simp only [List.take_append_of_le_length (Nat.le_refl _), List.take_length]
      exact h.all
  · obtain ⟨x, y, z⟩ := h.all
    rw [x, y, z]
    simp
theorem protoP_ok {im im' : ImD} {r r' : Bs} (h : protoP im r = some (im', r')) : im'.protos.length = im.protos.length + 1 ∧ imLen im' + r'.length ≤ imLen im + r.length ∧ (ImOk im → ImOk im') := by
  unfold protoP at h
  split at h
  · cases h
  · rename_i hd r1 e1
    obtain ⟨q1, q2, _⟩ := rdTake_len e1
    dsimp only at h
    split at h
    · cases h
    · rename_i hnp
      split at h
      · cases h
      · rename_i ds r2 e2
        obtain ⟨d1, d2, d3⟩ := descsP_ok _ e2
        split at h
        · cases h
        · rename_i w r3 e3
          obtain ⟨w1, w2, _⟩ := rdTake_len e3
          split at h
          · cases h
          · rename_i ks r4 e4
            obtain ⟨k1, k2, k3⟩ := constsP_ok _ e4
            split at h
            · cases h
            · rename_i w2 r5 e5
              obtain ⟨v1, v2, _⟩ := rdTake_len e5
              split at h
              · cases h
              · rename_i cs r6 e6
                obtain ⟨c1, c2, c3⟩ := codeP_ok _ e6
                cases h
                have hnup := (hd.getD 2 0).toNat_lt
                refine ⟨by simp, by unfold imLen; simp only; omega, fun O => ⟨fun p hp => ?_, d3 O.ds, k3 O.ks, c3 O.cs, ?_⟩⟩
                rotate_left
                · simp only
                  rw [d1, k1, c1]
                  exact O.ti.snoc rfl rfl rfl
                simp only at hp ⊢
                rcases List.mem_append.1 hp with hp | hp
                · exact (O.pr p hp).mono (by omega) (by omega) (by omega)
                · simp only [List.mem_singleton] at hp
                  rw [hp]
                  exact ⟨by dsimp only; omega, by dsimp only; omega, by dsimp only; omega, by dsimp only; omega, by dsimp only; omega, by dsimp only; omega, by dsimp only; omega⟩
theorem protosP_ok : ∀ (n : Nat) {im im' : ImD} {r r' : Bs}, protosP n im r = some (im', r') → im'.protos.length = im.protos.length + n ∧ imLen im' + r'.length ≤ imLen im + r.length ∧ (ImOk im → ImOk im') := by
  intro n
  induction n with
  | zero => intro im im' r r' h; unfold protosP at h; cases h; exact ⟨rfl, Nat.le_refl _, fun x => x⟩
  | succ n ih =>
    intro im im' r r' h
    unfold protosP at h
    split at h
    · cases h
    · rename_i im1 r1 e1
      obtain ⟨h1, h2, h3⟩ := protoP_ok e1
      obtain ⟨g1, g2, g3⟩ := ih h
      exact ⟨by omega, by omega, fun x => g3 (h3 x)⟩
theorem decodeP_ok {s : Bs} {im : ImD} (h : decodeP s = some im) : 1 ≤ im.protos.length ∧ im.protos.length ≤ 13 ∧ imLen im ≤ s.length ∧ ImOk im ∧ (im.protos.getD 0 pr0).np = 0 ∧ (im.protos.getD 0 pr0).nup = 0 := by
  unfold decodeP at h
  cases s with
  | nil => cases h
  | cons np r1 =>
    dsimp only at h
    split at h
    · cases h
    · split at h
      · cases h
      · rename_i im1 r2 e
        obtain ⟨h1, h2, h3⟩ := protosP_ok _ e
        split at h
        · cases h
        · split at h
          · rename_i hz
            cases h
            simp [imLen] at h1 h2
            refine ⟨by omega, by omega, by unfold imLen; simp; omega, h3 ⟨by simp, by simp, by simp, by simp, ⟨by simp, by simp⟩⟩, hz⟩
          · cases h
theorem globL_ok {K : Cx} : ∀ (l : List Nat), (∀ b ∈ l, 1 ≤ b ∧ b ≤ 11) → ∀ t : TabD, TFit t → (∀ e ∈ t.order, VOk K e.1 ∧ VOk K e.2) → TFit (globL l t) ∧ ∀ e ∈ (globL l t).order, VOk K e.1 ∧ VOk K e.2 := by
  intro l
  induction l with
  | nil => intro _ t h o; exact ⟨h, o⟩
  | cons b r ih =>
    intro hb t h o
    unfold globL
    obtain ⟨b1, b2⟩ := hb b (by simp)
    have hk : VOk K (strV (builtinN b)) := VOk.str K (by have := builtin_len b; omega)
    have hv : VOk K ⟨6, b, []⟩ := ⟨by simp [wellV, b1, b2], by dsimp only; omega, (fun e => by cases e), (fun e => by cases e), (fun e => by cases e), (fun e => by cases e)⟩
    obtain ⟨f2, o2⟩ := h.put (strV (builtinN b)) ⟨6, b, []⟩ (fun _ => hk.b)
    refine ih (fun x hx => hb x (by simp [hx])) _ f2 fun e he => ?_
    rcases o2 e he with x | ⟨_, _, e2, ⟨y, e3⟩ | e3⟩
    · exact o e x
    · rw [e2]; exact ⟨(o _ e3).1, hv⟩
    · rw [e2, e3]; exact ⟨hk.oneV, hv⟩
theorem globL_ck : ∀ (l : List Nat) (t : TabD), TFit t → TCk t → TCk (globL l t) := by
  intro l
  induction l with
  | nil => intro t _ h; exact h
  | cons b r ih =>
    intro t h k
    unfold globL
    exact ih _ (h.put (strV (builtinN b)) ⟨6, b, []⟩ (fun e => by cases e)).1 (k.put h (strV (builtinN b)) ⟨6, b, []⟩ (fun e => by cases e))
def K0 (im : ImD) : Cx := ⟨1, 1, 1, fun c => ((loadM im).proto c).ns, fun c => ((loadM im).proto c).nc⟩
theorem load_ok {s : Bs} {im : ImD} (hl : s.length ≤ 32768) (h : decodeP s = some im) : Slp (K0 im) (loadM im) := by
  obtain ⟨h1, h2, h3, h4, h5, h6⟩ := decodeP_ok h
  have hp0 : im.protos[0]? = some (im.protos.getD 0 pr0) := by
    rw [List.getD_eq_getElem?_getD, List.getElem?_eq_getElem (show 0 < im.protos.length by omega)]; rfl
  unfold imLen at h3
  have G := globL_ok (K := K0 im) [1, 2, 3, 4, 5, 6, 7, 8, 9, 10, 11] (by simp) tab0 ⟨by simp [tab0], by simp [tab0], by simp [tab0], by simp [tab0], by simp [tab0], by simp [tab0], by simp [tab0], by simp [tab0], by simp [tab0], by simp [tab0]⟩ (by simp [tab0])
  refine ⟨⟨rfl, rfl, rfl, fun _ _ => rfl, fun _ _ => rfl, ⟨h1, h2, h4.pr, by simp only [loadM]; omega, by simp only [loadM]; omega, by simp only [loadM]; omega, h4.ds, h4.ks, h4.cs, h4.ti⟩, fun c hc => ?_, Nat.le_refl _, by simp [K0], by simp [loadM], by simp [loadM], by simp [loadM], by simp [loadM], Nat.le_refl _, by simp [K0], fun i t hi => ?_, by simp [loadM], Nat.le_refl _, by simp [K0], fun t ht => ?_, fun t ht => ?_⟩, ⟨by simp [loadM], fun j q hj => ?_, ?_⟩, fun j u hu => ?_⟩
  · simp [loadM] at hc
    rw [hc]
    exact ⟨h1, h6.symm, by simp [cl0]⟩
  · simp only [loadM] at hi
    have hi0 : i = 0 := by
      have := (List.getElem?_eq_some_iff.1 hi).1
      simpa using this
    subst hi0
    simp at hi
    rw [← hi]
    exact ⟨by simp [K0], by simp, by simp, ⟨by simp, by simp, by simp, by simp, by simp, by simp, by simp⟩, ⟨by simp, by simp⟩, fun _ => rfl, by simp⟩
  · simp [loadM] at ht
    rw [ht]
    exact G
  · simp [loadM] at ht
    rw [ht]
    exact globL_ck _ _ ⟨by simp [tab0], by simp [tab0], by simp [tab0], by simp [tab0], by simp [tab0], by simp [tab0], by simp [tab0], by simp [tab0], by simp [tab0], by simp [tab0]⟩ TCk.nil
  · simp only [loadM] at hj
    have hj0 : j = 0 := by
      have := (List.getElem?_eq_some_iff.1 hj).1
      simpa using this
    subst hj0
    simp at hj
    rw [← hj]
    rfl
  · rfl
  · simp only [loadM] at hu
    have hi0 : j = 0 := by
      have := (List.getElem?_eq_some_iff.1 hu).1
      simpa using this
    subst hi0
    simp at hu
    rw [← hu]
    exact ⟨by simp, room_nil rfl⟩
/-- every run has an answer -/
theorem run_ends (s : Bs) (A : Int) : ∃ n a, runN n s A = some a := by
  by_cases hl : s.length > 32768
  · have e : loadP s = .inl 1 := by unfold loadP; rw [if_pos hl]
    exact ⟨0, _, by unfold runN; rw [e]⟩
  · cases hd : decodeP s with
    | none =>
      have e : loadP s = .inl 11 := by unfold loadP; rw [if_neg hl, hd]
      exact ⟨0, _, by unfold runN; rw [e]⟩
    | some im =>
      have e : loadP s = .inr (loadM im) := by unfold loadP; rw [if_neg hl, hd]
      have S := load_ok (by omega) hd
      obtain ⟨n, r, e2, P⟩ := co_ok A.toNat (i := 0) (t := ⟨1, 0, [], [], []⟩) (a := nilV) (b := nilV) (s := 0) S rfl (.inl rfl) (VOk.nil _) (VOk.nil _)
      obtain ⟨rb, fu, m1, st⟩ := r
      unfold runN
      rw [e]
      by_cases hh : rb.how = 3
      · exact ⟨n, _, by dsimp only; rw [e2]; dsimp only; rw [if_pos hh]⟩
      · exact ⟨n, _, by dsimp only; rw [e2]; dsimp only; rw [if_neg hh]⟩
theorem run_det {n N : Nat} {s : Bs} {A : Int} {a b : AnD} (h : runN n s A = some a) (h' : runN N s A = some b) : a = b := by
  unfold runN at h h'
  cases hl : loadP s with
  | inl e => rw [hl] at h h'; cases h; cases h'; rfl
  | inr m =>
    rw [hl] at h h'
    dsimp only at h h'
    cases h1 : coP n 0 nilV nilV A.toNat m 0 with
    | none => rw [h1] at h; cases h
    | some r =>
      cases h2 : coP N 0 nilV nilV A.toNat m 0 with
      | none => rw [h2] at h'; cases h'
      | some r' =>
        have := coP_det h1 h2
        subst this
        rw [h1] at h
        rw [h2] at h'
        exact Option.some.inj (h.symm.trans h')
/-- what the third theorem asks of a run, in plain words -/
structure Kept (s : Bs) (A : Int) (a : AnD) : Prop where
  e : a.e = 0 ∨ a.e = 12 ∨ a.e = 9 ∨ a.e = 8 ∨ a.e = 10 ∨ a.e = 11
  t : (a.e = 0 ∨ a.e = 12) ↔ a.t ≠ [45]
  t0 : a.t ≠ []
  m : a.m < 5
  n : (a.n : Int) ≤ max A 0
  z : A ≤ 0 → a.n = 0 ∧ a.m = 0 ∧ a.s = []
  f : a.e = 9 → a.n = 0 ∧ ∀ N b, runN N s (A + 1) = some b → 0 < A → a.m ≤ b.m ∧ a.s <+: b.s
  g : a.e ≠ 9 → 0 < A → ∃ N, runN N s (A + 1) = some { a with n := a.n + 1 }
theorem showV_head (v : Vl) : ∃ c r, showV v = c :: r ∧ c ≠ 45 := by
  unfold showV
  split
  · exact ⟨115, _, rfl, by decide⟩
  · split
    · exact ⟨118, _, rfl, by decide⟩
    · exact ⟨118, _, rfl, by decide⟩
theorem run_kept {n : Nat} {s : Bs} {A : Int} {a : AnD} {m : VMD} (hl : loadP s = .inr m) (h : runN n s A = some a) : Kept s A a := by
  have hs : s.length ≤ 32768 ∧ ∃ im, decodeP s = some im ∧ m = loadM im := by
    unfold loadP at hl
    split at hl
    · cases hl
    · split at hl
      · cases hl
      · rename_i im hd
        cases hl
        exact ⟨by omega, im, hd, rfl⟩
  obtain ⟨hsl, im, hd, rfl⟩ := hs
  have S := load_ok hsl hd
  have hrun := h
  unfold runN at h
  rw [hl] at h
  dsimp only at h
  cases h1 : coP n 0 nilV nilV A.toNat (loadM im) 0 with
  | none => rw [h1] at h; cases h
  | some r =>
    obtain ⟨N, r', e2, P⟩ := co_ok A.toNat (i := 0) (t := ⟨1, 0, [], [], []⟩) (a := nilV) (b := nilV) (s := 0) S rfl (.inl rfl) (VOk.nil _) (VOk.nil _)
    have := coP_det h1 e2
    subst this
    obtain ⟨rb, fu, m1, st⟩ := r
    rw [h1] at h
    dsimp only at h
    have hfall := coP_fall h1
    have hbs := P.bs
    obtain ⟨K', l, V, _⟩ := P.vi
    dsimp only at hfall hbs V
    have hbusy : busy (loadM im) = 0 := by simp [busy, loadM]
    have hst0 : ((loadM im).th 0).st = 1 := rfl
    rw [hbusy, hst0] at hbs
    have hmax : busy m1 ≤ 5 := by
      unfold busy
      have h1 := List.countP_le_length (p := fun t : ThD => decide (t.st ≠ 1)) (l := m1.ths)
      have h2 := V.kh
      have h3 := V.hn
      omega
    have hm5 : st < 5 := by simp at hbs; omega
    have hz : A ≤ 0 → fu = 0 ∧ st = 0 ∧ m1.out = [] := by
      intro hA
      have e0 : A.toNat = 0 := by omega
      rw [e0] at h1 hfall
      obtain ⟨q1, q2⟩ := coP_still h1
      exact ⟨by omega, q2, q1⟩
    have hA1 : 0 < A → (A + 1).toNat = A.toNat + 1 := by omega
    have hnx : ∀ {Q : BackD × Nat × VMD × Nat → AnD}, True := fun {_} => trivial
    by_cases hh : rb.how = 3
    · rw [if_pos hh] at h
      cases h
      have he := P.er hh
      dsimp only at he
      refine ⟨by dsimp only; omega, ⟨fun x => by dsimp only at x; omega, fun x => (x rfl).elim⟩, by simp, hm5, by dsimp only; omega, fun hA => hz hA, fun h9 => ?_, fun h9 hA => ?_⟩
      · dsimp only at h9
        obtain ⟨q1, q2⟩ := coP_cut 1 h1 ⟨hh, h9⟩
        refine ⟨q1, fun N b hb hA => ?_⟩
        unfold runN at hb
        rw [hl] at hb
        dsimp only at hb
        rw [hA1 hA] at hb
        cases h2 : coP N 0 nilV nilV (A.toNat + 1) (loadM im) 0 with
        | none => rw [h2] at hb; cases hb
        | some r2 =>
          obtain ⟨rb2, fu2, m2, st2⟩ := r2
          have q3 := q2 N _ h2
          rw [h2] at hb
          dsimp only at hb q3
          split at hb <;> (cases hb; exact ⟨q3.2, q3.1⟩)
      · dsimp only at h9
        have q := coP_more 1 h1 (fun x => h9 x.2)
        refine ⟨n, ?_⟩
        unfold runN
        rw [hl]
        dsimp only
        rw [hA1 hA, q]
        dsimp only
        rw [if_pos hh]
    · rw [if_neg hh] at h
      cases h
      have hw := P.hw
      dsimp only at hw
      obtain ⟨c, w, ev, hc⟩ := showV_head rb.v
      have hne : showV rb.v ≠ [45] := by
        rw [ev]
        intro x
        exact hc (List.cons.inj x).1
      have he : (if rb.how = 2 then 12 else 0) = 0 ∨ (if rb.how = 2 then 12 else 0) = 12 := by split <;> simp
      refine ⟨by dsimp only; omega, ⟨fun _ => hne, fun _ => he⟩, by dsimp only; rw [ev]; simp, hm5, by dsimp only; omega, fun hA => hz hA, fun h9 => ?_, fun h9 hA => ?_⟩
      · dsimp only at h9
        omega
      · have q := coP_more 1 h1 (fun x => hh x.1)
        refine ⟨n, ?_⟩
        unfold runN
        rw [hl]
        dsimp only
        rw [hA1 hA, q]
        dsimp only
        rw [if_neg hh]
end Go.Proofs.Qxb6500574aGreatDoor
