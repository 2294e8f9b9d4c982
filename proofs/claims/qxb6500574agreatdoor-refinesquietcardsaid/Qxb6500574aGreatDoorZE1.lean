/-
  moon: WHAT THE WALKS ASK OF THE INTERPRETER'S STATE, out of what holds at every step. No walk.
-/
import Derived.Test.Qxb6500574aGreatDoorZC27
namespace Go.Proofs.Qxb6500574aGreatDoor
open Go Go.RowKit
set_option linter.unusedVariables false
set_option linter.unusedSimpArgs false
theorem ret_ft : ∀ {ts : List TkD} {q : TkD} {r : List TkD}, retT ts = some (q, r) → 1 ≤ ft ts
  | [], _, _, z => by cases z
  | k :: ts, q, r, z => by
    unfold retT at z
    rw [ft_cons]
    by_cases h3 : k.k = 3
    · rw [if_pos h3]; omega
    · rw [if_neg h3] at z ⊢
      exact ret_ft z
section
variable {N : List Nd} {root : Nat} {M : MD} {k : TkD} {r : List TkD}
theorem NZ.nds (Z : NZ N) : NdsOk N :=
  ⟨by have := Z.l; omega, Z.k.n1, fun n hn => by have := (Z.k.all n hn).1; omega, fun n hn => by have := (Z.k.all n hn).2.1; omega, fun n hn => by have := (Z.k.all n hn).2.2.1; omega, fun n hn => by
    rcases (Z.k.all n hn).2.2.2 with h | h
    · rw [h]; exact Z.k.n1
    · exact h.2⟩
/-- the state whose top task was taken -/
abbrev MD.cut (M : MD) (r : List TkD) : MD := M.upT fun t => { t with tasks := r }
theorem cut_c (hc : M.cur < M.ths.length) (r : List TkD) : (M.cut r).cur < (M.cut r).ths.length := by rw [upT_len]; exact hc
theorem cut_th (hc : M.cur < M.ths.length) (r : List TkD) : (M.cut r).th = { M.th with tasks := r } := upT_th hc _
theorem cutp_th (hc : M.cur < M.ths.length) (r : List TkD) (j : Nat) : ((M.cut r).pops j).th = { M.th with tasks := r, vals := M.th.vals.take (M.th.vals.length - j) } := by
  rw [th_pops (cut_c hc r), cut_th hc]
theorem MA.hk (h : MA N root M) (hk : M.th.tasks = k :: r) (h3 : k.k ≠ 3) (h4 : k.k ≠ 4) : (ar k).1 ≤ M.th.vals.length ∧ Ext M.tabs M.th.vals k M.th.vals.length M.th.vals.length ∧ HK M.tabs M.th.vals r (M.th.vals.length - (ar k).1 + (ar k).2) (M.th.vals.length - (ar k).1) := by
  have g := h.i.cu
  rw [hk] at g
  unfold HK at g
  rw [if_neg h3, if_neg h4] at g
  rw [Nat.min_eq_right (by omega)] at g
  exact g
theorem MA.st (h : MA N root M) (Z : NZ N) : ∀ c l, M.stack = c :: l → c ≠ M.cur ∧ c < M.ths.length ∧ (M.ths.getD c mt0).vals.length ≤ 999999 := fun c l hs => by
  have nd := h.i.nd
  rw [hs] at nd
  refine ⟨fun e => (List.nodup_cons.1 nd).1 (by rw [e]; simp), (h.i.wt c (by rw [hs]; simp)).2, ?_⟩
  have := h.vo Z c
  omega
theorem MA.ftr (h : MA N root M) (hk : M.th.tasks = k :: r) : ft r ≤ M.th.depth := by
  have d := h.v.me.d
  rw [hk, ft_cons] at d
  omega
/-- a throw behind j operands -/
theorem MA.thr (h : MA N root M) (Z : NZ N) (hk : M.th.tasks = k :: r) (h3 : k.k ≠ 3) (h4 : k.k ≠ 4) {j : Nat} (hj : j ≤ (ar k).1) : ThrOk ((M.cut r).pops j) := by
  obtain ⟨g1, g2, g3⟩ := h.hk hk h3 h4
  have th := cutp_th h.i.cl r j
  have tl := h.tl Z
  have vl := h.vl Z
  have d8 := h.v.me.d8
  rw [hk] at tl
  simp only [List.length_cons] at tl
  refine ⟨c_pops (cut_c h.i.cl r) j, by rw [th]; show r.length ≤ _; omega, by rw [th]; simp; omega, by rw [th]; exact h.ftr hk, by rw [th]; show M.th.depth ≤ _; omega, fun r' x e d' z => ?_, fun c l hs => ?_⟩
  · rw [th] at z ⊢
    have := (g3.thr z).1
    simp
    omega
  · obtain ⟨a, b, c'⟩ := h.st Z c l hs
    refine ⟨a, by show c < ((M.cut r).pops j).ths.length; unfold MD.pops; rw [upT_len, upT_len]; exact b, ?_⟩
    have : ((M.cut r).pops j).ths.getD c mt0 = M.ths.getD c mt0 := by
      unfold MD.pops
      rw [upT_ne (show c ≠ (M.cut r).cur from a), upT_ne a]
    rw [this]
    exact c'
/-- a return behind j operands -/
theorem MA.retOk (h : MA N root M) (Z : NZ N) (hk : M.th.tasks = k :: r) (h3 : k.k ≠ 3) (h4 : k.k ≠ 4) {j : Nat} (hj : j ≤ (ar k).1) : RetOk ((M.cut r).pops j) := by
  obtain ⟨g1, g2, g3⟩ := h.hk hk h3 h4
  have th := cutp_th h.i.cl r j
  have K := h.thr Z hk h3 h4 hj
  refine ⟨K.c, K.tl, K.vl, fun q l z => ?_, K.d8, fun q l z => ?_, K.s⟩
  · rw [th] at z ⊢
    have a : 1 ≤ ft r := ret_ft z
    have b := h.ftr hk
    show 1 ≤ M.th.depth
    omega
  · rw [th] at z ⊢
    have := (g3.ret z).1
    simp
    omega
/-- the foot itself -/
theorem MA.ret0 (h : MA N root M) (Z : NZ N) : RetOk M := by
  have tl := h.tl Z
  have vl := h.vl Z
  have d8 := h.v.me.d8
  have d := h.v.me.d
  refine ⟨h.i.cl, by omega, by omega, fun q l z => ?_, by omega, fun q l z => ?_, h.st Z⟩
  · have := ret_ft z
    omega
  · exact (h.i.cu.ret z).1
theorem MA.refOk (h : MA N root M) : RefOk M := ⟨fun T hT q hq i hi => (h.u.th T hT).k q hq i hi, h.u.cl, fun i e hi => (h.u.en i e hi).2⟩
theorem MA.refC (h : MA N root M) (hk : M.th.tasks = k :: r) : RefOk (M.cut r) := h.refOk.upT h.i.cl (fun q hq i hi => h.refOk.th h.i.cl q (by rw [hk]; exact List.mem_cons_of_mem _ hq) i hi)
theorem MA.refP (h : MA N root M) (hk : M.th.tasks = k :: r) (j : Nat) : RefOk ((M.cut r).pops j) := (h.refC hk).upT (cut_c h.i.cl r) (fun q hq i hi => (h.refC hk).th (cut_c h.i.cl r) q hq i hi)
theorem MA.uC (h : MA N root M) (hk : M.th.tasks = k :: r) : MU (M.cut r) := h.u.tasks (fun q hq => by rw [hk]; exact List.mem_cons_of_mem _ hq)
theorem MA.ti (h : MA N root M) : ∀ t ∈ M.tabs, TTi t := fun t ht => (h.u.tb t ht).ti
theorem MA.tk (h : MA N root M) (hk : M.th.tasks = k :: r) : TkX N k ∧ Tw N k ∧ ∀ i, k.e = some i → i < M.envs.length :=
  ⟨h.v.me.k k (by rw [hk]; simp), h.w.t.th k (by rw [hk]; simp), fun i hi => h.u.me.k k (by rw [hk]; simp) i hi⟩
theorem MA.skl (h : MA N root M) : M.stack.length ≤ 4 := by
  have nd := h.i.nd
  have h5 := h.u.h5
  have hb : ∀ c ∈ M.cur :: M.stack, c < 5 := fun c hc => by
    rcases List.mem_cons.1 hc with rfl | hc
    · have := h.i.cl; omega
    · have := (h.i.wt c hc).2; omega
  have : (M.cur :: M.stack).length ≤ [0, 1, 2, 3, 4].length := nodup_len _ _ nd (fun c hc => by
    have := hb c hc
    have : c = 0 ∨ c = 1 ∨ c = 2 ∨ c = 3 ∨ c = 4 := by omega
    simp
    exact this)
  simp at this
  exact this
/-- a call -/
theorem MA.apOk (h : MA N root M) (Z : NZ N) (hk : M.th.tasks = k :: r) (h22 : k.k = 22) {f : Nat} (hf : M.fuel = f + 1) :
    ApOk N (({ (M.cut r) with fuel := f } : MD).pops (k.x + 1)) ((M.cut r).th.vals.getD ((M.cut r).th.vals.length - k.x - 1) nilV) ((M.cut r).th.vals.drop ((M.cut r).th.vals.length - k.x)) := by
  have a1 : (ar k).1 = k.x + 1 := by unfold ar; rw [h22]; rfl
  have x3 := (h.tk hk).1.x2 h22
  have K := h.thr Z hk (by omega) (by omega) (j := k.x + 1) (by omega)
  have th := cut_th h.i.cl r
  have thp := cutp_th h.i.cl r (k.x + 1)
  have tl := h.tl Z
  rw [hk] at tl
  simp only [List.length_cons] at tl
  have vl := h.vl Z
  have d8 := h.v.me.d8
  have hu : MU (({ (M.cut r) with fuel := f } : MD).pops (k.x + 1)) := MU.pops ((h.uC hk).to (M' := { (M.cut r) with fuel := f }) rfl rfl rfl rfl rfl (by show f ≤ M.fuel; omega) rfl) _
  have hvv : ∀ v ∈ M.th.vals, VM (({ (M.cut r) with fuel := f } : MD).pops (k.x + 1)) v := fun v hv => by
    have := h.u.me.v v hv
    unfold VM MD.pops
    rw [upT_len]
    show VKn _ _ ((M.cut r).ths.length) v
    rw [upT_len]
    exact this
  have hgd : ∀ c, c ≠ M.cur → (({ (M.cut r) with fuel := f } : MD).pops (k.x + 1)).ths.getD c mt0 = M.ths.getD c mt0 := fun c hc => by
    have e1 : (({ (M.cut r) with fuel := f } : MD).pops (k.x + 1)).ths.getD c mt0 = ((M.cut r).pops (k.x + 1)).ths.getD c mt0 := rfl
    rw [e1]
    unfold MD.pops
    rw [upT_ne (show c ≠ (M.cut r).cur from hc), upT_ne hc]
  have hgc : (({ (M.cut r) with fuel := f } : MD).pops (k.x + 1)).ths.getD M.cur mt0 = { M.th with tasks := r, vals := M.th.vals.take (M.th.vals.length - (k.x + 1)) } := thp
  refine ⟨⟨K.c, K.tl, K.vl, K.d, K.d8, K.x, K.s⟩, ?_, hu, ?_, ?_, ?_, ?_, ?_, ?_, Z.nds, fun q hq => ?_, fun c => ?_, fun c => ?_, h.skl, fun c hc => ?_, fun hc => ?_⟩
  · have R := h.refP hk (k.x + 1)
    exact ⟨R.t, R.c, R.u⟩
  · show ((M.cut r).pops (k.x + 1)).th.tasks.length ≤ 900000
    rw [thp]
    show r.length ≤ _
    omega
  · show ((M.cut r).pops (k.x + 1)).th.vals.length ≤ 900000
    rw [thp]
    simp
    omega
  · show ((M.cut r).pops (k.x + 1)).th.depth ≤ 8
    rw [thp]
    exact d8
  · rw [th]
    exact vk_getD hvv _
  · rw [th]
    exact fun v hv => hvv v (List.mem_of_mem_drop hv)
  · rw [th]
    simp
    omega
  · rcases h.w.c q hq with z | ⟨z1, z2⟩
    · rw [z, Z.z]
      exact ⟨Z.k.n1, [], rfl, by simp⟩
    · obtain ⟨l, l2, c1, c2, _⟩ := z1.out.k20 z2
      refine ⟨?_, l, c1, c2⟩
      obtain ⟨lo, a, b, w, kk, g⟩ := z1
      cases kk with
      | zero => exact g.elim
      | succ kk => exact g.2.1
  · by_cases e : c = M.cur
    · rw [e, hgc]
      simp
      omega
    · rw [hgd c e]
      have := h.vo Z c
      omega
  · by_cases e : c = M.cur
    · rw [e, hgc]
      exact ⟨by show r.length ≤ _; omega, d8⟩
    · rw [hgd c e]
      rw [List.getD_eq_getElem?_getD]
      cases hq : M.ths[c]? with
      | none => exact ⟨Nat.zero_le _, Nat.zero_le _⟩
      | some T =>
        have tv := h.v T (List.mem_of_getElem? hq)
        have := tv.tl Z
        exact ⟨by show T.tasks.length ≤ _; omega, tv.d8⟩
  · have nd := h.i.nd
    refine ⟨fun e => (List.nodup_cons.1 nd).1 (by rw [← (show c = M.cur from e)]; exact hc), ?_⟩
    show c < (({ (M.cut r) with fuel := f } : MD).pops (k.x + 1)).ths.length
    unfold MD.pops
    rw [upT_len]
    show c < (M.cut r).ths.length
    rw [upT_len]
    exact (h.i.wt c hc).2
  · intro e
    have la := h.i.la
    have e : M.stack = [] := e
    rw [e] at la
    have : M.cur = 0 := by simpa using la
    exact hc this
end
end Go.Proofs.Qxb6500574aGreatDoor
