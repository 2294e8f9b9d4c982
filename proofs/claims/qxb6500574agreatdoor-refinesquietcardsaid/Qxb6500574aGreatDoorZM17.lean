/-
  moon: INSTRUCTIONS, one by one: variables, tables, jumps. Plain; no memory, no walk.
-/
import Derived.Test.Qxb6500574aGreatDoorZM16
namespace Go.Proofs.Qxb6500574aGreatDoor
set_option linter.unusedVariables false
set_option linter.unusedSimpArgs false
section
variable {N : List Nd} {root : Nat} {D : CmD} {S : Nat → Nat → Ty → Prop} {K : Cx} {m m1 : VMD} {fu s fu' s' : Nat} {M M' : MD} {P P' : List (Option Lc)} {i c : Nat} {t t' : ThD} {T T' : MTh} {f f' : FmD} {fs : List FmD} {F F' : FrIZ} {k : TkD} {tl : List TkD}
/-- a constant -/
theorem Op.cst (h : Op N root D S K m fu s M P i t T f fs F) {x : Nat} {v : Vl} (hx : (D.fn (gO m f)).consts[x]? = some v) : m.consts.getD ((m.proto f.clo).k + x) nilV = v := by
  obtain ⟨a, r⟩ := h.rt.run
  have X := r.fx
  rw [h.code] at X
  have hl : x < (fxD D (gO m f)).consts.length := (List.getElem?_eq_some_iff.1 hx).1
  have e := X.ks x (by rw [← X.nk]; exact hl)
  rw [← e]
  show (D.fn (gO m f)).consts.getD x nilV = v
  rw [List.getD_eq_getElem?_getD, hx]
  rfl
theorem set_self {α : Type} {l : List α} {i : Nat} {a : α} (h : l[i]? = some a) : l.set i a = l := by
  have hl := (List.getElem?_eq_some_iff.1 h).1
  refine List.ext_getElem? fun j => ?_
  by_cases e : i = j
  · subst e; rw [List.getElem?_set_self hl, h]
  · rw [List.getElem?_set_ne e]
/-- A TASK IS UNFOLDED: no round -/
theorem Op.exp (h : Op N root D S K m fu s M P i t T f fs F) (ht : T.tasks = k :: tl) (h3 : k.k ≠ 3) {new : List TkD} (hnew : ∀ t ∈ new, t.k ≠ 3) (cb : Cb ⟨N, D, gO m f, F.r, M.envs, F.lc, F.low.length⟩ (new ++ tl) false f.pc (oO D m t f) F.L F.lf)
    (it : Itm (t.stack.drop (f.base + (D.fn (gO m f)).nslots)) (new ++ tl) (oO D m t f) (oO D m t f)) : ∃ seg, Op N root D S K m fu s (M.st { T with tasks := new ++ tl }) P i t { T with tasks := new ++ tl } f fs { F with seg := seg } := by
  have hb : FrB (Zo N D m M P i t) f F (k :: tl) T.vals t.stack.length := by rw [← ht]; exact h.fo.toFrB
  obtain ⟨seg, e1, e2⟩ := hb.tail (ts := []) h3
  have W := h.rel.w i
  have R := (h.ops (fu' := fu) (s' := s) (tabs := m.tabs) (out := m.out) (ts := new ++ tl) (seg := new ++ seg) (vs := []) (pc := f.pc) (k := 0) (Nat.zero_le _) (by rw [e1, List.append_assoc]) (fun t ht => by rcases List.mem_append.1 ht with z | z; exact hnew t z; exact e2 t z) cb (by rw [show t.stack.take (t.stack.length - 0) ++ [] = t.stack by simp]; exact it)).rel
  have em : ({ m with ths := m.ths.set i { t with stack := t.stack.take (t.stack.length - 0) ++ [], frames := fs.reverse ++ [{ f with pc := f.pc }] }, tabs := m.tabs, out := m.out } : VMD) = m := by
    have : ({ t with stack := t.stack.take (t.stack.length - 0) ++ [], frames := fs.reverse ++ [{ f with pc := f.pc }] } : ThD) = t := by
      have hf : fs.reverse ++ [{ f with pc := f.pc }] = t.frames := h.fr.symm
      rw [hf]
      simp
    rw [this, set_self h.hi]
  have eM : ({ M.st { T with tasks := new ++ tl, vals := T.vals.take (T.vals.length - 0) ++ [] } with fuel := fu, first := s, tabs := m.tabs, out := m.out } : MD) = M.st { T with tasks := new ++ tl } := by
    rw [← W.fuel, ← W.first, ← W.tabs, ← W.out]
    simp [MD.st]
  rw [em, eM] at R
  have fo := h.fo
  refine ⟨new ++ seg, ⟨R, h.cu, h.hi, h.st4, by show (M.ths.set M.cur _)[i]? = _; rw [h.cu, List.getElem?_set_self (by rw [W.tl]; exact h.il)], h.tst, h.tfn, h.tdp, h.fr, ⟨⟨fo.ci, by rw [e1, List.append_assoc], fun t ht => by rcases List.mem_append.1 ht with z | z; exact hnew t z; exact e2 t z, fo.ret, fo.le, fo.lv, fo.pl⟩, cb, ?_, fo.ns, fo.fe, fo.ll, fo.vv, fo.pn⟩, h.lo, h.bo⟩, h.rt, h.rm⟩
  show Itm ((t.stack.take t.stack.length).drop (f.base + (D.fn (gO m f)).nslots)) (new ++ tl) (oO D m t f + 0) (oO D m t f)
  rw [List.take_length]
  exact it
/-- a value comes -/
theorem Op.lf1 (h : Op N root D S K m fu s M P i t T f fs F) (ht : T.tasks = k :: tl) (h3 : k.k ≠ 3) {op x : Nat} {r : List In} (hc : AtC (D.fn (gO m f)).code f.pc ((op, x) :: r)) (ho : op ≠ 21 ∧ op ≠ 22 ∧ op ≠ 23 ∧ op ≠ 24 ∧ op ≠ 26 ∧ op ≠ 27) {v : Vl}
    (hp : plainP m i op x = (.inr (), push m i [v])) (hM : M.step N root = M.st { T with tasks := tl, vals := T.vals ++ [v] })
    (cb : Cb ⟨N, D, gO m f, F.r, M.envs, F.lc, F.low.length⟩ tl false (f.pc + 1) (oO D m t f + 1) F.L F.lf)
    (it : Itm (t.stack.drop (f.base + (D.fn (gO m f)).nslots)) tl (oO D m t f + 1) (oO D m t f)) : PgZ N root D i M.stack s 1 m fu M := by
  rw [h.npu] at hp
  exact h.pp0 (new := []) (n := 0) ht h3 hc ho hp (Nat.zero_le _) (by simp) (by rw [hM]; simp) cb it
/-- a table is written: the value and what is below it go -/
theorem Op.store (h : Op N root D S K m fu s M P i t T f fs F) (ht : T.tasks = k :: tl) (h3 : k.k ≠ 3) {op x n hh : Nat} {kk vv : Vl} {r : List In} (hc : AtC (D.fn (gO m f)).code f.pc ((op, x) :: r)) (ho : op ≠ 21 ∧ op ≠ 22 ∧ op ≠ 23 ∧ op ≠ 24 ∧ op ≠ 26 ∧ op ≠ 27)
    (hp : plainP m i op x = storeP (pops m i n) hh kk vv) (hn : n ≤ oO D m t f) (hM : M.step N root = (M.st { T with tasks := tl, vals := T.vals.take (T.vals.length - n) }).setT ⟨4, hh, []⟩ kk vv)
    (cb : Cb ⟨N, D, gO m f, F.r, M.envs, F.lc, F.low.length⟩ tl false (f.pc + 1) (oO D m t f - n) F.L F.lf)
    (it : Itm (t.stack.drop (f.base + (D.fn (gO m f)).nslots)) tl (oO D m t f - n) (oO D m t f - n)) : PgZ N root D i M.stack s 1 m fu M := by
  unfold storeP at hp
  unfold MD.setT at hM
  simp (config := { decide := true }) only [if_true, if_false] at hM
  have et : (M.st { T with tasks := tl, vals := T.vals.take (T.vals.length - n) }).tabs = m.tabs := (h.rel.w i).tabs
  have et2 : (pops m i n).tabs = m.tabs := rfl
  rw [et] at hM
  rw [et2] at hp
  dsimp only at hp hM
  generalize (m.tabs.getD hh tab0).put kk vv = r at hp hM
  by_cases e8 : r.1 = 8
  · rw [if_pos e8] at hp hM
    exact h.ptrap hc ho hp rfl hM
  rw [if_neg e8] at hp hM
  by_cases e0 : r.1 ≠ 0
  · rw [if_pos e0] at hp hM
    rw [h.np] at hp
    simp only [List.append_nil] at hp
    exact h.pthr ht h3 hc ho hp hn (h.lowT hn) hM
  rw [if_neg e0] at hp hM
  rw [h.np] at hp
  exact h.pp (new := []) ht h3 hc ho (tabs := m.tabs.set hh r.2) hp hn (by simp) (by rw [hM]; simp) cb it
theorem Op.k10 (h : Op N root D S K m fu s M P i t T f fs F) (ht : T.tasks = k :: tl) (hk : k.k = 10) : PgZ N root D i M.stack s 1 m fu M := by
  have cb := h.cb ht
  unfold Cb at cb
  simp (config := { decide := true }) only [hk, if_true, if_false] at cb
  obtain ⟨c1, c2, c3⟩ := cb
  have it := h.it ht
  unfold Itm at it
  simp (config := { decide := true }) only [hk, if_true, if_false] at it
  have hM := h.step ht
  unfold stK at hM
  simp (config := { decide := true }) only [hk, if_true, if_false] at hM
  rw [h.top' (by omega), h.top' (by omega), h.top' (by omega), st_pops h.cl] at hM
  have e0 : oO D m t f - 3 = 0 := by omega
  by_cases z : (topV m i 2).t ≠ 4
  · unfold MD.setT at hM
    rw [if_pos z] at hM
    have hp : plainP m i 12 0 = (.inl (.inl (strV mIndex)), pops m i 3) := by unfold plainP; simp (config := { decide := true }) only [if_true, if_false, if_pos z]; rfl
    rw [h.np] at hp
    simp only [List.append_nil] at hp
    exact h.pthr ht (by omega) c2 (by decide) hp (by omega) (h.lowT (by omega)) hM
  · have hp : plainP m i 12 0 = storeP (pops m i 3) (topV m i 2).n (topV m i 1) (topV m i 0) := by unfold plainP; simp (config := { decide := true }) only [if_true, if_false, if_neg z]
    refine h.store ht (by omega) c2 (by decide) hp (by omega) ?_ (by rw [e0]; exact c3) (by rw [e0]; exact it)
    rw [hM]
    unfold MD.setT
    rw [if_neg z]
    simp (config := { decide := true }) only [if_true, if_false]
theorem Op.k26 (h : Op N root D S K m fu s M P i t T f fs F) (ht : T.tasks = k :: tl) (hk : k.k = 26 ∨ k.k = 27) : PgZ N root D i M.stack s 1 m fu M := by
  have cb := h.cb ht
  have h3 : k.k ≠ 3 := by omega
  have it := h.it ht
  obtain ⟨c1, c2, s2, c3, c4, c5, c6⟩ : 1 ≤ oO D m t f ∧ Chn M.envs (F.lf ++ F.lc) k.e ∧ ∃ s2, AtC (D.fn (gO m f)).code f.pc ((if (decide (k.k = 27)) then 24 else 23, f.pc + (1 + s2.length)) :: s2) ∧ ExSZ N (N.getD k.n nd0).b ∧ Lay N D 1 ((gO m f, F.L) :: F.r) (N.getD k.n nd0).b (f.pc + 1) s2 [] 0 0 ∧ Cb ⟨N, D, gO m f, F.r, M.envs, F.lc, F.low.length⟩ tl false (f.pc + 1 + s2.length) (oO D m t f) F.L F.lf := by
    unfold Cb at cb
    rcases hk with hk | hk <;> simp (config := { decide := true }) only [hk, if_true, if_false] at cb ⊢ <;> exact cb
  have it : Itm (t.stack.drop (f.base + (D.fn (gO m f)).nslots)) tl (oO D m t f) (oO D m t f - 1) := by
    unfold Itm at it
    rcases hk with hk | hk <;> simp (config := { decide := true }) only [hk, if_true, if_false] at it <;> rw [Nat.min_eq_right (by omega)] at it <;> exact it
  have hr := h.r23 c3 (by omega)
  have hM : M.step N root = if truthy (topV m i 0) = decide (k.k = 27) then M.st { T with tasks := tl } else M.st { T with tasks := ⟨2, (N.getD k.n nd0).b, 0, k.e⟩ :: tl, vals := T.vals.take (T.vals.length - 1) } := by
    have hM := h.step ht
    unfold stK at hM
    rcases hk with hk | hk
    · simp (config := { decide := true }) only [hk, if_true, if_false] at hM ⊢
      rw [h.top' (by omega), st_pops h.cl, st_todo h.cl] at hM
      rw [hM]
      by_cases z : truthy (topV m i 0)
      · rw [if_pos z, if_neg (by rw [z]; decide)]
        rfl
      · rw [if_neg z, if_pos (by simpa using z)]
    · simp (config := { decide := true }) only [hk, if_true, if_false] at hM ⊢
      rw [h.top' (by omega), st_pops h.cl, st_todo h.cl] at hM
      rw [hM]
      by_cases z : truthy (topV m i 0)
      · rw [if_pos z, if_pos (by rw [z]; rfl)]
      · rw [if_neg z, if_neg (by simpa using z)]
        rfl
  by_cases z : truthy (topV m i 0) = decide (k.k = 27)
  · rw [if_pos z] at hr hM
    refine h.fin0 (new := []) (n := 0) ht h3 hr (Nat.zero_le _) (by simp) (by rw [hM]; simp) ?_ (it.mono (by omega) (fun q hq => rfl))
    have e : f.pc + (1 + s2.length) = f.pc + 1 + s2.length := by omega
    rw [e]
    exact c6
  · rw [if_neg z] at hr hM
    have e1 : oO D m t f - 1 + 1 = oO D m t f := by omega
    refine h.fin0 (new := [⟨2, (N.getD k.n nd0).b, 0, k.e⟩]) (n := 1) ht h3 hr c1 (by simp) (by rw [hM]; simp) ?_ ?_
    · show Cb _ (_ :: tl) _ _ (oO D m t f - 1) _ _
      unfold Cb
      simp (config := { decide := true }) only [if_true, if_false]
      exact ⟨c2, .inl ⟨s2, ⟨c3.head.2, .inl ⟨rfl, .inr c4, c5⟩⟩, by rw [e1]; exact c6⟩⟩
    · show Itm _ (_ :: tl) (oO D m t f - 1) (oO D m t f - 1)
      unfold Itm
      simp (config := { decide := true }) only [if_true, if_false]
      rw [e1]
      exact it
/-- the items of a table -/
theorem Cb_items {X : FX} {L : List Bs} {lf : List Nat} {e : Option Nat} {n : Nat} {l : List Nat} {x p h : Nat} {s2 : List In} (hc : Chain X.N n l) (hl : ∀ y ∈ l, ExSZ X.N y) (hi : Items (Lay X.N X.D) ((X.f, L) :: X.r) l x p s2) (ha : AtC X.cd p s2) (he : X.env lf e) (hh : 1 ≤ h) (cb : Cb X tl false (p + s2.length) h L lf) : Cb X ((if n = 0 then [] else [⟨2, n, 0, e⟩, ⟨23, n, x + 1, e⟩]) ++ tl) false p h L lf := by
  cases l with
  | nil =>
    rw [if_pos (show n = 0 from hc)]
    have : s2 = [] := hi
    subst this
    exact cb
  | cons y l =>
    obtain ⟨rfl, hy, hc2⟩ := hc
    obtain ⟨s1, s3, rfl, h1, h2⟩ := hi
    rw [if_neg hy]
    obtain ⟨a1, a2⟩ := ha.split (.inr trivial)
    show Cb X (_ :: _ :: tl) false p h L lf
    unfold Cb
    simp (config := { decide := true }) only [if_true, if_false]
    refine ⟨he, .inl ⟨s1, ⟨a1, .inl ⟨rfl, .inr (hl n (by simp)), h1⟩⟩, ?_⟩⟩
    unfold Cb
    simp (config := { decide := true }) only [if_true, if_false]
    refine ⟨by omega, he, l, s3, a2, hc2, fun y hy => hl y (by simp [hy]), h2, ?_⟩
    have e1 : p + (s1 ++ (13, x + 1) :: s3).length = p + s1.length + 1 + s3.length := by simp; omega
    rw [e1] at cb
    rw [show h + 1 - 1 = h by omega]
    exact cb
theorem Itm_items {ops : List Vl} {e : Option Nat} {n x h w : Nat} (hh : 1 ≤ h) (ht : (ops.getD (h - 1) nilV).t = 4) (hw : h ≤ w) (it : Itm ops tl h h) : Itm ops ((if n = 0 then [] else [⟨2, n, 0, e⟩, ⟨23, n, x + 1, e⟩]) ++ tl) h w := by
  by_cases hn : n = 0
  · rw [if_pos hn]
    exact it.mono hw (fun _ _ => rfl)
  · rw [if_neg hn]
    show Itm ops (_ :: _ :: tl) h w
    unfold Itm
    simp (config := { decide := true }) only [if_true, if_false]
    unfold Itm
    simp (config := { decide := true }) only [if_true, if_false]
    refine ⟨by omega, by omega, by rw [show h + 1 - 2 = h - 1 by omega]; exact ht, ?_⟩
    rw [show h + 1 - 1 = h by omega]
    exact it.mono (by omega) (fun _ _ => rfl)
/-- arguments -/
theorem Cb_args {X : FX} {L : List Bs} {lf : List Nat} {e : Option Nat} (he : X.env lf e) : ∀ {l : List Nat} {p h : Nat} {s2 : List In}, (∀ y ∈ l, ExSZ X.N y) → Exprs (Lay X.N X.D) ((X.f, L) :: X.r) l p s2 → AtC X.cd p s2 → Cb X tl false (p + s2.length) (h + l.length) L lf → Cb X (l.map (fun x => (⟨2, x, 0, e⟩ : TkD)) ++ tl) false p h L lf
  | [], p, h, s2, _, hx, _, cb => by
    have : s2 = [] := hx
    subst this
    exact cb
  | y :: l, p, h, s2, hl, hx, ha, cb => by
    obtain ⟨s1, s3, rfl, h1, h2⟩ := hx
    obtain ⟨a1, a2⟩ := ha.split (.inr trivial)
    show Cb X (_ :: (l.map _ ++ tl)) false p h L lf
    unfold Cb
    simp (config := { decide := true }) only [if_true, if_false]
    refine ⟨he, .inl ⟨s1, ⟨a1, .inl ⟨rfl, .inr (hl y (by simp)), h1⟩⟩, ?_⟩⟩
    refine Cb_args he (fun z hz => hl z (by simp [hz])) h2 a2 ?_
    have e1 : p + (s1 ++ s3).length = p + s1.length + s3.length := by simp; omega
    have e2 : h + (y :: l).length = h + 1 + l.length := by simp; omega
    rw [e1, e2] at cb
    exact cb
theorem Itm_args {ops : List Vl} {e : Option Nat} {w : Nat} : ∀ {l : List Nat} {h : Nat}, Itm ops tl (h + l.length) w → Itm ops (l.map (fun x => (⟨2, x, 0, e⟩ : TkD)) ++ tl) h w
  | [], h, it => it
  | y :: l, h, it => by
    show Itm ops (_ :: (l.map _ ++ tl)) h w
    unfold Itm
    simp (config := { decide := true }) only [if_true, if_false]
    refine Itm_args ?_
    have e2 : h + (y :: l).length = h + 1 + l.length := by simp; omega
    rw [e2] at it
    exact it
/-- an item is laid into its table -/
theorem Op.k23 (h : Op N root D S K m fu s M P i t T f fs F) (ht : T.tasks = k :: tl) (hk : k.k = 23) : PgZ N root D i M.stack s 1 m fu M := by
  have cb := h.cb ht
  unfold Cb at cb
  simp (config := { decide := true }) only [hk, if_true, if_false] at cb
  obtain ⟨c1, c2, l, s2, c3, c4, c5, c6, c7⟩ := cb
  have it := h.it ht
  unfold Itm at it
  simp (config := { decide := true }) only [hk, if_true, if_false] at it
  obtain ⟨i1, i2, i3, i4⟩ := it
  rw [Nat.min_eq_right (by omega)] at i4
  have ho : oO D m t f = t.stack.length - (f.base + (D.fn (gO m f)).nslots) := rfl
  have hle := h.le
  have htop : (topV m i 1).t = 4 := by
    unfold topV
    rw [th_get h.hi, ← i3]
    congr 1
    rw [List.getD_eq_getElem?_getD, List.getD_eq_getElem?_getD, List.getElem?_drop]
    congr 2
    omega
  have hM := h.step ht
  unfold stK at hM
  simp (config := { decide := true }) only [hk, if_true, if_false] at hM
  rw [h.top' (by omega), h.top' (by omega), st_pops h.cl] at hM
  have hz : ¬ ((topV m i 1).t ≠ 4) := fun z => z htop
  have hp : plainP m i 13 k.x = storeP (pops m i 1) (topV m i 1).n (numV (fromIntN k.x)) (topV m i 0) := by unfold plainP; simp (config := { decide := true }) only [if_true, if_false, if_neg hz]
  unfold storeP at hp
  unfold MD.setT at hM
  rw [if_neg hz] at hM
  have et : (M.st { T with tasks := tl, vals := T.vals.take (T.vals.length - 1) }).tabs = m.tabs := (h.rel.w i).tabs
  have et2 : (pops m i 1).tabs = m.tabs := rfl
  rw [et] at hM
  rw [et2] at hp
  dsimp only at hp hM
  have hwell : ∀ v, VOk K v → wellV v = true := fun v hv => hv.w
  have h08 : ((m.tabs.getD (topV m i 1).n tab0).put (numV (fromIntN k.x)) (topV m i 0)).1 = 0 ∨ ((m.tabs.getD (topV m i 1).n tab0).put (numV (fromIntN k.x)) (topV m i 0)).1 = 8 := by
    have v1 : VOk K (numV (fromIntN k.x)) := VOk.num K (fromInt_num _).1 (fromInt_num _).2
    have v2 := topV_ok h.rt.at_.vi h.hi 0
    unfold TabD.put
    rw [hwell _ v1, hwell _ v2]
    simp only [Bool.not_true, Bool.or_self, Bool.false_eq_true, if_false]
    rw [if_neg (by simp [numV]), if_neg (by rw [show (numV (fromIntN k.x)).n = fromIntN k.x from rfl, fromInt_ok]; simp)]
    split
    · exact .inl rfl
    · split
      · exact .inl rfl
      · split
        · exact .inr rfl
        · split
          · exact .inl rfl
          · exact .inl rfl
  generalize (m.tabs.getD (topV m i 1).n tab0).put (numV (fromIntN k.x)) (topV m i 0) = r at hp hM h08
  have h3 : k.k ≠ 3 := by omega
  rcases h08 with e0 | e8
  · have e8 : ¬ (r.1 = 8) := by omega
    have e0' : ¬ (r.1 ≠ 0) := fun z => z e0
    rw [if_neg e8, if_neg e0'] at hp hM
    rw [h.np] at hp
    have hd : ({ (M.st { T with tasks := tl, vals := T.vals.take (T.vals.length - 1) }) with tabs := m.tabs.set (topV m i 1).n r.2 } : MD).done = none := (h.rel.w i).done
    rw [if_neg (by rw [hd]; simp)] at hM
    refine h.pp (new := if (N.getD k.n nd0).next = 0 then [] else [⟨2, (N.getD k.n nd0).next, 0, k.e⟩, ⟨23, (N.getD k.n nd0).next, k.x + 1, k.e⟩]) ht h3 c3 (by decide) (tabs := m.tabs.set (topV m i 1).n r.2) hp (by omega) (fun t ht => ?_) ?_ ?_ ?_
    · split at ht
      · cases ht
      · rcases List.mem_cons.1 ht with rfl | ht
        · show (2 : Nat) ≠ 3; decide
        · rcases List.mem_cons.1 ht with rfl | ht
          · show (23 : Nat) ≠ 3; decide
          · cases ht
    · rw [hM]
      unfold MD.items
      by_cases hn : (N.getD k.n nd0).next = 0
      · rw [if_pos hn, if_pos hn]
        simp
      · rw [if_neg hn, if_neg hn]
        have := st_todo (M := { M with tabs := m.tabs.set (topV m i 1).n r.2 }) (T := { T with tasks := tl, vals := T.vals.take (T.vals.length - 1) }) h.cl [⟨2, (N.getD k.n nd0).next, 0, k.e⟩, ⟨23, (N.getD k.n nd0).next, k.x + 1, k.e⟩]
        refine this.trans ?_
        simp [MD.st]
    · exact Cb_items c4 c5 c6 c3.head.2 c2 (by show 1 ≤ oO D m t f - 1 + 0; omega) c7
    · refine Itm_items (by simp; omega) (by simp only [List.length_nil, Nat.add_zero]; rw [show oO D m t f - 1 - 1 = oO D m t f - 2 by omega]; exact i3) (Nat.le_refl _) i4
  · rw [if_pos e8] at hp hM
    have hd : ((M.st { T with tasks := tl, vals := T.vals.take (T.vals.length - 1) }).finish 8 [45]).done.isSome = true := rfl
    rw [if_pos hd] at hM
    exact h.ptrap c3 (by decide) hp rfl hM
end
end Go.Proofs.Qxb6500574aGreatDoor
