/-
  moon: THE COMPILER: the functions around, their upvalues. Plain; no memory, no walk.
-/
import Derived.Test.Qxb6500574aGreatDoorWCo0
namespace Go.Proofs.Qxb6500574aGreatDoor
set_option linter.unusedVariables false
set_option linter.unusedSimpArgs false
/-- a function and its locals, and those around it -/
abbrev En := List (Nat × List Bs)
def Vl.ok (v : Vl) : Prop := (v = numV v.n ∧ v.n < 18446744073709551616 ∧ isNan v.n = false) ∨ (v = strV v.s ∧ v.s.length ≤ 40)
structure CnOk (l : List Vl) : Prop where
  nd : l.Nodup
  ok : ∀ v ∈ l, v.ok
def UpV (c : CmD) (ups : List (Nat × Nat)) : En → Prop
  | [] => ups = []
  | e :: _ => ups.Nodup ∧ ∀ d ∈ ups, (d.1 = 1 ∧ ∃ s, s ≠ [] ∧ e.2[d.2]? = some s) ∨ (d.1 = 0 ∧ d.2 < (c.fn e.1).ups.length)
def Inv (c : CmD) : En → Prop
  | [] => c.fns.length = 13
  | e :: r => (e.1 < 13 ∧ (c.fn e.1).locals = e.2 ∧ (c.fn e.1).parent = r.head?.map Prod.fst ∧ (∀ x ∈ r, x.1 < e.1)) ∧ (e.2.length ≤ (c.fn e.1).nslots ∧ (c.fn e.1).nslots ≤ 12) ∧ UpV c (c.fn e.1).ups r ∧ CnOk (c.fn e.1).consts ∧ Inv c r
theorem Inv.len {c : CmD} : ∀ {E : En}, Inv c E → c.fns.length = 13
  | [], h => h
  | _ :: r, h => Inv.len (E := r) h.2.2.2.2
theorem Inv.tail {c : CmD} {e : Nat × List Bs} {r : En} (h : Inv c (e :: r)) : Inv c r := h.2.2.2.2
theorem Inv.lt {c : CmD} {e : Nat × List Bs} {r : En} (h : Inv c (e :: r)) : e.1 < c.fns.length := by rw [h.len]; exact h.1.1
theorem Inv.congr {c c' : CmD} (hl : c'.fns.length = c.fns.length) : ∀ {E : En}, (∀ e ∈ E, c'.fn e.1 = c.fn e.1) → Inv c E → Inv c' E := by
  intro E
  induction E with
  | nil => intro _ h; exact hl.trans h
  | cons e r ih =>
    intro hf h
    obtain ⟨h1, h2, h3, h4, h5⟩ := h
    have e1 := hf e (by simp)
    refine ⟨by rw [e1]; exact h1, by rw [e1]; exact h2, ?_, by rw [e1]; exact h4, ih (fun x hx => hf x (by simp [hx])) h5⟩
    rw [e1]
    cases r with
    | nil => exact h3
    | cons g r =>
      refine ⟨h3.1, fun d hd => ?_⟩
      rw [hf g (by simp)]
      exact h3.2 d hd
theorem nodup_len : ∀ (l r : List Nat), l.Nodup → (∀ x ∈ l, x ∈ r) → l.length ≤ r.length := by
  intro l
  induction l with
  | nil => intro r _ _; simp
  | cons x l ih =>
    intro r hn h
    obtain ⟨h1, h2⟩ := List.nodup_cons.1 hn
    have hx := h x (by simp)
    have := ih (r.erase x) h2 (fun y hy => (List.mem_erase_of_ne (fun e => h1 (by rw [← e]; exact hy))).2 (h y (by simp [hy])))
    rw [List.length_erase_of_mem hx] at this
    have := List.length_pos_of_mem hx
    simp only [List.length_cons]
    omega
theorem pairs_len {l : List (Nat × Nat)} {A B : Nat} (h : l.Nodup) (g : ∀ d ∈ l, (d.1 = 1 ∧ d.2 < A) ∨ (d.1 = 0 ∧ d.2 < B)) : l.length ≤ A + B := by
  have h1 : (l.map fun d : Nat × Nat => if d.1 = 1 then d.2 else A + d.2).Nodup := by
    rw [List.nodup_iff_pairwise_ne, List.pairwise_map]
    refine (List.nodup_iff_pairwise_ne.1 h).imp_of_mem fun {x y} hx hy hne e => hne ?_
    have gx := g x hx
    have gy := g y hy
    refine Prod.ext ?_ ?_
    · split at e <;> split at e <;> omega
    · split at e <;> split at e <;> omega
  have := nodup_len _ (List.range (A + B)) h1 (fun x hx => by
    obtain ⟨d, hd, rfl⟩ := List.mem_map.1 hx
    have := g d hd
    rw [List.mem_range]
    split <;> omega)
  rw [List.length_map, List.length_range] at this
  exact this
theorem Inv.depth {c : CmD} : ∀ {r : En} {e : Nat × List Bs}, Inv c (e :: r) → r.length ≤ e.1 := by
  intro r
  induction r with
  | nil => intro e _; simp
  | cons g r ih =>
    intro e h
    have := ih h.tail
    have := h.1.2.2.2 g (by simp)
    simp only [List.length_cons]
    omega
/-- few upvalues -/
theorem Inv.ups {c : CmD} : ∀ {r : En} {e : Nat × List Bs}, Inv c (e :: r) → (c.fn e.1).ups.length ≤ 12 * r.length := by
  intro r
  induction r with
  | nil => intro e h; have : (c.fn e.1).ups = [] := h.2.2.1; rw [this]; simp
  | cons g r ih =>
    intro e h
    have hg := ih h.tail
    obtain ⟨u1, u2⟩ := h.2.2.1
    have h12 := h.tail.2.1
    have := pairs_len (A := 12) (B := (c.fn g.1).ups.length) u1 (fun d hd => by
      rcases u2 d hd with ⟨x, s, _, y⟩ | x
      · have := (List.getElem?_eq_some_iff.1 y).1
        exact .inl ⟨x, by omega⟩
      · exact .inr x)
    simp only [List.length_cons]
    omega
theorem Inv.ups144 {c : CmD} {r : En} {e : Nat × List Bs} (h : Inv c (e :: r)) : (c.fn e.1).ups.length ≤ 144 := by
  have := h.ups
  have := h.depth
  have := h.1.1
  omega
/-- the newest local of a name -/
theorem slotL_at {l : List Bs} {s : Bs} {k : Nat} (h : slotL l s = some k) : l[k]? = some s := by
  unfold slotL at h
  cases e : l.reverse.findIdx? (fun w => w == s) with
  | none => rw [e] at h; cases h
  | some j =>
    rw [e] at h
    have h : l.length - 1 - j = k := by simpa using h
    subst h
    obtain ⟨h1, h2, _⟩ := List.findIdx?_eq_some_iff_getElem.1 e
    have h1 := h1
    rw [List.length_reverse] at h1
    rw [List.getElem_reverse] at h2
    rw [List.getElem?_eq_getElem (by omega)]
    exact congrArg some (by simpa using h2)
/-- which upvalue a name is -/
def UpR (D : CmD) : En → Bs → Option Nat → Prop
  | [], _, o => o = none
  | e :: r, s, o => match r.head? with
    | none => o = none
    | some g => match slotL g.2 s with
      | some k => ∃ i, o = some i ∧ (D.fn e.1).ups[i]? = some (1, k)
      | none => (o = none ∧ UpR D r s none) ∨ (∃ j i, UpR D r s (some j) ∧ o = some i ∧ (D.fn e.1).ups[i]? = some (0, j))
/-- only upvalues have grown, and those of E's functions alone -/
structure UpG (E : En) (c c' : CmD) : Prop where
  len : c'.fns.length = c.fns.length
  np : c'.np = c.np
  sm : ∀ g, c'.fn g = { c.fn g with ups := (c'.fn g).ups }
  pre : ∀ g, (c.fn g).ups <+: (c'.fn g).ups
  out : ∀ g, (∀ e ∈ E, e.1 ≠ g) → c'.fn g = c.fn g
theorem UpG.refl (E : En) (c : CmD) : UpG E c c := ⟨rfl, rfl, fun _ => rfl, fun _ => List.prefix_refl _, fun _ _ => rfl⟩
theorem UpG.trans {E : En} {c c1 c2 : CmD} (h : UpG E c c1) (g : UpG E c1 c2) : UpG E c c2 := by
  refine ⟨g.len.trans h.len, g.np.trans h.np, fun x => ?_, fun x => (h.pre x).trans (g.pre x), fun x hx => (g.out x hx).trans (h.out x hx)⟩
  have h1 := g.sm x
  have h2 := h.sm x
  rw [h1]
  rw [h2]
theorem UpG.up {E : En} {e : Nat × List Bs} {c c1 : CmD} (h : UpG E c c1) : UpG (e :: E) c c1 := ⟨h.len, h.np, h.sm, h.pre, fun g hg => h.out g fun x hx => hg x (by simp [hx])⟩
theorem findIdx_none {l : List (Nat × Nat)} {d : Nat × Nat} (h : l.findIdx? (fun e => e == d) = none) : d ∉ l := by
  intro hm
  have := List.findIdx?_eq_none_iff.1 h d hm
  simp at this
theorem findIdx_some {l : List (Nat × Nat)} {d : Nat × Nat} {k : Nat} (h : l.findIdx? (fun e => e == d) = some k) : l[k]? = some d := by
  obtain ⟨h1, h2, _⟩ := List.findIdx?_eq_some_iff_getElem.1 h
  rw [List.getElem?_eq_getElem h1]
  exact congrArg some (by simpa using h2)
theorem pre_at {α : Type} {l l' : List α} (h : l <+: l') {i : Nat} {v : α} (g : l[i]? = some v) : l'[i]? = some v := by
  obtain ⟨t, rfl⟩ := h
  rw [List.getElem?_append_left (List.getElem?_eq_some_iff.1 g).1]
  exact g
/-- the law of a look for an upvalue -/
structure UpP (E : En) (s : Bs) (c : CmD) (r : CmD × Option Nat) : Prop where
  gr : UpG E c r.1
  iv : Inv r.1 E
  lt : ∀ k, r.2 = some k → ∀ e, E.head? = some e → k < (r.1.fn e.1).ups.length
  up : ∀ D : CmD, (∀ e ∈ E, (r.1.fn e.1).ups <+: (D.fn e.1).ups) → UpR D E s r.2
theorem up_ok {s : Bs} (hs : s ≠ []) : ∀ (n : Nat) (c : CmD) (e : Nat × List Bs) (r : En), Inv c (e :: r) → r.length < n → UpP (e :: r) s c (upN c s n e.1) := by
  intro n
  induction n with
  | zero => intro c e r _ h; omega
  | succ n ih =>
    intro c e r I hn
    unfold upN
    have hp := I.1.2.2.1
    cases r with
    | nil =>
      rw [hp]
      exact ⟨UpG.refl _ _, I, (fun k hk => by cases hk), fun D _ => rfl⟩
    | cons g r =>
      rw [hp]
      simp only [List.head?_cons, Option.map_some]
      have hgl : (c.fn g.1).locals = g.2 := I.tail.1.2.1
      have hg12 : g.2.length ≤ 12 := Nat.le_trans I.tail.2.1.1 I.tail.2.1.2
      have hge : g.1 < e.1 := I.1.2.2.2 g (by simp)
      have hne : ∀ x ∈ (g :: r : En), x.1 ≠ e.1 := fun x hx => by have := I.1.2.2.2 x hx; omega
      -- a descriptor found or put in
      have key : ∀ (c1 : CmD) (d : Nat × Nat), UpG (g :: r) c c1 → Inv c1 (g :: r) → ((d.1 = 1 ∧ ∃ s, s ≠ [] ∧ g.2[d.2]? = some s) ∨ (d.1 = 0 ∧ d.2 < (c1.fn g.1).ups.length)) →
          (∀ D : CmD, (∀ x ∈ (g :: r : En), (c1.fn x.1).ups <+: (D.fn x.1).ups) → ∀ i, (D.fn e.1).ups[i]? = some d → UpR D (e :: g :: r) s (some i)) →
          UpP (e :: g :: r) s c (match (c1.fn e.1).ups.findIdx? (fun e => e == d) with
            | some k => (c1, some k)
            | none => (c1.upd e.1 fun x => { x with ups := x.ups ++ [d] }, some (c1.fn e.1).ups.length)) := by
        intro c1 d hG hI hd hU
        have hef : c1.fn e.1 = c.fn e.1 := hG.out e.1 hne
        have hI1 : Inv c1 (e :: g :: r) := by
          refine ⟨by rw [hef]; exact I.1, by rw [hef]; exact I.2.1, ?_, by rw [hef]; exact I.2.2.2.1, hI⟩
          rw [hef]
          refine ⟨I.2.2.1.1, fun d hd => ?_⟩
          rcases I.2.2.1.2 d hd with x | ⟨x1, x2⟩
          · exact .inl x
          · have := (hG.pre g.1).length_le
            exact .inr ⟨x1, by omega⟩
        split
        · rename_i k hk
          have hk' := findIdx_some hk
          exact ⟨hG.up, hI1, fun k' hk'' e' he' => by cases hk''; cases he'; exact (List.getElem?_eq_some_iff.1 hk').1, fun D hD => hU D (fun x hx => hD x (by simp [hx])) k (pre_at (hD e (by simp)) hk')⟩
        · rename_i hk
          have hno := findIdx_none hk
          have hlt : e.1 < c1.fns.length := hI1.lt
          have hfe : ∀ x, (c1.upd e.1 fun x => { x with ups := x.ups ++ [d] }).fn x = if x = e.1 then { c1.fn e.1 with ups := (c1.fn e.1).ups ++ [d] } else c1.fn x := fun x => fn_upd c1 hlt _ x
          have hself : (c1.upd e.1 fun x => { x with ups := x.ups ++ [d] }).fn e.1 = { c1.fn e.1 with ups := (c1.fn e.1).ups ++ [d] } := by rw [hfe, if_pos rfl]
          have hoth : ∀ x ∈ (g :: r : En), (c1.upd e.1 fun x => { x with ups := x.ups ++ [d] }).fn x.1 = c1.fn x.1 := fun x hx => by rw [hfe, if_neg (hne x hx)]
          refine ⟨hG.up.trans ⟨upd_len _ _ _, rfl, fun x => ?_, fun x => ?_, fun x hx => ?_⟩, ?_, fun k' hk'' e' he' => ?_, fun D hD => ?_⟩
          · rw [hfe]
            split
            · rename_i h; subst h; rfl
            · rfl
          · rw [hfe]
            split
            · rename_i h; subst h; exact List.prefix_append _ _
            · exact List.prefix_refl _
          · rw [hfe, if_neg fun h => hx e (by simp) h.symm]
          · refine ⟨by rw [hself]; exact hI1.1, by rw [hself]; exact hI1.2.1, ?_, by rw [hself]; exact hI1.2.2.2.1, hI.congr (upd_len _ _ _) hoth⟩
            rw [hself]
            refine ⟨?_, fun d' hd' => ?_⟩
            · rw [List.nodup_append]
              refine ⟨hI1.2.2.1.1, by simp, fun a ha b hb => ?_⟩
              rw [List.mem_singleton.1 hb]
              intro e; subst e; exact hno ha
            · rw [hoth g (by simp)]
              rcases List.mem_append.1 hd' with x | x
              · exact hI1.2.2.1.2 d' x
              · rw [List.mem_singleton.1 x]; exact hd
          · cases hk''
            cases he'
            rw [hself]
            simp
          · refine hU D (fun x hx => ?_) _ (pre_at (hD e (by simp)) ?_)
            · have := hD x (by simp [hx])
              rw [hoth x hx] at this
              exact this
            · rw [hself]
              simp
      rw [hgl]
      cases hsl : slotL g.2 s with
      | some k =>
        simp only
        have hk := slotL_at hsl
        have hk12 := (List.getElem?_eq_some_iff.1 hk).1
        rw [show k % 256 = k by omega]
        refine key c (1, k) (UpG.refl _ _) I.tail (.inl ⟨rfl, s, hs, hk⟩) (fun D _ i hi => ?_)
        unfold UpR
        simp only [List.head?_cons, hsl]
        exact ⟨i, rfl, hi⟩
      | none =>
        have P := ih c g r I.tail (by simp only [List.length_cons] at hn; omega)
        simp only
        generalize hu : upN c s n g.1 = U at P
        obtain ⟨c1, o⟩ := U
        cases o with
        | none =>
          simp only
          have hef : c1.fn e.1 = c.fn e.1 := P.gr.out e.1 hne
          refine ⟨P.gr.up, ?_, (fun k hk => by cases hk), fun D hD => ?_⟩
          · refine ⟨by rw [hef]; exact I.1, by rw [hef]; exact I.2.1, ?_, by rw [hef]; exact I.2.2.2.1, P.iv⟩
            rw [hef]
            refine ⟨I.2.2.1.1, fun d hd => ?_⟩
            rcases I.2.2.1.2 d hd with x | ⟨x1, x2⟩
            · exact .inl x
            · exact .inr ⟨x1, Nat.lt_of_lt_of_le x2 (P.gr.pre g.1).length_le⟩
          · unfold UpR
            simp only [List.head?_cons, hsl]
            exact .inl ⟨trivial, P.up D fun x hx => hD x (by simp [hx])⟩
        | some j =>
          simp only
          have hj := P.lt j rfl g rfl
          have hj144 := P.iv.ups144
          simp only at hj hj144
          rw [show j % 256 = j by omega]
          refine key c1 (0, j) P.gr P.iv (.inr ⟨rfl, hj⟩) (fun D hD i hi => ?_)
          unfold UpR
          simp only [List.head?_cons, hsl]
          exact .inr ⟨j, i, P.up D hD, rfl, hi⟩
end Go.Proofs.Qxb6500574aGreatDoor
