/-
  THE FLAT CODE of an accepted body, instruction by instruction; the types where the code is live. No program.
-/
import Derived.Test.Qxb6500575aGreatDoorLawB2
namespace Go.Proofs.Qxb6500575aGreatDoor
open Go Go.RowKit
set_option linter.unusedVariables false
set_option linter.unusedSimpArgs false

/-- what an instruction lays -/
def emitM (s : Mk) (src : List Ins) (i : Nat) (c : Ins) : List Flat :=
  if c.op = 1 ∨ c.op = 2 then []
  else if c.op = 3 then [⟨3, posM src (altT src i).toNat, 0, 0⟩]
  else if c.op = 4 then (match s.cs with | [] => [] | t :: _ => [⟨4, posM src (endsM src t.at_.toNat).2.toNat, 0, 0⟩])
  else if c.op = 5 then (match s.cs with | [] => [] | _ :: r => if r.isEmpty then [⟨5, c.imm, 0, 0⟩] else [])
  else if c.op = 6 then [s.jump src c.imm.toNat]
  else if c.op = 7 then [{ s.jump src c.imm.toNat with op := 7 }]
  else if c.op = 8 then ⟨8, (c.tab.length : Int) - 1, 0, 0⟩ :: c.tab.map (fun t => s.jump src t.toNat)
  else [⟨c.op, c.imm, 0, 0⟩]
theorem one_code {E : Env} {src : List Ins} {i : Nat} {s : Mk} {c : Ins} (h0 : (s.one E src i c).2 = 0) : (s.one E src i c).1.code = s.code ++ emitM s src i c := by
  unfold Mk.one at h0 ⊢
  unfold emitM
  by_cases h1 : c.op = 1 ∨ c.op = 2
  · rw [if_pos h1, if_pos h1]; simp
  rw [if_neg h1] at h0 ⊢
  rw [if_neg h1]
  by_cases h3 : c.op = 3
  · rw [if_pos h3, if_pos h3]
  rw [if_neg h3] at h0 ⊢
  rw [if_neg h3]
  by_cases h4 : c.op = 4
  · rw [if_pos h4, if_pos h4]
    cases s.cs with
    | nil => simp
    | cons t r => rfl
  rw [if_neg h4] at h0 ⊢
  rw [if_neg h4]
  by_cases h5 : c.op = 5
  · rw [if_pos h5, if_pos h5]
    cases s.cs with
    | nil => simp
    | cons t r => rfl
  rw [if_neg h5] at h0 ⊢
  rw [if_neg h5]
  by_cases h6 : c.op = 6
  · rw [if_pos h6] at h0 ⊢
    rw [if_pos h6]
    split at h0
    · simp at h0
    · rename_i hx; rw [if_neg hx]
  rw [if_neg h6] at h0 ⊢
  rw [if_neg h6]
  by_cases h7 : c.op = 7
  · rw [if_pos h7] at h0 ⊢
    rw [if_pos h7]
    split at h0
    · simp at h0
    · rename_i hx; rw [if_neg hx]
  rw [if_neg h7] at h0 ⊢
  rw [if_neg h7]
  by_cases h8 : c.op = 8
  · rw [if_pos h8] at h0 ⊢
    rw [if_pos h8]
    split at h0
    · simp at h0
    · rename_i hx; rw [if_neg hx]
  rw [if_neg h8] at h0 ⊢
  rw [if_neg h8]
  cases hp : s.plain E c with
  | none => rw [hp] at h0; simp at h0
  | some p => rfl
theorem code_pre {E : Env} {src : List Ins} : ∀ (d i : Nat) (s s' : Mk), stateM E src i = some s → stateM E src (i + d) = some s' → ∃ z, s'.code = s.code ++ z
  | 0, i, s, s', h, h' => by
    rw [Nat.add_zero, h] at h'
    cases h'
    exact ⟨[], by simp⟩
  | d + 1, i, s, s', h, h' => by
    obtain ⟨s1, c, h1, h2, h3, rfl⟩ := stateM_prev (k := i + d) h'
    obtain ⟨z, hz⟩ := code_pre d i s s1 h h1
    exact ⟨z ++ emitM s1 src (i + d) c, by rw [one_code h3, hz, List.append_assoc]⟩
theorem code_at {E : Env} {src : List Ins} {sf : Mk} (hf : stateM E src src.length = some sf) {i : Nat} {s : Mk} {c : Ins} (h : SF E src i s c) (h1 : stateM E src (i + 1) = some (s.one E src i c).1) (k : Nat) (hk : k < (emitM s src i c).length) : sf.code[posM src i + k]? = (emitM s src i c)[k]? := by
  have hi := (List.getElem?_eq_some_iff.1 h.at_).1
  obtain ⟨z, hz⟩ := code_pre (src.length - (i + 1)) (i + 1) _ sf h1 (by rw [show i + 1 + (src.length - (i + 1)) = src.length by omega]; exact hf)
  rw [hz, one_code h.ok, h.pos, List.append_assoc, List.getElem?_append_right (by omega), List.getElem?_append_left (by omega), Nat.add_sub_cancel_left]
theorem AllSF.succ {E : Env} {src : List Ins} (h : AllSF E src) {i : Nat} {s : Mk} {c : Ins} (hs : SF E src i s c) : stateM E src (i + 1) = some (s.one E src i c).1 := by
  obtain ⟨s0, c0, h1, h2⟩ := h i (List.getElem?_eq_some_iff.1 hs.at_).1
  have e1 : s0 = s := by have := h1.st; rw [hs.st] at this; exact (Option.some.inj this).symm
  have e2 : c0 = c := by have := h1.at_; rw [hs.at_] at this; exact (Option.some.inj this).symm
  subst e1; subst e2
  exact h2
/-- an accepted body and its flat code -/
structure Body (E : Env) (src : List Ins) (C : List Flat) : Prop where
  all : AllSF E src
  fin : ∃ sf, stateM E src src.length = some sf ∧ sf.code = C
  ty : EnvTy E
  bt : ∀ (i : Nat) (s : Mk), stateM E src i = some s → ∀ t ∈ s.cs, TyL (resOf t.bt)
section
variable {E : Env} {src : List Ins} {C : List Flat} {i : Nat} {s : Mk} {c : Ins}
theorem Body.codeAt (h : Body E src C) (hs : SF E src i s c) (k : Nat) (hk : k < (emitM s src i c).length) : C[posM src i + k]? = (emitM s src i c)[k]? := by
  obtain ⟨sf, h1, rfl⟩ := h.fin
  exact code_at h1 hs (h.all.succ hs) k hk
theorem Body.code0 (h : Body E src C) (hs : SF E src i s c) {f : Flat} {z : List Flat} (he : emitM s src i c = f :: z) : C[posM src i]? = some f := by
  have := h.codeAt hs 0 (by rw [he]; simp)
  rw [he] at this
  simpa using this
theorem resOf_tyB {b : Int} (h : b = 0 ∨ b = 105 ∨ b = 108) : TyL (resOf b) := by
  intro x hx
  rcases h with rfl | rfl | rfl
  · simp [resOf] at hx
  · simp [resOf] at hx; exact .inl hx
  · simp [resOf] at hx; exact .inr hx
theorem well_bt {c : Ins} (h : well c = true) (ho : c.op = 1 ∨ c.op = 2 ∨ c.op = 3) : c.imm = 0 ∨ c.imm = 105 ∨ c.imm = 108 := by
  unfold well at h
  rw [if_neg (show ¬ c.op = 8 by omega)] at h
  by_cases ht : ¬ c.tab.isEmpty = true
  · rw [if_pos ht] at h; cases h
  rw [if_neg ht, if_pos ho] at h
  simp at h
  omega
theorem stateM_bt (hw : ∀ c ∈ src, well c = true) (hr : TyL (resOf (bt0 E.me.results))) : ∀ (k : Nat) (s : Mk), stateM E src k = some s → ∀ t ∈ s.cs, TyL (resOf t.bt)
  | 0, s, h, t, ht => by
    simp [stateM] at h
    subst h
    simp [Mk.start] at ht
    subst ht
    exact hr
  | k + 1, s, h, t, ht => by
    obtain ⟨s0, c0, h1, h2, h3, rfl⟩ := stateM_prev h
    rcases one_cs s0 E src k c0 t ht with ⟨c1, a1, a2, a3⟩ | ⟨a1, a2, a3⟩
    · rw [a2]; exact stateM_bt hw hr k s0 h1 c1 a1
    · rw [a1]; exact resOf_tyB (well_bt (hw c0 (List.mem_of_getElem? h2)) a3)
/-- the code here is reached -/
structure Live (s : Mk) : Prop where
  on : ∀ t ∈ s.cs, t.dead = false
  ty : TyL s.st
theorem Live.pops (h : Live s) (hn : s.cs ≠ []) {l : List UInt8} (hl : TyL l) (hz : (s.pops l).2 = true) : s.st = l.reverse ++ (s.pops l).1.st := by
  cases hs : s.cs with
  | nil => exact absurd hs hn
  | cons t r =>
    exact pops_live (s := s.ck) (b := t.blk) (r := r.map Ctl.blk) (by simp [Mk.ck, hs]) (h.on t (by rw [hs]; simp)) h.ty hl (by simpa [Mk.pops] using hz)
theorem Live.pop (h : Live s) (hn : s.cs ≠ []) {t : UInt8} (hz : (s.pop t).2.2 = true) : ∃ u, s.st = u :: (s.pop t).1.st ∧ (s.pop t).2.1 = u ∧ (t = 0 ∨ u = t) ∧ Ty u := by
  cases hs : s.cs with
  | nil => exact absurd hs hn
  | cons b r =>
    exact pop_live (s := s.ck) (b := b.blk) (r := r.map Ctl.blk) (by simp [Mk.ck, hs]) (h.on b (by rw [hs]; simp)) h.ty t hz
theorem TyL.app {a b : List UInt8} : TyL (a ++ b) ↔ TyL a ∧ TyL b :=
  ⟨fun h => ⟨fun x hx => h x (by simp [hx]), fun x hx => h x (by simp [hx])⟩, fun h x hx => by
    rcases List.mem_append.1 hx with h1 | h1
    · exact h.1 x h1
    · exact h.2 x h1⟩
theorem TyL.rev {a : List UInt8} (h : TyL a) : TyL a.reverse := fun x hx => h x (by simpa using hx)
theorem ty105 : TyL [105] := fun x hx => by simp at hx; subst hx; exact .inl rfl
theorem Live.low (h : Live s) {x y : List UInt8} (e : s.st = x ++ y) : TyL y := fun z hz => h.ty z (by rw [e]; simp [hz])
theorem sigM_ty (op : Int) : TyL (sigM op).1 ∧ TyL (sigM op).2 := by
  unfold sigM
  repeat' split
  all_goals refine ⟨fun x hx => ?_, fun x hx => ?_⟩
  all_goals simp only [List.mem_cons, List.not_mem_nil, or_false, or_self] at hx
  all_goals first | exact hx | exact .inl hx | exact .inr hx | (rcases hx with hx | hx; exact .inl hx; exact .inr hx)
/-- block, loop -/
theorem live_open (h : SF E src i s c) (hl : Live s) (h1 : c.op = 1 ∨ c.op = 2) : (s.one E src i c).1.st = s.st ∧ Live (s.one E src i c).1 := by
  have hc := (one_open h (by omega)).2
  have e : (s.one E src i c).1.st = s.st := by unfold Mk.one; rw [if_pos h1]
  refine ⟨e, fun t ht => ?_, by rw [e]; exact hl.ty⟩
  rw [hc] at ht
  rcases List.mem_cons.1 ht with rfl | ht
  · rfl
  · exact hl.on t ht
theorem live_if (h : SF E src i s c) (hl : Live s) (h3 : c.op = 3) : s.st = 105 :: (s.one E src i c).1.st ∧ Live (s.one E src i c).1 := by
  have hc := (one_open h (by omega)).2
  have h0 := h.ok
  unfold Mk.one at h0
  rw [if_neg (by omega), if_pos h3] at h0
  have e1 : (s.one E src i c).1.st = (s.pops [105]).1.st := by unfold Mk.one; rw [if_neg (by omega), if_pos h3]
  have e := hl.pops h.ne ty105 (typedM_ok h0)
  rw [← e1] at e
  refine ⟨e, fun t ht => ?_, hl.low e⟩
  rw [hc] at ht
  rcases List.mem_cons.1 ht with rfl | ht
  · rfl
  · exact hl.on t ht
theorem live_else (hb : Body E src C) (h : SF E src i s c) (hl : Live s) (h4 : c.op = 4) : ∃ t r, s.cs = t :: r ∧ 0 ≤ t.at_ ∧ s.st = (resOf t.bt).reverse ++ cut t.height s.st := by
  obtain ⟨t, r, h1, h2, h3, h4, h5, h6, h7⟩ := one_else h h4
  refine ⟨t, r, h1, h3, ?_⟩
  have := hl.pops h.ne (hb.bt i s h.st t (by rw [h1]; simp)) h6
  rw [h7] at this
  exact this
theorem live_end (hb : Body E src C) (h : SF E src i s c) (hl : Live s) (h5 : c.op = 5) : ∃ t r, s.cs = t :: r ∧ s.st = (resOf t.bt).reverse ++ cut t.height s.st := by
  obtain ⟨t, r, h1, h2, h3, h4, h5, h6⟩ := one_end h h5
  refine ⟨t, r, h1, ?_⟩
  have := hl.pops h.ne (hb.bt i s h.st t (by rw [h1]; simp)) h4
  rw [h5] at this
  exact this
theorem Mk.label_at {s : Mk} {l : Nat} {t : Ctl} (h : s.cs[l]? = some t) : s.label l = t.label := by unfold Mk.label; rw [h]
theorem Mk.jump_at {s : Mk} {l : Nat} {t : Ctl} (h : s.cs[l]? = some t) : s.jump src l = t.jump src := by unfold Mk.jump; rw [h]
theorem Ctl.label_ty {t : Ctl} (h : TyL (resOf t.bt)) : TyL t.label := by
  unfold Ctl.label
  split
  · intro x hx; cases hx
  · exact h
/-- the part below the label's floor -/
theorem low_cut {s : Mk} {l : Nat} {t : Ctl} (hh : HtsM s.cs s.st.length) (ht : s.cs[l]? = some t) {x y : List UInt8} (e : s.st = x ++ y) (hl : ∀ a r, s.cs = a :: r → a.height ≤ y.length) : cut t.height s.st = cut t.height y ∧ t.height ≤ y.length := by
  have hm := List.mem_of_getElem? ht
  have hle : t.height ≤ y.length := by
    cases hs : s.cs with
    | nil => rw [hs] at hm; cases hm
    | cons a r =>
      have := hl a r hs
      rw [hs] at hm hh
      rcases List.mem_cons.1 hm with rfl | h1
      · exact this
      · have := HtsM.le hh.2 t h1; omega
  exact ⟨by rw [e, cut_app hle], hle⟩
theorem live_br (hb : Body E src C) (h : SF E src i s c) (hl : Live s) (h6 : c.op = 6) : ∃ t, s.cs[c.imm.toNat]? = some t ∧ ∃ y, s.st = t.label.reverse ++ y ∧ cut t.height s.st = cut t.height y ∧ t.height ≤ y.length := by
  have h0 := h.ok
  unfold Mk.one at h0
  rw [if_neg (by omega), if_neg (by omega), if_neg (by omega), if_neg (by omega), if_pos h6] at h0
  split at h0
  · simp at h0
  rename_i hx
  have ht : s.cs[c.imm.toNat]? = some s.cs[c.imm.toNat] := List.getElem?_eq_getElem (by omega)
  have hlab := Mk.label_at ht
  have e := hl.pops h.ne (by rw [hlab]; exact Ctl.label_ty (hb.bt i s h.st _ (List.mem_of_getElem? ht))) (typedM_ok h0)
  refine ⟨_, ht, _, by rw [← hlab]; exact e, low_cut h.hts ht e fun a r hs => ?_⟩
  have hh := h.hts
  rw [hs] at hh
  exact Mk.pops_ht hs hh.1 _
theorem live_brif (hb : Body E src C) (h : SF E src i s c) (hl : Live s) (h7 : c.op = 7) : ∃ t, s.cs[c.imm.toNat]? = some t ∧ (∃ y, s.st = 105 :: (t.label.reverse ++ y) ∧ cut t.height s.st = cut t.height y ∧ t.height ≤ y.length ∧ (s.one E src i c).1.st = t.label.reverse ++ y) ∧ (s.one E src i c).1.cs = s.cs ∧ Live (s.one E src i c).1 := by
  have h0 := h.ok
  unfold Mk.one at h0
  rw [if_neg (by omega), if_neg (by omega), if_neg (by omega), if_neg (by omega), if_neg (by omega), if_pos h7] at h0
  split at h0
  · simp at h0
  rename_i hx
  have ht : s.cs[c.imm.toNat]? = some s.cs[c.imm.toNat] := List.getElem?_eq_getElem (by omega)
  have hlab := Mk.label_at ht
  have hty : TyL (s.label c.imm.toNat) := by rw [hlab]; exact Ctl.label_ty (hb.bt i s h.st _ (List.mem_of_getElem? ht))
  have e := hl.pops h.ne (l := s.label c.imm.toNat ++ [105]) (TyL.app.2 ⟨hty, ty105⟩) (typedM_ok h0)
  have e1 : (s.one E src i c).1.st = (s.label c.imm.toNat).reverse ++ (s.pops (s.label c.imm.toNat ++ [105])).1.st := by
    unfold Mk.one
    rw [if_neg (by omega), if_neg (by omega), if_neg (by omega), if_neg (by omega), if_neg (by omega), if_pos h7, if_neg hx]
    rfl
  have e2 : (s.one E src i c).1.cs = s.cs := by
    unfold Mk.one
    rw [if_neg (by omega), if_neg (by omega), if_neg (by omega), if_neg (by omega), if_neg (by omega), if_pos h7, if_neg hx]
    rfl
  obtain ⟨l1, l2⟩ := low_cut h.hts ht e fun a r hs => by
    have hh := h.hts
    rw [hs] at hh
    exact Mk.pops_ht hs hh.1 _
  refine ⟨_, ht, ⟨_, by rw [← hlab]; simpa using e, l1, l2, by rw [← hlab]; exact e1⟩, e2, ?_, ?_⟩
  · rw [e2]; exact hl.on
  · rw [e1]; exact TyL.app.2 ⟨hty.rev, hl.low e⟩
theorem well_tab1 {c : Ins} (h : well c = true) (h8 : c.op = 8) : 1 ≤ c.tab.length := by
  unfold well at h
  rw [if_pos h8] at h
  simp at h
  have := h.1.2
  exact this
theorem live_tab (hb : Body E src C) (h : SF E src i s c) (hl : Live s) (h8 : c.op = 8) : ∃ y l, s.st = 105 :: (l.reverse ++ y) ∧ ∀ t ∈ c.tab, ∃ b, s.cs[t.toNat]? = some b ∧ b.label = l ∧ cut b.height s.st = cut b.height y ∧ b.height ≤ y.length := by
  have h0 := h.ok
  unfold Mk.one at h0
  rw [if_neg (by omega), if_neg (by omega), if_neg (by omega), if_neg (by omega), if_neg (by omega), if_neg (by omega), if_pos h8] at h0
  split at h0
  · simp at h0
  rename_i hx
  have hz := typedM_ok h0
  simp only [Bool.and_eq_true] at hz
  have hin : ∀ t ∈ c.tab, t.toNat < s.cs.length := fun t ht => by
    simp only [List.any_eq_true, decide_eq_true_eq, not_exists, not_and] at hx
    have := hx t ht
    omega
  have hwt := well_tab1 h.wl h8
  have hlast : c.tab.getLast?.getD 0 ∈ c.tab := by
    cases hc : c.tab.getLast? with
    | none => rw [List.getLast?_eq_none_iff] at hc; rw [hc] at hwt; simp at hwt
    | some x => exact List.mem_of_getLast? hc
  have htl : s.cs[(c.tab.getLast?.getD 0).toNat]? = some (s.cs[(c.tab.getLast?.getD 0).toNat]'(hin _ hlast)) := List.getElem?_eq_getElem (hin _ hlast)
  have hlab : s.lastLab c.tab = (s.cs[(c.tab.getLast?.getD 0).toNat]'(hin _ hlast)).label := Mk.label_at htl
  have hty : TyL (s.lastLab c.tab) := by rw [hlab]; exact Ctl.label_ty (hb.bt i s h.st _ (List.mem_of_getElem? htl))
  have e := hl.pops h.ne (l := s.lastLab c.tab ++ [105]) (TyL.app.2 ⟨hty, ty105⟩) hz.2
  refine ⟨(s.pops (s.lastLab c.tab ++ [105])).1.st, s.lastLab c.tab, by simpa using e, fun t ht => ?_⟩
  have htt : s.cs[t.toNat]? = some (s.cs[t.toNat]'(hin t ht)) := List.getElem?_eq_getElem (hin t ht)
  have hlt : s.label t.toNat = s.lastLab c.tab := by
    have := hz.1
    unfold Mk.tableOk at this
    rw [List.all_eq_true] at this
    simpa using this t ht
  obtain ⟨l1, l2⟩ := low_cut h.hts htt e fun a r hs => by
    have hh := h.hts
    rw [hs] at hh
    exact Mk.pops_ht hs hh.1 _
  exact ⟨_, htt, by rw [← Mk.label_at htt, hlt], l1, l2⟩
end
end Go.Proofs.Qxb6500575aGreatDoor
