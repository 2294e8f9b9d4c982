/-
  THE PLAIN LAW, model and real: one body. No program.
-/
import Derived.Test.Qxb6500575aGreatDoorLawM4
namespace Go.Proofs.Qxb6500575aGreatDoor
open Go Go.RowKit
set_option linter.unusedVariables false
set_option linter.unusedSimpArgs false

/-- the body's own result type, as a number -/
def bt0 (res : List UInt8) : Int := match res with | [] => 0 | x :: _ => x.toNat
def Mk.start (res : List UInt8) : Mk := { st := [], cs := [⟨1, bt0 res, 0, -1, false⟩], code := [] }
def runMk (E : Env) (src : List Ins) : Nat → List Ins → Mk → Option (Nat × Int) × Mk
  | _, [], s => (none, s)
  | k, c :: cs, s => if (s.one E src k c).2 = 0 then runMk E src (k + 1) cs (s.one E src k c).1 else (some (k, (s.one E src k c).2), (s.one E src k c).1)
def stateM (E : Env) (src : List Ins) : Nat → Option Mk
  | 0 => some (Mk.start E.me.results)
  | k + 1 => match stateM E src k, src[k]? with
    | some s, some c => if (s.one E src k c).2 = 0 then some (s.one E src k c).1 else none
    | _, _ => none
theorem runMk_at (E : Env) (code : List Ins) : ∀ (k : Nat) (s : Mk), stateM E code k = some s → runMk E code 0 code (Mk.start E.me.results) = runMk E code k (code.drop k) s
  | 0, s, h => by simp [stateM] at h; subst h; rfl
  | k + 1, s, h => by
    simp only [stateM] at h
    split at h
    · rename_i s0 c hs hc
      split at h
      · rename_i h0
        simp at h
        subst h
        rw [runMk_at E code k s0 hs]
        have hk : k < code.length := (List.getElem?_eq_some_iff.1 hc).1
        have hcc : code[k] = c := (List.getElem?_eq_some_iff.1 hc).2
        rw [List.drop_eq_getElem_cons hk, hcc]
        simp only [runMk]
        rw [if_pos h0]
      · cases h
    · cases h
theorem resOf_bt0 {res : List UInt8} (h : res.length ≤ 1) (hz : ∀ x ∈ res, x ≠ 0) : resOf (bt0 res) = res := by
  cases res with
  | nil => rfl
  | cons x r =>
    have hr : r = [] := List.eq_nil_of_length_eq_zero (by simp only [List.length_cons] at h; omega)
    subst hr
    have := hz x (by simp)
    have hx : x.toNat ≠ 0 := fun e => this (UInt8.toNat_inj.1 e)
    unfold bt0 resOf
    rw [if_neg (by show ¬ ((x.toNat : Int) = 0); omega)]
    simp
theorem start_rel {src : List Ins} {res : List UInt8} (h : res.length ≤ 1) (hz : ∀ x ∈ res, x ≠ 0) : Rel src 0 (Ck.start res) (Mk.start res) := by
  have hr := resOf_bt0 h hz
  refine ⟨?_, rfl, fun k b c hb hc => ?_, fun k c hc => ?_, fun p => .inl rfl⟩
  · simp [Ck.fg, Mk.ck, Ck.start, Mk.start, Blk.fg, Ctl.blk, Ctl.label, hr]
  · cases k with
    | zero =>
      simp [Ck.start, Mk.start] at hb hc
      subst hb; subst hc
      exact ⟨(fun e => by cases e), fun _ => rfl, (fun e => by cases e), (fun p hp => by cases hp), (fun e => by cases e), fun p hp => by cases hp⟩
    | succ k => simp [Ck.start] at hb
  · cases k with
    | zero =>
      simp [Mk.start] at hc
      subst hc
      exact ⟨fun _ => rfl, fun h => by simp [Mk.start] at h⟩
    | succ k => simp [Mk.start] at hc

/-- real and model agree ahead of each instruction -/
theorem rel_at {E : Env} (hr : ∀ u ∈ E.funs, u.results.length ≤ 1) (hm : E.me.results.length ≤ 1) (hz : ∀ x ∈ E.me.results, x ≠ 0) (src : List Ins) (hl : src.length ≤ 24) (hn : nestR src [] = 0) :
    ∀ (k : Nat), k ≤ src.length → (stateAt E src k = none ∧ stateM E src k = none) ∨ ∃ s m, stateAt E src k = some s ∧ stateM E src k = some m ∧ (k < src.length → Rel src k s m ∧ posM src k = s.code.length) ∧ (k = src.length → s.code = m.code)
  | 0, _ => by
    refine .inr ⟨_, _, rfl, rfl, fun _ => ⟨start_rel hm hz, rfl⟩, fun _ => rfl⟩
  | k + 1, hk => by
    have hlt : k < src.length := by omega
    rcases rel_at hr hm hz src hl hn k (by omega) with ⟨h1, h2⟩ | ⟨s, m, h1, h2, h3, h4⟩
    · left
      simp [stateAt, stateM, h1, h2]
    · obtain ⟨hrel, hpos⟩ := h3 hlt
      have hc : src[k]? = some src[k] := List.getElem?_eq_getElem hlt
      obtain ⟨opn, i1, i2, i3⟩ := (inv_at hr hm src hl hn k s h1).1 hlt
      obtain ⟨hw, hfit, b, r, htop, hal⟩ := body_ok hr hm src hl hn k s src[k] h1 hc
      have hblen := i3.j.c.len
      rw [List.drop_eq_getElem_cons hlt] at i1
      have hlast : src[k].op = 5 → r = [] → k + 1 = src.length := by
        intro h5 hr0
        have ho : opn = [] := by
          rw [htop.opn, hr0] at hblen
          exact List.eq_nil_of_length_eq_zero (by simp only [List.length_cons, List.length_nil] at hblen; omega)
        subst ho
        unfold nestR at i1
        rw [if_neg (by simp [hw]), if_neg (by omega), if_neg (by omega), if_pos h5] at i1
        simp only at i1
        split at i1
        · rename_i he
          have := congrArg List.length he
          simp at this; omega
        · cases i1
      have hnlast : ¬ (src[k].op = 5 ∧ r = []) → k + 1 ≠ src.length := by
        intro hne he
        have hd : src.drop (k + 1) = [] := List.drop_eq_nil_of_le (by omega)
        rw [hd] at i1
        unfold nestR at i1
        rw [if_neg (by simp [hw])] at i1
        have n0 : ∀ o, nestR [] o ≠ 0 := by intro o ho; unfold nestR at ho; cases ho
        split at i1
        · split at i1
          · cases i1
          · exact n0 _ i1
        · split at i1
          · split at i1
            · cases i1
            · split at i1
              · exact n0 _ i1
              · cases i1
          · split at i1
            · rename_i h5
              cases opn with
              | nil =>
                rw [htop.opn] at hblen
                exact hne ⟨h5, List.eq_nil_of_length_eq_zero (by simp at hblen; simpa using hblen)⟩
              | cons o q => exact n0 _ i1
            · exact n0 _ i1
      obtain ⟨e1, e2⟩ := rel_step (E := E) hrel hpos hc hw htop.opn hal hlast
      simp only [stateAt, stateM, h1, h2, hc]
      by_cases hz0 : (s.one E src[k]).2 = 0
      · rw [if_pos hz0, if_pos (by rw [← e1]; exact hz0)]
        refine .inr ⟨_, _, rfl, rfl, fun hk1 => ?_, fun hk1 => ?_⟩
        · exact (e2 hz0).1 (fun hh => by have := hlast hh.1 hh.2; omega)
        · exact (e2 hz0).2 (Classical.byContradiction fun hne => hnlast hne hk1)
      · rw [if_neg hz0, if_neg (by rw [← e1]; exact hz0)]
        exact .inl ⟨rfl, rfl⟩
theorem run_from {E : Env} (hr : ∀ u ∈ E.funs, u.results.length ≤ 1) (hm : E.me.results.length ≤ 1) (hz : ∀ x ∈ E.me.results, x ≠ 0) (src : List Ins) (hl : src.length ≤ 24) (hn : nestR src [] = 0) :
    ∀ (n k : Nat) (s : Ck) (m : Mk), src.length - k = n → k ≤ src.length → stateAt E src k = some s → stateM E src k = some m →
      (runCk E k (src.drop k) s).1 = (runMk E src k (src.drop k) m).1 ∧ ((runCk E k (src.drop k) s).1 = none → (runCk E k (src.drop k) s).2.code = (runMk E src k (src.drop k) m).2.code)
  | 0, k, s, m, hk, hle, hs, hm' => by
    have hd : src.drop k = [] := List.drop_eq_nil_of_le (by omega)
    rw [hd]
    refine ⟨rfl, fun _ => ?_⟩
    rcases rel_at hr hm hz src hl hn k hle with ⟨h1, h2⟩ | ⟨s', m', h1, h2, h3, h4⟩
    · rw [h1] at hs; cases hs
    · rw [h1] at hs; rw [h2] at hm'
      cases hs; cases hm'
      exact h4 (by omega)
  | n + 1, k, s, m, hk, hle, hs, hm' => by
    have hlt : k < src.length := by omega
    have hc : src[k]? = some src[k] := List.getElem?_eq_getElem hlt
    rw [List.drop_eq_getElem_cons hlt]
    have hnext := rel_at hr hm hz src hl hn (k + 1) hlt
    simp only [stateAt, stateM, hs, hm', hc] at hnext
    obtain ⟨opn, i1, i2, i3⟩ := (inv_at hr hm src hl hn k s hs).1 hlt
    obtain ⟨hw, hfit, b, r, htop, hal⟩ := body_ok hr hm src hl hn k s src[k] hs hc
    have hcode : (s.one E src[k]).2 = (m.one E src k src[k]).2 := by
      rcases rel_at hr hm hz src hl hn k hle with ⟨h1, h2⟩ | ⟨s', m', h1, h2, h3, h4⟩
      · rw [h1] at hs; cases hs
      · rw [h1] at hs; rw [h2] at hm'
        cases hs; cases hm'
        obtain ⟨hrel, hpos⟩ := h3 hlt
        have hblen := i3.j.c.len
        rw [List.drop_eq_getElem_cons hlt] at i1
        refine (rel_step (E := E) hrel hpos hc hw htop.opn hal ?_).1
        intro h5 hr0
        have ho : opn = [] := by
          rw [htop.opn, hr0] at hblen
          exact List.eq_nil_of_length_eq_zero (by simp only [List.length_cons, List.length_nil] at hblen; omega)
        subst ho
        unfold nestR at i1
        rw [if_neg (by simp [hw]), if_neg (by omega), if_neg (by omega), if_pos h5] at i1
        simp only at i1
        split at i1
        · rename_i he
          have := congrArg List.length he
          simp at this; omega
        · cases i1
    simp only [runCk, runMk]
    by_cases h0 : (s.one E src[k]).2 = 0
    · have h0' : (m.one E src k src[k]).2 = 0 := by rw [← hcode]; exact h0
      rw [if_pos h0, if_pos h0']
      exact run_from hr hm hz src hl hn n (k + 1) _ _ (by omega) hlt (by simp [stateAt, hs, hc, h0]) (by simp [stateM, hm', hc, h0'])
    · have h0' : ¬ (m.one E src k src[k]).2 = 0 := by rw [← hcode]; exact h0
      rw [if_neg h0, if_neg h0', hcode]
      exact ⟨rfl, fun e => by cases e⟩
theorem run_same {E : Env} (hr : ∀ u ∈ E.funs, u.results.length ≤ 1) (hm : E.me.results.length ≤ 1) (hz : ∀ x ∈ E.me.results, x ≠ 0) (src : List Ins) (hl : src.length ≤ 24) (hn : nestR src [] = 0) :
    (runCk E 0 src (Ck.start E.me.results)).1 = (runMk E src 0 src (Mk.start E.me.results)).1 ∧ ((runCk E 0 src (Ck.start E.me.results)).1 = none → (runCk E 0 src (Ck.start E.me.results)).2.code = (runMk E src 0 src (Mk.start E.me.results)).2.code) :=
  run_from hr hm hz src hl hn _ 0 _ _ rfl (Nat.zero_le _) rfl rfl
/-- the bounds under which the model's walk goes -/
structure Mk.Fit (m : Mk) : Prop where
  st : m.st.length ≤ 800
  cs : m.cs.length ≤ 800
  code : m.code.length ≤ 800
  ht : ∀ c ∈ m.cs, c.height ≤ 800
  top : ∃ c r, m.cs = c :: r ∧ c.height ≤ m.st.length
  bt : ∀ c ∈ m.cs, 0 ≤ c.bt ∧ c.bt ≤ 255
  at_ : ∀ c ∈ m.cs, c.at_ = -1 ∨ (0 ≤ c.at_ ∧ c.at_ ≤ 800)
end Go.Proofs.Qxb6500575aGreatDoor
