/-
  REGIONS THAT DRAW THEIR ORDER, numeric conversions among the reads (as Reg and Reg2). No program.
-/
import Derived.OrdersHeld
import Derived.Deep.Quiet
import Derived.BigQuiet
import Derived.StillTail
import Derived.WalkKit
namespace Go.Proofs.Qxb6500574aGreatDoor.C
open Go Go.RowKit
set_option linter.unusedVariables false
set_option linter.unusedSimpArgs false

section
variable {P : Program} {ops : Array Oper} {Q : Exit → Act → World → Prop} {md : Region.Mode} {S : World → Prop} {need : Nat → Bool}

/-- Whatever order is picked from here on, and S holds behind every operation that 'need' names. -/
def wpAnyM (P : Program) (md : Region.Mode) (ops : Array Oper) (Q : Exit → Act → World → Prop) (S : World → Prop) (need : Nat → Bool) : Nat → Array Bool → Act → World → Prop
  | 0, listed, a, w => Region.ready md ops listed = [] ∧ Q .normal a w
  | fuel + 1, listed, a, w =>
    (Region.ready md ops listed = [] → Q .normal a w) ∧
    ∀ i ∈ Region.ready md ops listed, wpOp P ops Q i (fun a' w' => (need i = true → S w') ∧ wpAnyM P md ops Q S need fuel (listed.setIfInBounds i true) a' w') a w

theorem wpAny_of_M : ∀ (fuel : Nat) (listed : Array Bool) (a : Act) (w : World), wpAnyM P md ops Q S need fuel listed a w → wpAny P md ops Q fuel listed a w
  | 0, _, _, _, h => h
  | fuel + 1, _, _, _, h => ⟨h.1, fun i hi => wpOp_mono (fun a' w' h' => wpAny_of_M fuel _ a' w' h'.2) (h.2 i hi)⟩

/-- what has come up is closed under what it waited for -/
def ClosedL (md : Region.Mode) (ops : Array Oper) (listed : Array Bool) : Prop :=
  ∀ j oj, ops[j]? = some oj → listed.getD j false = true → ∀ e ∈ oj.after, Region.binds md e = true → listed.getD e.on false = true
theorem ClosedL.set {listed : Array Bool} (h : ClosedL md ops listed) {i : Nat} (hi : i ∈ Region.ready md ops listed) : ClosedL md ops (listed.setIfInBounds i true) := by
  obtain ⟨_, oi, hoi, hall⟩ := mem_ready.1 hi
  intro j oj hj hl e he hb
  by_cases hij : i = j
  · subst hij
    obtain rfl := Option.some.inj (hj.symm.trans hoi)
    exact getD_set_true (hall e he hb)
  · rw [getD_set_ne false hij] at hl
    exact getD_set_true (h j oj hj hl e he hb)

/-- An operation that yields its value in every world that meets S may be taken first: what may come up ahead of it leaves S. -/
theorem wpAnyM_first {i : Nat} {oi : Oper} {v : Value} (hi : ops[i]? = some oi) (hsel : ∀ (j : Nat) (o : Oper) cs b, ops[j]? = some o → o.op ≠ .select cs b)
    (hQ : ∀ c a w, Q (.panic c) (a.put oi.dst v) w → Q (.panic c) a w) (G : Array Bool → Prop) (hG : ∀ listed j, G listed → G (listed.setIfInBounds j true))
    (hblk : ∀ listed, G listed → ClosedL md ops listed → listed.getD i true = false → ∀ j ∈ Region.ready md ops listed, need j = true) :
    ∀ (fuel : Nat) (listed : Array Bool) (a : Act) (w : World), G listed → ClosedL md ops listed →
      (∀ j oj, ops[j]? = some oj → j ≠ i → listed.getD j true = false → (∀ e ∈ oj.after, Region.binds md e = true → e.on ≠ i) → oi.apart ops oj = true) →
      i ∈ Region.ready md ops listed → YieldsIf P ops S oi v a → S w →
      wpAnyM P md ops Q S need fuel (listed.setIfInBounds i true) (a.put oi.dst v) w → wpAnyM P md ops Q S need (fuel + 1) listed a w := by
  intro fuel
  induction fuel with
  | zero =>
    intro listed a w _ _ _ hr hy hS H
    refine ⟨fun h => (by rw [h] at hr; cases hr), fun j hj => ?_⟩
    by_cases hji : j = i
    · subst hji; exact hy.wpOp hi hS ⟨fun _ => hS, H⟩
    · have := ready_mono hj hji
      rw [H.1] at this
      cases this
  | succ fuel ih =>
    intro listed a w hGl hcl hfree hr hy hS H
    refine ⟨fun h => (by rw [h] at hr; cases hr), fun j hj => ?_⟩
    by_cases hji : j = i
    · subst hji; exact hy.wpOp hi hS ⟨fun _ => hS, H⟩
    · have h1 := H.2 j (ready_mono hj hji)
      have hjm := hblk listed hGl hcl (mem_ready.1 hr).1 j hj
      obtain ⟨hjun, oj, hoj, hall⟩ := mem_ready.1 hj
      have hnot : ∀ e ∈ oj.after, Region.binds md e = true → e.on ≠ i := fun e he hb heq => by
        have h1 := hall e he hb
        have h0 := (mem_ready.1 hr).1
        rw [heq] at h1
        rcases Nat.lt_or_ge i listed.size with h' | h'
        · simp [h'] at h0 h1; rw [h0] at h1; cases h1
        · simp [Array.getElem?_eq_none h'] at h1
      have h2 := wpOp_putIf hoj (hfree j oj hoj hji hjun hnot) (fun cs b => hsel i oi cs b hi) (fun cs b => hsel j oj cs b hoj) hQ hy h1
      have hfree' : ∀ k ok, ops[k]? = some ok → k ≠ i → (listed.setIfInBounds j true).getD k true = false →
          (∀ e ∈ ok.after, Region.binds md e = true → e.on ≠ i) → oi.apart ops ok = true := fun k ok hk hki hun hno => by
        refine hfree k ok hk hki ?_ hno
        by_cases hjk : j = k
        · subst hjk; exact hjun
        · rw [getD_set_ne true hjk] at hun; exact hun
      refine wpOp_mono (fun a' w' h3 => ⟨fun _ => h3.2.1 hjm, ih (listed.setIfInBounds j true) a' w' (hG _ _ hGl) (hcl.set hj) hfree' (ready_mono hr (Ne.symm hji)) h3.1 (h3.2.1 hjm) ?_⟩) h2
      rw [Array.setIfInBounds_comm _ _ hji]
      exact h3.2.2

/-- .. and one that yields its value in whatever world: nobody need wait for it, nothing is asked behind it -/
theorem wpAnyM_firstY {i : Nat} {oi : Oper} {v : Value} (hi : ops[i]? = some oi) (hsel : ∀ (j : Nat) (o : Oper) cs b, ops[j]? = some o → o.op ≠ .select cs b)
    (hQ : ∀ c a w, Q (.panic c) (a.put oi.dst v) w → Q (.panic c) a w) (hni : need i = false) :
    ∀ (fuel : Nat) (listed : Array Bool) (a : Act) (w : World),
      (∀ j oj, ops[j]? = some oj → j ≠ i → listed.getD j true = false → (∀ e ∈ oj.after, Region.binds md e = true → e.on ≠ i) → oi.apart ops oj = true) →
      i ∈ Region.ready md ops listed → YieldsIf P ops (fun _ => True) oi v a →
      wpAnyM P md ops Q S need fuel (listed.setIfInBounds i true) (a.put oi.dst v) w → wpAnyM P md ops Q S need (fuel + 1) listed a w := by
  intro fuel
  induction fuel with
  | zero =>
    intro listed a w _ hr hy H
    refine ⟨fun h => (by rw [h] at hr; cases hr), fun j hj => ?_⟩
    by_cases hji : j = i
    · subst hji; exact hy.wpOp hi trivial ⟨fun h => (by rw [hni] at h; cases h), H⟩
    · have := ready_mono hj hji
      rw [H.1] at this
      cases this
  | succ fuel ih =>
    intro listed a w hfree hr hy H
    refine ⟨fun h => (by rw [h] at hr; cases hr), fun j hj => ?_⟩
    by_cases hji : j = i
    · subst hji; exact hy.wpOp hi trivial ⟨fun h => (by rw [hni] at h; cases h), H⟩
    · have h1 := H.2 j (ready_mono hj hji)
      obtain ⟨hjun, oj, hoj, hall⟩ := mem_ready.1 hj
      have hnot : ∀ e ∈ oj.after, Region.binds md e = true → e.on ≠ i := fun e he hb heq => by
        have h1 := hall e he hb
        have h0 := (mem_ready.1 hr).1
        rw [heq] at h1
        rcases Nat.lt_or_ge i listed.size with h' | h'
        · simp [h'] at h0 h1; rw [h0] at h1; cases h1
        · simp [Array.getElem?_eq_none h'] at h1
      have h2 := wpOp_putIf (S := fun _ => True) hoj (hfree j oj hoj hji hjun hnot) (fun cs b => hsel i oi cs b hi) (fun cs b => hsel j oj cs b hoj) hQ hy h1
      have hfree' : ∀ k ok, ops[k]? = some ok → k ≠ i → (listed.setIfInBounds j true).getD k true = false →
          (∀ e ∈ ok.after, Region.binds md e = true → e.on ≠ i) → oi.apart ops ok = true := fun k ok hk hki hun hno => by
        refine hfree k ok hk hki ?_ hno
        by_cases hjk : j = k
        · subst hjk; exact hjun
        · rw [getD_set_ne true hjk] at hun; exact hun
      refine wpOp_mono (fun a' w' h3 => ⟨h3.2.1, ih (listed.setIfInBounds j true) a' w' hfree' (ready_mono hr (Ne.symm hji)) h3.1 ?_⟩) h2
      rw [Array.setIfInBounds_comm _ _ hji]
      exact h3.2.2

/-- each operation ahead of number m (those of A aside) is waited for by a later one up to m; behind m each waits for the one ahead of it -/
def sinkA (md : Region.Mode) (ops : Array Oper) (m : Nat) (A : List Nat) : Bool :=
  ((List.range m).all fun i => A.contains i || (List.range (m + 1)).any fun j => decide (i < j) && !A.contains j && Region.waitsFor md ops j i) && ((List.range ops.size).all fun t => decide (t ≤ m) || Region.waitsFor md ops t (t - 1))

theorem sinkA_blocks {m : Nat} {A : List Nat} (hs : sinkA md ops m A = true) {listed : Array Bool} (hcl : ClosedL md ops listed) {i : Nat} (hi : i < m) (hA : A.contains i = false) (hun : listed.getD i true = false) : ∀ t, m ≤ t → t ∉ Region.ready md ops listed := by
  simp only [sinkA, Bool.and_eq_true] at hs
  obtain ⟨h1, h2⟩ := hs
  have unl : ∀ (k j : Nat), Region.waitsFor md ops j k = true → listed.getD k true = false → listed.getD j false = false := by
    intro k j hw hk
    obtain ⟨oj, hoj, e, he, hb, hon⟩ := Region.waitsFor_spec hw
    cases hl : listed.getD j false with
    | false => rfl
    | true =>
      have := hcl j oj hoj hl e he hb
      rw [hon, getD_both hk] at this
      cases this
  have rdy : ∀ (k t : Nat), Region.waitsFor md ops t k = true → listed.getD k false = false → t ∉ Region.ready md ops listed := by
    intro k t hw hk hr
    obtain ⟨ot, hot, e, he, hb, hon⟩ := Region.waitsFor_spec hw
    obtain ⟨_, o', ho', hall⟩ := mem_ready.1 hr
    obtain rfl := Option.some.inj (hot.symm.trans ho')
    have := hall e he hb
    rw [hon, hk] at this
    cases this
  -- m itself has not come up, nor may
  have key : ∀ (d i : Nat), m - i = d → i < m → A.contains i = false → listed.getD i true = false → listed.getD m false = false ∧ m ∉ Region.ready md ops listed := by
    intro d
    induction d using Nat.strongRecOn with
    | _ d ih =>
      intro i hd hi hA hun
      have h3 := List.all_eq_true.1 h1 i (List.mem_range.2 hi)
      simp only [hA, Bool.false_or] at h3
      obtain ⟨j, hj, hj2⟩ := List.any_eq_true.1 h3
      simp only [Bool.and_eq_true, decide_eq_true_eq, Bool.not_eq_true'] at hj2
      have hjle : j ≤ m := by have := List.mem_range.1 hj; omega
      have hju := unl i j hj2.2 hun
      by_cases hjm : j = m
      · subst hjm
        exact ⟨hju, rdy i j hj2.2 (getD_both hun)⟩
      · obtain ⟨oj, hoj, _⟩ := Region.waitsFor_spec hj2.2
        have hjt : listed.getD j true = false ∨ listed.size ≤ j := by
          rcases Nat.lt_or_ge j listed.size with h' | h'
          · left; exact getD_in h' hju
          · exact .inr h'
        rcases hjt with hjt | hjt
        · exact ih (m - j) (by omega) j rfl (by omega) hj2.1.2 hjt
        · -- out of the list: nothing that waits may come up
          have hil : i < listed.size := by
            rcases Nat.lt_or_ge i listed.size with h' | h'
            · exact h'
            · simp [Array.getElem?_eq_none h'] at hun
          have hm' : listed.size ≤ m := by omega
          refine ⟨by simp [Array.getElem?_eq_none hm'], fun hr => ?_⟩
          have := (mem_ready.1 hr).1
          simp [Array.getElem?_eq_none hm'] at this
  intro t ht hr
  obtain ⟨km, kr⟩ := key (m - i) i rfl hi hA hun
  obtain ⟨_, ot, hot, hall⟩ := mem_ready.1 hr
  have htl : t < ops.size := (Array.getElem?_eq_some_iff.1 hot).1
  -- from m on: none has come up
  have up : ∀ d, m + d < ops.size → listed.getD (m + d) false = false := by
    intro d
    induction d with
    | zero => intro _; exact km
    | succ d ih =>
      intro hd
      have h4 := List.all_eq_true.1 h2 (m + (d + 1)) (List.mem_range.2 hd)
      simp only [Bool.or_eq_true, decide_eq_true_eq] at h4
      rcases h4 with h4 | h4
      · omega
      · obtain ⟨oj, hoj, e, he, hb, hon⟩ := Region.waitsFor_spec h4
        have ih' := ih (by omega)
        cases hl : listed.getD (m + (d + 1)) false with
        | false => rfl
        | true =>
          have := hcl _ oj hoj hl e he hb
          rw [hon, show m + (d + 1) - 1 = m + d by omega, ih'] at this
          cases this
  by_cases htm : t = m
  · subst htm; exact kr hr
  · have h4 := List.all_eq_true.1 h2 t (List.mem_range.2 htl)
    simp only [Bool.or_eq_true, decide_eq_true_eq] at h4
    rcases h4 with h4 | h4
    · omega
    · have := up (t - 1 - m) (by omega)
      rw [show m + (t - 1 - m) = t - 1 by omega] at this
      exact rdy (t - 1) t h4 this hr

/-- What only reads, and is no call. -/
def quietKind (o : Oper) : Bool :=
  match o.op with
  | .move _ | .assign _ | .pick _ _ _ | .load _ _ | .binOp _ _ _ _ _ | .unOp _ _ _ | .fieldAddr _ _ _ | .field _ _ _ | .indexAddr _ _ _ | .index _ _ _ | .extract _ _ | .build _ _ | .slice _ _ _ _ _ | .lookup _ _ _ _ | .nilCheck _ | .convert _ _ _ => true
  | .call c => match c.callee with | .builtin .len => true | _ => false
  | _ => false

theorem run_val {s : Sem Value} {w w' : World} {n : Next} (h : ((do pure (.value (← s))) : Sem Next).run P w = .ok n w') : ∃ v, n = .value v := by
  rw [Sem.run_bind] at h
  cases hs : s.run P w with
  | ok a w1 => rw [hs] at h; simp at h; exact ⟨a, h.1.symm⟩
  | halt x w1 => rw [hs] at h; simp [Result.andThen] at h

theorem run_bindV {α : Type} {s : Sem α} {f : α → Sem Next} {w w' : World} {n : Next} (hf : ∀ a w n w', (f a).run P w = .ok n w' → ∃ v, n = .value v) (h : (s >>= f).run P w = .ok n w') : ∃ v, n = .value v := by
  rw [Sem.run_bind] at h
  cases hs : s.run P w with
  | ok a w1 => rw [hs] at h; exact hf _ _ _ _ h
  | halt x w1 => rw [hs] at h; simp [Result.andThen] at h

theorem quietKind_value {o : Oper} (hk : quietKind o = true) {ρ : Operand → Value} {w w' : World} {n : Next} (h : (execOp ρ o).run P w = .ok n w') : ∃ v, n = .value v := by
  obtain ⟨dst, op, type, pos, after, guard⟩ := o
  cases op <;> simp only [quietKind] at hk <;> first | cases hk | skip
  all_goals (simp only [execOp] at h)
  all_goals first
    | exact run_val h
    | (simp at h; exact ⟨_, h.1.symm⟩)
    | skip
  case pick c a b =>
    rw [Sem.run_bind] at h
    cases hs : (asBool (ρ c)).run P w with
    | ok a w1 => rw [hs] at h; simp at h; exact ⟨_, h.1.symm⟩
    | halt x w1 => rw [hs] at h; simp [Result.andThen] at h
  case nilCheck x =>
    split at h
    · simp [runtimePanic] at h
    · simp [runtimePanic] at h
    · simp [runtimePanic] at h
    · split at h
      · simp [runtimePanic] at h
      · refine run_bindV (fun p w1 n1 w2 h1 => ?_) h
        refine run_bindV (fun p w1 n1 w2 h1 => ?_) h1
        split at h1
        · simp [unsupported, Sem.run, Result.andThen] at h1
        · simp at h1; exact ⟨_, h1.1.symm⟩
      · simp at h; exact ⟨_, h.1.symm⟩
    · simp at h; exact ⟨_, h.1.symm⟩
  case call c =>
    obtain ⟨callee, args, ts⟩ := c
    cases callee with
    | value f => cases hk
    | invoke r n => cases hk
    | builtin b =>
      cases b <;> first | cases hk | skip
      simp only [resolve, Sem.run_bind, Sem.run_pure, Result.andThen_ok, invoke, builtin] at h
      have h' : ((do pure (.value (← Builtin.len_ ts type (args.map ρ))) : Sem Next)).run P w = .ok n w' := by rw [Sem.run_bind]; exact h
      exact run_val h'
end

section
variable {P : Program} {ops : Array Oper} {Q : Exit → Act → World → Prop} {md : Region.Mode} {S : World → Prop} {need : Nat → Bool}

/-- One operation of the quiet walk, of a kind that calls nothing, yields its value in every world of the kind. -/
theorem yieldsIf_of_quiet {o : Oper} {a : Act} {K : Act → Prop} (hk : quietKind o = true) (h : if Region.wanted o (yielded ops a.tmps) then o.quiet P a S K else K (a.put o.dst undef)) :
    ∃ v, YieldsIf P ops S o v a ∧ K (a.put o.dst v) := by
  by_cases hw : Region.wanted o (yielded ops a.tmps) = true
  · rw [if_pos hw] at h
    obtain ⟨v, h1, h2⟩ := h
    refine ⟨v, .inl ⟨hw, fun w hw' => ?_⟩, h2⟩
    have h3 := h1 w hw'
    unfold Oper.quietAt at h3
    cases hr : (execOp a.eval o).run P w with
    | ok n w' =>
      obtain ⟨u, rfl⟩ := quietKind_value hk hr
      rw [hr] at h3
      obtain ⟨rfl, rfl⟩ := h3
      rfl
    | halt x w' => rw [hr] at h3; exact h3.elim
  · rw [if_neg hw] at h
    exact ⟨undef, .inr ⟨by simpa using hw, rfl⟩, h⟩
def moveKind (o : Oper) : Bool := match o.op with | .move _ | .assign _ => true | _ => false
/-- a mere copy yields its value in whatever world -/
theorem yields_move {o : Oper} {a : Act} {v : Value} {w : World} (hk : moveKind o = true) (h : YieldsIf P ops S o v a) (hS : S w) : YieldsIf P ops (fun _ => True) o v a := by
  obtain ⟨dst, op, type, pos, after, guard⟩ := o
  rcases h with ⟨hw, h⟩ | h
  · refine .inl ⟨hw, fun w' _ => ?_⟩
    have h0 := h w hS
    cases op <;> simp only [moveKind] at hk <;> first | cases hk | skip
    all_goals
      simp [execOp] at h0 ⊢
      exact h0
  · exact .inr h

/-- The head: each may come up, is free; or it is a mere copy of A. -/
def headFrom (md : Region.Mode) (ops : Array Oper) (m : Nat) (A : List Nat) : List Nat → Array Bool → Bool
  | [], _ => true
  | k :: ks, listed => (Region.ready md ops listed).contains k && Region.free md ops listed k && ((ops[k]?).map quietKind).getD false && ((decide (k < m) && !A.contains k && A.all (fun p => listed.getD p false)) || (A.contains k && ((ops[k]?).map moveKind).getD false)) && headFrom md ops m A ks (listed.setIfInBounds k true)
/-- The rest: one at a time. -/
def chainFrom (md : Region.Mode) (ops : Array Oper) : Nat → Nat → Array Bool → Bool
  | 0, _, listed => (Region.ready md ops listed).isEmpty
  | fuel + 1, k, listed => (Region.ready md ops listed == [k]) && chainFrom md ops fuel (k + 1) (listed.setIfInBounds k true)
def listAll : List Nat → Array Bool → Array Bool
  | [], listed => listed
  | k :: ks, listed => listAll ks (listed.setIfInBounds k true)

def needOf (m : Nat) (A : List Nat) (i : Nat) : Bool := decide (i < m) && !A.contains i

theorem wpAnyM_head {m : Nat} {A : List Nat} (hs : Region.noSelect ops = true) (hsk : sinkA md ops m A = true) (hQ : ∀ c a t v w, Q (.panic c) (a.put (some t) v) w → Q (.panic c) a w) {w : World} (hS : S w) (g : Nat) {T : Act → Prop} :
    ∀ (ks : List Nat) (l : List Oper) (listed : Array Bool) (a : Act), ClosedL md ops listed → ks.map (fun k => ops[k]?) = l.map some → headFrom md ops m A ks listed = true →
      (∀ a', T a' → wpAnyM P md ops Q S (needOf m A) g (listAll ks listed) a' w) → wpQuiet P ops S T l a → wpAnyM P md ops Q S (needOf m A) (ks.length + g) listed a w
  | [], [], _, a, _, _, _, hT, h => by simpa [listAll] using hT a h
  | [], _ :: _, _, _, _, hl, _, _, _ => by simp at hl
  | _ :: _, [], _, _, _, hl, _, _, _ => by simp at hl
  | k :: ks, o :: l, listed, a, hcl, hl, hB, hT, h => by
    simp only [List.map_cons, List.cons.injEq] at hl
    obtain ⟨h0, hl⟩ := hl
    simp only [headFrom, Bool.and_eq_true, h0, Option.map_some, Option.getD_some, Bool.or_eq_true, Bool.not_eq_true', decide_eq_true_eq] at hB
    obtain ⟨⟨⟨⟨hr, hf⟩, hk⟩, hnd⟩, hB'⟩ := hB
    have hr' : k ∈ Region.ready md ops listed := by simpa using hr
    obtain ⟨v, hy, hK⟩ := yieldsIf_of_quiet (K := wpQuiet P ops S T l) hk h
    have hq : ∀ c a w, Q (.panic c) (a.put o.dst v) w → Q (.panic c) a w := by
      intro c a w hq
      cases hd : o.dst with
      | none => rw [hd] at hq; exact hq
      | some t => rw [hd] at hq; exact hQ c a t v w hq
    rw [show (k :: ks).length + g = (ks.length + g) + 1 by simp; omega]
    have rest := wpAnyM_head hs hsk hQ hS g ks l (listed.setIfInBounds k true) (a.put o.dst v) (hcl.set hr') hl hB' hT hK
    rcases hnd with ⟨⟨hkm, hkA⟩, hAl⟩ | ⟨hn, hmv⟩
    · refine wpAnyM_first h0 (Region.noSelect_spec hs) hq (fun listed => ∀ p ∈ A, listed.getD p false = true) (fun listed j hG p hp => getD_set_true (hG p hp)) ?_ (ks.length + g) listed a w (fun p hp => List.all_eq_true.1 hAl p hp) hcl (Region.free_spec h0 hf) hr' hy hS rest
      intro lst hG hc hun j hj
      have hjm : j < m := by
        rcases Nat.lt_or_ge j m with h' | h'
        · exact h'
        · exact absurd hj (sinkA_blocks hsk hc hkm hkA hun j h')
      have hjA : A.contains j = false := by
        cases hc' : A.contains j with
        | false => rfl
        | true =>
          have h1 := hG j (by simpa using hc')
          have h2 := (mem_ready.1 hj).1
          rw [getD_both h2] at h1
          cases h1
      unfold needOf
      rw [hjA]
      simp [hjm]
    · exact wpAnyM_firstY h0 (Region.noSelect_spec hs) hq (by unfold needOf; rw [hn]; simp) (ks.length + g) listed a w (Region.free_spec h0 hf) hr' (yields_move hmv hy hS) rest

/-- The operations that make or write memory (or call) ahead of the tail: S behind each; then the tail. -/
def wpChain (P : Program) (ops : Array Oper) (Q : Exit → Act → World → Prop) (S : World → Prop) : List Oper → Nat → Act → World → Prop
  | o :: rest, c + 1, a, w => wpList P ops (Exit.then (fun a' w' => S w' ∧ wpChain P ops Q S rest c a' w') Q) [o] a w
  | l, _, a, w => wpList P ops Q l a w

theorem wpAnyM_tail : ∀ (l : List Oper) (k : Nat) (listed : Array Bool) (a : Act) (w : World), (∀ j, k ≤ j → need j = false) → (∀ j, l[j]? = ops[k + j]?) → chainFrom md ops l.length k listed = true →
    wpList P ops Q l a w → wpAnyM P md ops Q S need l.length listed a w
  | [], _, _, _, _, _, _, hB, h => ⟨by simpa [chainFrom] using hB, h⟩
  | o :: l, k, listed, a, w, hmk, hl, hB, h => by
    have h0 : ops[k]? = some o := by simpa using (hl 0).symm
    simp only [List.length_cons, chainFrom, Bool.and_eq_true, beq_iff_eq] at hB
    refine ⟨fun h' => (by rw [hB.1] at h'; cases h'), fun i hi => ?_⟩
    rw [hB.1] at hi
    obtain rfl : i = k := by simpa using hi
    have key := fun a' w' => wpAnyM_tail l (i + 1) (listed.setIfInBounds i true) a' w' (fun j hj => hmk j (by omega)) (fun j => by have := hl (j + 1); simpa [Nat.add_assoc, Nat.add_comm 1 j] using this) hB.2
    have hni : ∀ w' : World, need i = true → S w' := fun _ hn => by rw [hmk i (Nat.le_refl _)] at hn; cases hn
    unfold wpOp
    simp only [h0]
    unfold wpList at h
    split
    · rename_i hw
      rw [if_pos hw] at h
      exact h.imp (Oper.wp_mono fun a' w' h' => ⟨hni w', key a' w' h'⟩) id
    · rename_i hw
      rw [if_neg hw] at h
      exact ⟨hni _, key _ _ h⟩

theorem wp_then {o : Oper} {a : Act} {w : World} {K K' : Act → World → Prop} (h : o.wp P a w K (Exit.then K' Q)) : o.wp P a w K Q := by
  unfold Oper.wp at *
  generalize (execOp a.eval o).run P w = r at *
  cases r with
  | ok n w' =>
    cases n <;> simp only [Oper.upon] at h ⊢ <;> exact h
  | halt x w' => cases x <;> simp only [Oper.upon] at h ⊢ <;> exact h
theorem wpAnyM_chain : ∀ (c : Nat) (l : List Oper) (k : Nat) (listed : Array Bool) (a : Act) (w : World), (∀ j, k + c ≤ j → need j = false) → c ≤ l.length → (∀ j, l[j]? = ops[k + j]?) → chainFrom md ops l.length k listed = true →
    wpChain P ops Q S l c a w → wpAnyM P md ops Q S need l.length listed a w
  | 0, l, k, listed, a, w, hkc, _, hl, hB, h => wpAnyM_tail l k listed a w hkc hl hB (by cases l <;> exact h)
  | c + 1, [], _, _, _, _, _, hc, _, _, _ => by simp at hc
  | c + 1, o :: l, k, listed, a, w, hkc, hc, hl, hB, h => by
    have h0 : ops[k]? = some o := by simpa using (hl 0).symm
    simp only [List.length_cons, chainFrom, Bool.and_eq_true, beq_iff_eq] at hB
    refine ⟨fun h' => (by rw [hB.1] at h'; cases h'), fun i hi => ?_⟩
    rw [hB.1] at hi
    obtain rfl : i = k := by simpa using hi
    have key := fun a' w' => wpAnyM_chain c l (i + 1) (listed.setIfInBounds i true) a' w' (fun j hj => hkc j (by omega)) (by simpa using hc) (fun j => by have := hl (j + 1); simpa [Nat.add_assoc, Nat.add_comm 1 j] using this) hB.2
    unfold wpChain wpList at h
    unfold wpOp
    simp only [h0]
    split
    · rename_i hw
      rw [if_pos hw] at h
      rcases h with h | ⟨h1, h2⟩
      · exact .inl (Oper.wp_mono (fun a' w' h' => ⟨fun _ => h'.1, key a' w' h'.2⟩) (wp_then h))
      · exact .inr ⟨h1, h2⟩
    · rename_i hw
      rw [if_neg hw] at h
      exact ⟨fun _ => h.1, key _ _ h.2⟩

/-- A: the mere copies of the head that not all of the tail waits for: taken first of all. -/
def headOrder (n : Nat) : List Nat → List Nat
  | [] => List.range n
  | p :: _ => p :: (List.range n).eraseIdx p
def headB (ops : Array Oper) (n c : Nat) (A : List Nat) : Bool :=
  Region.noSelect ops && decide (n + c ≤ ops.size) && decide ((headOrder n A).length = n) && (headOrder n A).all (fun i => decide (i < n)) && sinkA .any ops (n + c) A && headFrom .any ops (n + c) A (headOrder n A) (Array.replicate ops.size false) && chainFrom .any ops (ops.size - n) n (listAll (headOrder n A) (Array.replicate ops.size false))

/-- n operations of the head (those of A first), c that make or write memory, the tail. -/
theorem wp_region_headA {id : Nat} {a : Act} {w : World} {l : List Oper} (n c : Nat) (A : List Nat) (S : World → Prop) (hm : P.follows .mixedOrders = true) (hB : headB l.toArray n c A = true)
    (hQ : ∀ c a t v w, Q (.panic c) (a.put (some t) v) w → Q (.panic c) a w) (hS : S w.drew) (hl : List Oper) (hh : (headOrder n A).map (fun k => l.toArray[k]?) = hl.map some)
    (h : wpQuiet P l.toArray S (fun a' => wpChain P l.toArray Q S (l.drop n) c a' w.drew) hl a) : (Code.region id l.toArray true).wp P Q a w := by
  simp only [headB, Bool.and_eq_true, decide_eq_true_eq] at hB
  obtain ⟨⟨⟨⟨⟨⟨hs, hn⟩, hlen⟩, _⟩, hsk⟩, hhd⟩, hc⟩ := hB
  refine wp_region_any hm (wpAny_of_M (S := S) (need := needOf (n + c) A) _ _ _ _ ?_)
  have hld : (l.drop n).length = l.toArray.size - n := by simp
  have hcl0 : ClosedL .any l.toArray (Array.replicate l.toArray.size false) := fun j oj _ hl => by rw [getD_replicate_false] at hl; cases hl
  have := wpAnyM_head (P := P) (ops := l.toArray) (Q := Q) (md := .any) (S := S) (m := n + c) (A := A) hs hsk hQ hS (l.drop n).length (T := fun a' => wpChain P l.toArray Q S (l.drop n) c a' w.drew) (headOrder n A) hl (Array.replicate l.toArray.size false) a hcl0 hh hhd
    (fun a' ha' => wpAnyM_chain c (l.drop n) n _ a' w.drew (fun j hj => by simp [needOf]; omega) (by rw [hld]; omega) (fun j => by simp) (by rw [hld]; exact hc) ha') h
  rw [hlen, hld] at this
  rw [show n + (l.toArray.size - n) = l.toArray.size by omega] at this
  exact this
theorem headOrder_nil (n : Nat) : headOrder n [] = List.range n := rfl
theorem wp_region_head {id : Nat} {a : Act} {w : World} {l : List Oper} (n c : Nat) (S : World → Prop) (hm : P.follows .mixedOrders = true) (hB : headB l.toArray n c [] = true)
    (hQ : ∀ c a t v w, Q (.panic c) (a.put (some t) v) w → Q (.panic c) a w) (hS : S w.drew)
    (h : wpQuiet P l.toArray S (fun a' => wpChain P l.toArray Q S (l.drop n) c a' w.drew) (l.take n) a) : (Code.region id l.toArray true).wp P Q a w := by
  refine wp_region_headA n c [] S hm hB hQ hS (l.take n) ?_ h
  simp only [headB, Bool.and_eq_true, decide_eq_true_eq] at hB
  obtain ⟨⟨⟨⟨⟨⟨_, hn⟩, _⟩, _⟩, _⟩, _⟩, _⟩ := hB
  rw [headOrder_nil]
  have hn' : n + c ≤ l.length := by simpa using hn
  apply List.ext_getElem?
  intro i
  by_cases hi : i < n
  · have : i < l.length := by omega
    simp [hi, this]
  · simp [hi]; omega
/-- an operation that yields its value -/
theorem chain_of_run {o : Oper} {rest : List Oper} {c : Nat} {a : Act} {w w' : World} {v : Value} (hg : o.guard = none) (hr : (execOp a.eval o).run P w = .ok (.value v) w') (h : S w' ∧ wpChain P ops Q S rest c (a.put o.dst v) w') : wpChain P ops Q S (o :: rest) (c + 1) a w := by
  have hw : Region.wanted o (yielded ops a.tmps) = true := by simp [Region.wanted, hg]
  unfold wpChain wpList
  rw [if_pos hw]
  refine .inl ?_
  unfold Oper.wp; rw [hr]; exact h
/-- what yields its value in whatever world -/
theorem quiet_pure {C : World → Prop} {o : Oper} {a : Act} {K : Act → Prop} (v : Value) (hv : ∀ w, (execOp a.eval o).run P w = .ok (.value v) w) (hk : K (a.put o.dst v)) : o.quiet P a C K :=
  ⟨v, fun w _ => by unfold Oper.quietAt; rw [hv w]; exact ⟨rfl, rfl⟩, hk⟩
/-- a load of one cell, quiet in every world of the kind -/
theorem quiet_load1 {C : World → Prop} {o : Oper} {a : Act} {K : Act → Prop} {T : TypeId} (x : Operand) (p : Addr) (v : Value) (ho : o.op = .load T x) (hx : a.eval x = .pointer (some p)) (hT : (isAgg T).run P = fun w => .ok false w) (hC : ∀ w, C w → w.cell? p = some v) (hk : K (a.put o.dst v)) : o.quiet P a C K := by
  refine ⟨v, fun w hw => ?_, hk⟩
  unfold Oper.quietAt
  have : (execOp a.eval o).run P w = .ok (.value v) w := by
    simp [execOp, ho, hx, Instr.loadAt, Instr.sureAddr, loadVar, Sem.run_bind, hT, load, Sem.run, hC w hw]
  rw [this]
  exact ⟨rfl, rfl⟩
theorem wpChain_zero (P : Program) (ops : Array Oper) (Q : Exit → Act → World → Prop) (S : World → Prop) (l : List Oper) (a : Act) (w : World) : wpChain P ops Q S l 0 a w = wpList P ops Q l a w := by cases l <;> rfl
/-- n operations that only read, then a tail that waits for all of them -/
theorem wp_region_tail {id : Nat} {a : Act} {w : World} {l : List Oper} (n : Nat) (hm : P.follows .mixedOrders = true) (hB : headB l.toArray n 0 [] = true)
    (hQ : ∀ c a t v w, Q (.panic c) (a.put (some t) v) w → Q (.panic c) a w)
    (h : wpQuiet P l.toArray (fun x => x = w.drew) (fun a' => wpList P l.toArray Q (l.drop n) a' w.drew) (l.take n) a) : (Code.region id l.toArray true).wp P Q a w :=
  wp_region_head n 0 (fun x => x = w.drew) hm hB hQ rfl (by simp only [wpChain_zero]; exact h)
theorem map_erase {α β : Type} (f : α → β) : ∀ (l : List α) (i : Nat), (l.eraseIdx i).map f = (l.map f).eraseIdx i
  | [], _ => rfl
  | _ :: _, 0 => rfl
  | x :: l, i + 1 => by simp [map_erase f l i]
/-- .. a mere copy of the head aside (number p), for which not all of the tail waits -/
theorem wp_region_tailA {id : Nat} {a : Act} {w : World} {l : List Oper} (n p : Nat) (hm : P.follows .mixedOrders = true) (hB : headB l.toArray n 0 [p] = true)
    (hQ : ∀ c a t v w, Q (.panic c) (a.put (some t) v) w → Q (.panic c) a w) (o : Oper) (ho : l[p]? = some o)
    (h : wpQuiet P l.toArray (fun x => x = w.drew) (fun a' => wpList P l.toArray Q (l.drop n) a' w.drew) (o :: (l.take n).eraseIdx p) a) : (Code.region id l.toArray true).wp P Q a w := by
  refine wp_region_headA n 0 [p] (fun x => x = w.drew) hm hB hQ rfl (o :: (l.take n).eraseIdx p) ?_ (by simp only [wpChain_zero]; exact h)
  simp only [headB, Bool.and_eq_true, decide_eq_true_eq] at hB
  obtain ⟨⟨⟨⟨⟨⟨_, hn⟩, _⟩, _⟩, _⟩, _⟩, _⟩ := hB
  have hn' : n ≤ l.length := by simpa using hn
  have e : (List.range n).map (fun k => l.toArray[k]?) = (l.take n).map some := by
    apply List.ext_getElem?
    intro i
    by_cases hi : i < n
    · have : i < l.length := by omega
      simp [hi, this]
    · simp [hi]; omega
  simp only [headOrder, List.map_cons, map_erase, e]
  simp [ho]
end
section
variable {P : Program} {Q : Exit → Act → World → Prop} {S : World → Prop}
def midB (ops : Array Oper) (ks : List Nat) (k1 t : Nat) : Bool :=
  Region.noSelect ops && decide (ks.length + (1 + (ops.size - t)) = ops.size) && decide (k1 < t) && sinkA .any ops t [] && headFrom .any ops t [] ks (Array.replicate ops.size false) && (Region.ready .any ops (listAll ks (Array.replicate ops.size false)) == [k1]) && chainFrom .any ops (ops.size - t) t ((listAll ks (Array.replicate ops.size false)).setIfInBounds k1 true)
theorem wp_region_mid {id : Nat} {a : Act} {w : World} {l : List Oper} (ks : List Nat) (k1 t : Nat) (S : World → Prop) (hm : P.follows .mixedOrders = true) (hB : midB l.toArray ks k1 t = true)
    (hQ : ∀ c a t v w, Q (.panic c) (a.put (some t) v) w → Q (.panic c) a w) (hS : S w.drew) (hl : List Oper) (hh : ks.map (fun k => l.toArray[k]?) = hl.map some) (o : Oper) (ho : l[k1]? = some o)
    (h : wpQuiet P l.toArray S (fun a' => wpList P l.toArray (Exit.then (fun a' w' => S w' ∧ wpList P l.toArray Q (l.drop t) a' w') Q) [o] a' w.drew) hl a) : (Code.region id l.toArray true).wp P Q a w := by
  simp only [midB, Bool.and_eq_true, decide_eq_true_eq, beq_iff_eq] at hB
  obtain ⟨⟨⟨⟨⟨⟨hs, hlen⟩, hk1⟩, hsk⟩, hhd⟩, hr1⟩, hc⟩ := hB
  refine wp_region_any hm (wpAny_of_M (S := S) (need := needOf t []) _ _ _ _ ?_)
  have hld : (l.drop t).length = l.toArray.size - t := by simp
  have hcl0 : ClosedL .any l.toArray (Array.replicate l.toArray.size false) := fun j oj _ hl => by rw [getD_replicate_false] at hl; cases hl
  have := wpAnyM_head (P := P) (ops := l.toArray) (Q := Q) (md := .any) (S := S) (m := t) (A := []) hs hsk hQ hS (1 + (l.drop t).length) (T := fun a' => wpList P l.toArray (Exit.then (fun a' w' => S w' ∧ wpList P l.toArray Q (l.drop t) a' w') Q) [o] a' w.drew) ks hl (Array.replicate l.toArray.size false) a hcl0 hh hhd
    (fun a' ha' => by
      rw [Nat.add_comm]
      refine ⟨fun h' => (by rw [hr1] at h'; cases h'), fun i hi => ?_⟩
      rw [hr1] at hi
      obtain rfl : i = k1 := by simpa using hi
      have h0 : l.toArray[i]? = some o := by simpa using ho
      have key := fun a' w' (h : wpList P l.toArray Q (l.drop t) a' w') => wpAnyM_tail (P := P) (ops := l.toArray) (Q := Q) (S := S) (md := .any) (need := needOf t []) (l.drop t) t ((listAll ks (Array.replicate l.toArray.size false)).setIfInBounds i true) a' w' (fun j hj => by simp [needOf]; omega) (fun j => by simp) (by rw [hld]; exact hc) h
      unfold wpList at ha'
      unfold wpOp
      simp only [h0]
      split
      · rename_i hw
        rw [if_pos hw] at ha'
        rcases ha' with h | ⟨h1, h2⟩
        · exact .inl (Oper.wp_mono (fun a' w' h' => ⟨fun _ => h'.1, key a' w' h'.2⟩) (wp_then h))
        · exact .inr ⟨h1, h2⟩
      · rename_i hw
        rw [if_neg hw] at ha'
        exact ⟨fun _ => ha'.1, key _ _ ha'.2⟩) h
  rw [hld, hlen] at this
  exact this
end
end Go.Proofs.Qxb6500574aGreatDoor.C
