/-
  THE WALK of table: Show.
-/
import Derived.Test.Qxb6500574aGreatDoorUPlaces
import Derived.Test.Qxb6500574aGreatDoorVUtoa
import Derived.Test.Qxb6500574aGreatDoorUJoin
import Derived.Test.Qxb6500574aGreatDoorVPl0
import Derived.OwnWalkIn
namespace Go.Proofs.Qxb6500574aGreatDoor
open Go Go.RowKit
set_option linter.unusedVariables false
set_option linter.unusedSimpArgs false
open Go.Shelf

attribute [local go_sem] Oper.semAt_some

theorem wpListIn_appStr {F : Fence} {m : Nat} {P : Program} {t u e : TypeId} (R : IsRow P t e (.int .u8 0) 1 1) (hu : P.underlying u = some .string) (w : World) {ops : Array Oper} {rest : List Oper} {o : Oper} {a : Act} {Q : Exit → Act → World → Prop} (hgd : o.guard = none) (s x : Operand)
    (ho : o.op = .call { callee := .builtin .append, args := #[s, x], argTypes := #[t, u] })
    (v : Value) (n : Nat) (xs : List Value) (hs : a.eval s = v) (hown : w.ownsRow 0 e 1 v n xs) (out : List UInt8) (hx : a.eval x = sv out) (hb : n + out.length ≤ 1000000)
    (h : ∀ b cap w', w'.ownsRow 0 e 1 (.slice b (n + out.length) cap) (n + out.length) (xs ++ byteCells out) → Fr (fun k => v.ownBlock = some k) w w' → (∀ g, (Value.slice b (n + out.length) cap).ownBlock = some g → v.ownBlock = some g ∨ w.heap.size ≤ g) →
      wpListIn F m P ops Q rest (a.put o.dst (.slice b (n + out.length) cap)) w') : wpListIn F m P ops Q (o :: rest) a w := by
  refine wpListIn_plain hgd fun K hK => ?_
  obtain ⟨b, cap, w', hr, h2, h3, h4⟩ := run_appStr (P := P) R hu w o.type v n xs hown out hb
  unfold Oper.wpIn
  refine ⟨?_, ?_⟩
  · simp [Oper.about, ho, resolve, Target.leads, Sem.run_pure]
  · rw [Oper.semAt_plain F _ _ (by rw [ho]; intro c hc'; cases hc')]
    unfold execOp
    simp only [ho, resolve, invoke, builtin, Sem.run_bind, Sem.run_pure, Result.andThen_ok, List.map_toArray, List.map_cons, List.map_nil, hs, hx, hr]
    exact hK _ _ (h b cap w' h2 h3 h4)
theorem wpListIn_appN {F : Fence} {m : Nat} {P : Program} {t e : TypeId} {z : Value} {size bytes : Nat} (R : IsRow P t e z size bytes) (w : World) {ops : Array Oper} {rest : List Oper} {o : Oper} {a : Act} {Q : Exit → Act → World → Prop} (hgd : o.guard = none) (s x : Operand)
    (ho : o.op = .call { callee := .builtin .append, args := #[s, x], argTypes := #[t, t] })
    (v : Value) (n : Nat) (xs : List Value) (hs : a.eval s = v) (hown : w.ownsRow 0 e size v n xs)
    (B k c : Nat) (news : List Value) (hx : a.eval x = .slice (some ⟨B, 0, none⟩) k c) (hB : Has w B news.toArray e) (hl : news.length = k * size) (hk : 0 < k) (h1 : ∀ u ∈ news, u.oneCell' = true)
    (hbound : (n + k) * (bytes + 1) ≤ 140737488355328)
    (h : ∀ g cap w', w'.ownsRow 0 e size (.slice (some ⟨g, 0, none⟩) (n + k) cap) (n + k) (xs ++ news) → Fr (fun k => v.ownBlock = some k) w w' → (v.ownBlock = some g ∨ g = w.heap.size) → g < w'.heap.size → wpListIn F m P ops Q rest (a.put o.dst (.slice (some ⟨g, 0, none⟩) (n + k) cap)) w') : wpListIn F m P ops Q (o :: rest) a w := by
  obtain ⟨ht, hi, hzs, hsz⟩ := R
  obtain ⟨i, hi, hz, hsize, hby⟩ := info_parts hi
  have hb2 : (n + k) * bytes ≤ (n + k) * (bytes + 1) := Nat.mul_le_mul_left _ (by omega)
  have hb3 : (n + k) * 1 ≤ (n + k) * (bytes + 1) := Nat.mul_le_mul_left _ (by omega)
  refine wpListIn_plain hgd fun K hK => ?_
  obtain ⟨v', w', hr, h2, h3, _, h5⟩ := run_append_own_at (P := P) w 0 t o.type e i z size bytes ht hi hz hsize hby hzs hsz v n xs hown ⟨B, 0, none⟩ k c news (by omega)
    (fun j u hj => by
      have hadd : (⟨B, 0, none⟩ : Addr).add j = ⟨B, j, none⟩ := by unfold Addr.add; split <;> simp_all
      rw [hadd, hB.cell]; simpa using hj) h1 (by unfold maxLen; omega) (by omega) (Nat.zero_le _)
  have hform : ∃ g cap, v' = .slice (some ⟨g, 0, none⟩) (n + k) cap := by
    rcases h2.2 with ⟨_, h0⟩ | ⟨g, cap, cur, hv, _⟩
    · omega
    · exact ⟨g, cap, hv⟩
  obtain ⟨g, cap, rfl⟩ := hform
  unfold Oper.wpIn
  refine ⟨?_, ?_⟩
  · simp [Oper.about, ho, resolve, Target.leads, Sem.run_pure]
  · rw [Oper.semAt_plain F _ _ (by rw [ho]; intro c hc'; cases hc')]
    unfold execOp
    simp only [ho, resolve, invoke, builtin, Sem.run_bind, Sem.run_pure, Result.andThen_ok, List.map_toArray, List.map_cons, List.map_nil, hs, hx, hr]
    refine hK _ _ (h g cap w' h2 (Fr.of_grown h3) ?_ (h2.lt g rfl).2)
    rcases h5 with h5 | h5
    · exact .inl (by rw [← h5]; rfl)
    · right
      simpa [Value.ownBlock] using h5
def showE (e : Vl × Vl) : Bs := showV e.1 ++ [61] ++ showV e.2 ++ [59]
def showTb (t : TabD) : Bs := [91] ++ t.order.flatMap showE ++ [93]
def showT (ts : List TabD) : Bs := ts.flatMap showTb
/-- the text so far, in a cell of its own -/
structure OutI (w W : World) (B : Nat) (s : Bs) (bv : Value) : Prop where
  h : Has W B #[bv] 49
  own : W.ownsRow 0 5 1 bv s.length (byteCells s)
  new : ∀ g, bv.ownBlock = some g → w.heap.size ≤ g
  fr : Fr (fun _ => False) w W
  b : w.heap.size ≤ B
theorem u8_ne : 49 ≠ 5 := by decide
theorem OutI.ne {w W : World} {B : Nat} {s : Bs} {bv : Value} (h : OutI w W B s bv) : bv.ownBlock ≠ some B := owns_ne h.own h.h u8_ne
theorem OutI.mono {w W W' : World} {B : Nat} {s : Bs} {bv : Value} (h : OutI w W B s bv) (f : Fr (fun _ => False) W W') : OutI w W' B s bv :=
  ⟨h.h.fr f (fun x => x), owns_fr h.own f (fun _ _ x => x), h.new, h.fr.trans f (fun _ _ x => x), h.b⟩
theorem OutI.own' {w W W' : World} {B : Nat} {s : Bs} {bv : Value} {row : Option Nat} (h : OutI w W B s bv) (hg : W.grownBy W' row) (hr : ∀ r, row = some r → w.heap.size ≤ r ∧ ∃ o : Obj, W.heap[r]? = some o ∧ o.isCells = false) : OutI w W' B s bv := by
  have hf := Fr.of_grown hg
  have nc : ∀ {b : Nat} {cs : Array Value} {T : TypeId}, Has W b cs T → ¬ (row = some b) := by
    intro b cs T hb e
    obtain ⟨_, o, ho, hc⟩ := hr b e
    have hb' : W.heap[b]? = some (.cells cs T (0, 0)) := hb
    rw [hb'] at ho
    cases ho
    cases hc
  refine ⟨h.h.fr hf (nc h.h), owns_fr h.own hf (fun g hg' e => ?_), h.new, h.fr.trans hf (fun j hj e => by have := (hr j e).1; omega), h.b⟩
  obtain ⟨cs, hc⟩ := owns_typed h.own hg'
  exact nc hc e
/-- the text grows -/
structure OutS (w W : World) (B : Nat) (s : Bs) (bv : Value) (W2 : World) (s2 : Bs) (bv2 : Value) : Prop where
  o : OutI w W2 B s2 bv2
  k : KeepsOthers W W2
  x : ∀ S : Nat → Prop, (∀ k, S k → k < W.heap.size) → ¬ S B → (∀ g, bv.ownBlock = some g → ¬ S g) → KX S W W2
  n : ∀ g, bv2.ownBlock = some g → bv.ownBlock = some g ∨ W.heap.size ≤ g
theorem OutI.step {w W W1 w' : World} {B n' cap : Nat} {s t : Bs} {bv : Value} {b : Option Addr} (h : OutI w W B s bv) (f1 : Fr (fun _ => False) W W1) (q1 : w'.ownsRow 0 5 1 (.slice b n' cap) n' (byteCells s ++ byteCells t)) (hn : n' = s.length + t.length)
    (q2 : Fr (fun k => bv.ownBlock = some k) W1 w') (q3 : ∀ g, (Value.slice b n' cap).ownBlock = some g → bv.ownBlock = some g ∨ W1.heap.size ≤ g) :
    OutS w W B s bv (w'.setCell ⟨B, 0, none⟩ (.slice b n' cap)) (s ++ t) (.slice b n' cap) := by
  have hne := h.ne
  have hw := h.fr.size
  have hB := h.h.lt
  have f3 : Fr (fun k => bv.ownBlock = some k ∨ k = B) W (w'.setCell ⟨B, 0, none⟩ (.slice b n' cap)) :=
    (((f1.weaken (fun _ _ x => x.elim)).trans (q2.weaken (fun _ _ x => .inl x)) (fun j _ x => x))).setCell (p := ⟨B, 0, none⟩) (.inl (.inr rfl)) _
  have hb2 : Has w' B #[bv] 49 := (h.h.fr f1 (fun x => x)).fr q2 (fun x => hne x)
  have eb : byteCells (s ++ t) = byteCells s ++ byteCells t := by simp [byteCells]
  have on : (Value.slice b n' cap).ownBlock ≠ some B := owns_ne q1 hb2 u8_ne
  refine ⟨⟨?_, ?_, ?_, ?_, h.b⟩, ⟨f3.size, fun k o hk ho => ?_⟩, fun S hS hSB hSg => KX.of_fr f3 (fun k hk => ⟨hS k hk, ?_⟩), fun g hg => ?_⟩
  · have := hb2.put 0 (.slice b n' cap)
    simpa using this
  · rw [eb, List.length_append, ← hn]
    exact owns_other q1 (p := ⟨B, 0, none⟩) on _
  · intro g hg
    rcases q3 g hg with e | e
    · exact h.new g e
    · have := f1.size; omega
  · exact h.fr.trans f3 (fun j hj e => by
      rcases e with e | e
      · have := h.new j e; omega
      · have := h.b; omega)
  · have hkl : k < W.heap.size := (Array.getElem?_eq_some_iff.1 hk).1
    rw [f3.block k hkl (fun e => ?_)]
    · exact hk
    · rcases e with e | e
      · obtain ⟨cs, hc⟩ := owns_typed h.own e
        have hc' : W.heap[k]? = some (.cells cs _ (0, 0)) := hc
        rw [hk] at hc'
        cases hc'
        cases ho
      · have hc' : W.heap[B]? = some (.cells _ _ (0, 0)) := h.h
        rw [← e, hk] at hc'
        cases hc'
        cases ho
  · intro e
    rcases e with e | e
    · exact hSg k e hk
    · rw [e] at hk; exact hSB hk
  · rcases q3 g hg with e | e
    · exact .inl e
    · have := f1.size; exact .inr (by omega)
theorem OutS.trans {w W W1 W2 : World} {B : Nat} {s s1 s2 : Bs} {bv bv1 bv2 : Value} (h : OutS w W B s bv W1 s1 bv1) (k : OutS w W1 B s1 bv1 W2 s2 bv2) : OutS w W B s bv W2 s2 bv2 :=
  ⟨k.o, h.k.trans k.k, fun S hS hB hg => (h.x S hS hB hg).trans (k.x S (fun j hj => Nat.lt_of_lt_of_le (hS j hj) h.k.size) hB (fun g e hs => by
    rcases h.n g e with e2 | e2
    · exact hg g e2 hs
    · have := hS g hs; omega)), fun g hg => by
    rcases k.n g hg with e | e
    · exact h.n g e
    · exact .inr (Nat.le_trans h.k.size e)⟩
theorem OutS.fresh {w W W1 : World} {B : Nat} {s : Bs} {bv : Value} (h : OutI w W B s bv) (f : Fr (fun _ => False) W W1) : OutS w W B s bv W1 s bv :=
  ⟨h.mono f, ⟨f.size, fun k o hk ho => (f.block k (Array.getElem?_eq_some_iff.1 hk).1 (fun x => x)).trans hk⟩, fun S hS _ _ => KX.of_fr f (fun k hk => ⟨hS k hk, fun x => x⟩), fun g hg => .inl hg⟩
/-- the marks of loops that are over -/
def mrk (D : Nat) : Deferred := { target := .collected D, args := #[] }
structure Marks (w W : World) (Ds : List Nat) : Prop where
  h : ∀ D ∈ Ds, W.heap[D]? = some (.deferred (some [])) ∧ w.heap.size ≤ D
  nd : Ds.Nodup
theorem Marks.keep {w W W' : World} {Ds : List Nat} (h : Marks w W Ds) (k : KeepsOthers W W') : Marks w W' Ds := ⟨fun D hD => ⟨k.same D _ (h.h D hD).1 rfl, (h.h D hD).2⟩, h.nd⟩
theorem marks_leave {fn : Func} {tmps : Array Value} {R : Ending → World → Prop} {w : World} {v : Value} (hv : ∀ W, (results fn tmps).run Tryz.prog W = .ok v W) (hR : ∀ W, Fr (fun _ => False) w W → R (.returned v) W) : ∀ (Ds : List Nat) (W : World), Marks w W Ds → Fr (fun _ => False) w W → LeavesInM Fence.wide 6 Tryz.prog fn tmps R (Ds.map mrk) .returning W := by
  intro Ds
  induction Ds with
  | nil => intro W _ hF; exact ⟨_, hv W, hR W hF⟩
  | cons D Ds ih =>
    intro W M hF
    obtain ⟨h1, h2⟩ := M.h D (by simp)
    have hg := grownBy_putObj' W D (.deferred none)
    refine ⟨by simp, .inl ⟨D, _, rfl, run_takeDeferred h1, ih _ ⟨fun D' hD' => ⟨?_, (M.h D' (by simp [hD'])).2⟩, (List.nodup_cons.1 M.nd).2⟩ ?_⟩⟩
    · have h3 := (M.h D' (by simp [hD'])).1
      rw [← h3]
      refine hg.block D' (Array.getElem?_eq_some_iff.1 h3).1 (fun e => ?_)
      cases e
      exact (List.nodup_cons.1 M.nd).1 hD'
    · exact hF.trans (Fr.of_grown hg) (fun j hj e => by cases e; omega)
theorem places_inA {n : Nat} (g h : Nat) (p : Int) (w : World) : CallsIn Fence.wide n Tryz.prog 217 #[.pointer (some ⟨g, h * 6, none⟩), .int .i64 p, .bool true] w fun e w' => e = .returned (.func (.func 270) #[] #[.pointer (some ⟨w.heap.size + 1, 0, none⟩), .pointer (some ⟨w.heap.size, 0, none⟩), .pointer (some ⟨w.heap.size + 2, 0, none⟩)]) ∧ w' = ((w.alloc (.cells #[.pointer (some ⟨g, h * 6, none⟩)] 241)).alloc (.cells #[.int .i64 p] 3)).alloc (.cells #[.bool true] 4) := by
  refine callsIn_of_wp Tryz.func217 rfl trivial ?_ rfl
  simp only [Tryz.ntmps217, List.size_toArray, List.length_cons, List.length_nil, Nat.reduceAdd, Nat.reduceSub, Array.replicate_succ, Array.replicate_zero, List.push_toArray, List.append_toArray, List.nil_append, List.cons_append]
  gi_wp2
  go_ret
  exact ⟨rfl, rfl⟩
end Go.Proofs.Qxb6500574aGreatDoor
