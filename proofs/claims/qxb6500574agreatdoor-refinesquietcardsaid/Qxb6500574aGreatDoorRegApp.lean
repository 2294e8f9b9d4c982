/-
  'x.f = append(x.f, e)' IN A REGION THAT DRAWS ITS ORDER: one law. No program.
-/
import Derived.Test.Qxb6500574aGreatDoorMem
import Derived.Test.Qxb6500574aGreatDoorReg
import Derived.Great.BuildSlice
namespace Go.Proofs.Qxb6500574aGreatDoor
open Go Go.RowKit
set_option linter.unusedVariables false
set_option linter.unusedSimpArgs false

theorem run_build1 {P : Program} {t e : TypeId} {z : Value} {size bytes : Nat} (R : IsRow P t e z size bytes) (w : World) (x : Value) (hx : x.cells.size = size) (hs : size ≤ 1000) :
    (Instr.buildSlice t 1 #[(0, x)]).run P w = .ok (.slice (some ⟨w.heap.size, 0, none⟩) 1 1) (w.alloc (.cells x.cells e)) := by
  obtain ⟨ht, hi, hzs, hsz⟩ := R
  obtain ⟨i, hi', hz, hsize, hby⟩ := info_parts hi
  subst hsize
  refine run_buildSlice w t e 1 _ x.cells i z ht hi' hz (by omega) (by omega) ?_
  have := Great.fill_whole hsz [x] ((Array.range (1 * i.size)).map (z.cells[· % z.cells.size]!)) (by intro v hv; simp at hv; subst hv; exact hx) (by simp)
  simpa using this

/-- append of one element out of a block that was laid just before: the run -/
theorem app_run {P : Program} {t e : TypeId} {z : Value} {size bytes : Nat} (R : IsRow P t e z size bytes) (w : World) (ty : TypeId)
    (v : Value) (n : Nat) (xs : List Value) (hown : w.ownsRow 0 e size v n xs)
    (B : Nat) (news : List Value) (hB : Has w B news.toArray e) (hl : news.length = size) (h1 : ∀ u ∈ news, u.oneCell' = true)
    (hbound : (n + 1) * (bytes + 1) ≤ 140737488355328) :
    ∃ g cap w', (Builtin.append_ #[t, t] ty #[v, .slice (some ⟨B, 0, none⟩) 1 1]).run P w = .ok (.slice (some ⟨g, 0, none⟩) (n + 1) cap) w' ∧
      w'.ownsRow 0 e size (.slice (some ⟨g, 0, none⟩) (n + 1) cap) (n + 1) (xs ++ news) ∧ Fr (fun k => v.ownBlock = some k) w w' ∧ (v.ownBlock = some g ∨ g = w.heap.size) ∧ g < w'.heap.size := by
  obtain ⟨ht, hi, hzs, hsz⟩ := R
  obtain ⟨i, hi, hz, hsize, hby⟩ := info_parts hi
  have hb2 : (n + 1) * bytes ≤ (n + 1) * (bytes + 1) := Nat.mul_le_mul_left _ (by omega)
  have hb3 : (n + 1) * 1 ≤ (n + 1) * (bytes + 1) := Nat.mul_le_mul_left _ (by omega)
  obtain ⟨v', w', hr, h2, h3, _, h5⟩ := run_append_own_at (P := P) w 0 t ty e i z size bytes ht hi hz hsize hby hzs hsz v n xs hown ⟨B, 0, none⟩ 1 1 news (by omega)
    (fun j u hj => by
      have hadd : (⟨B, 0, none⟩ : Addr).add j = ⟨B, j, none⟩ := by unfold Addr.add; split <;> simp_all
      rw [hadd, hB.cell]; simpa using hj) h1 (by unfold maxLen; omega) (by omega) (Nat.zero_le _)
  have hform : ∃ g cap, v' = .slice (some ⟨g, 0, none⟩) (n + 1) cap := by
    rcases h2.2 with ⟨_, h0⟩ | ⟨g, cap, cur, hv, _⟩
    · omega
    · exact ⟨g, cap, hv⟩
  obtain ⟨g, cap, rfl⟩ := hform
  refine ⟨g, cap, w', hr, h2, Fr.of_grown h3, ?_, (h2.lt g rfl).2⟩
  rcases h5 with h5 | h5
  · exact .inl (by rw [← h5]; rfl)
  · right
    simpa [Value.ownBlock] using h5

/-- the worlds in which an operation of the head may be carried out -/
def Three (w0 w1 w2 x : World) : Prop := x = w0 ∨ x = w1 ∨ x = w2

/-- THE LAW: a head of n reads, then 'buildSlice', then 'append', then the tail. -/
theorem wp_region_app {P : Program} {t e : TypeId} {z : Value} {size bytes : Nat} (R : IsRow P t e z size bytes) {id : Nat} {Q : Exit → Act → World → Prop} {a : Act} {w : World} {l : List Oper} (n : Nat)
    (hm : P.follows .mixedOrders = true) (hB : headB l.toArray n 2 [] = true) (hQ : ∀ c a t v w, Q (.panic c) (a.put (some t) v) w → Q (.panic c) a w)
    (o1 o2 : Oper) (tl : List Oper) (hd : l.drop n = o1 :: o2 :: tl) (x s : Operand) (d1 d2 : Tmp) (hd1 : o1.dst = some d1) (hd2 : o2.dst = some d2) (g1 : o1.guard = none) (g2 : o2.guard = none)
    (ho1 : o1.op = .buildSlice t 1 #[(0, x)]) (ho2 : o2.op = .call { callee := .builtin .append, args := #[s, .tmp d1], argTypes := #[t, t] })
    (v : Value) (k : Nat) (xs : List Value) (hown : w.ownsRow 0 e size v k xs) (el : Value) (hel : el.cells.size = size) (hs : size ≤ 1000) (h1 : ∀ u ∈ el.cells.toList, u.oneCell' = true) (hbound : (k + 1) * (bytes + 1) ≤ 140737488355328)
    (h : ∀ g cap w2, w2.ownsRow 0 e size (.slice (some ⟨g, 0, none⟩) (k + 1) cap) (k + 1) (xs ++ el.cells.toList) → Fr (fun j => v.ownBlock = some j) (w.alloc (.cells el.cells e)) w2 → (v.ownBlock = some g ∨ g = w.heap.size + 1) → g < w2.heap.size →
      wpQuiet P l.toArray (fun y => y = w.drew ∨ y = (w.alloc (.cells el.cells e)).drew ∨ y = w2) (fun a' => a'.eval s = v ∧ a'.eval x = el ∧ d1 < a'.tmps.size ∧ (a'.put (some d1) (.slice (some ⟨w.heap.size, 0, none⟩) 1 1)).eval s = v ∧
        wpList P l.toArray Q tl ((a'.put (some d1) (.slice (some ⟨w.heap.size, 0, none⟩) 1 1)).put (some d2) (.slice (some ⟨g, 0, none⟩) (k + 1) cap)) w2) (l.take n) a) :
    (Code.region id l.toArray true).wp P Q a w := by
  have hB1 : Has (w.alloc (.cells el.cells e)).drew w.heap.size el.cells.toList.toArray e := by simpa using (Has.new w el.cells e).drew
  obtain ⟨g, cap, w2, hr, f1, f2, f3, f4⟩ := app_run R (w.alloc (.cells el.cells e)).drew o2.type v k xs (owns_drew (owns_alloc hown _)) w.heap.size el.cells.toList hB1 (by simpa using hel) h1 hbound
  have h' := h g cap w2 f1 ⟨f2.os, f2.tape, f2.output, f2.size, f2.block⟩ (by simpa using f3) f4
  refine wp_region_head n 2 (fun y => y = w.drew ∨ y = (w.alloc (.cells el.cells e)).drew ∨ y = w2) hm hB hQ (.inl rfl) ?_
  have mono : ∀ (l' : List Oper) (T T' : Act → Prop) (a : Act), (∀ a, T a → T' a) → wpQuiet P l.toArray (fun y => y = w.drew ∨ y = (w.alloc (.cells el.cells e)).drew ∨ y = w2) T l' a → wpQuiet P l.toArray (fun y => y = w.drew ∨ y = (w.alloc (.cells el.cells e)).drew ∨ y = w2) T' l' a := by
    intro l'
    induction l' with
    | nil => exact fun T T' a hT h => hT a h
    | cons o r ih =>
      intro T T' a hT h
      unfold wpQuiet at h ⊢
      split
      · rename_i hw; rw [if_pos hw] at h; exact Oper.quiet_mono (fun a => ih T T' a hT) h
      · rename_i hw; rw [if_neg hw] at h; exact ih T T' _ hT h
  refine mono _ _ _ a (fun a' ha => ?_) h'
  obtain ⟨e1, e2, e3, e4, e5⟩ := ha
  rw [hd]
  refine chain_of_run (v := .slice (some ⟨w.heap.size, 0, none⟩) 1 1) (w' := (w.alloc (.cells el.cells e)).drew) g1 ?_ ⟨.inr (.inl rfl), chain_of_run (v := .slice (some ⟨g, 0, none⟩) (k + 1) cap) (w' := w2) g2 ?_ ⟨.inr (.inr rfl), ?_⟩⟩
  · have := run_build1 R w.drew el hel hs
    simp only [execOp, ho1, Sem.run_bind, Sem.run_pure, List.map_toArray, List.map_cons, List.map_nil, e2, this, Result.andThen_ok]
    rfl
  · have e6 : (a'.put o1.dst (.slice (some ⟨w.heap.size, 0, none⟩) 1 1)).eval (.tmp d1) = .slice (some ⟨w.heap.size, 0, none⟩) 1 1 := by
      rw [hd1]
      simp [Act.put, Act.eval, e3]
    rw [hd1] at e6 ⊢
    simp only [execOp, ho2, resolve, invoke, builtin, Sem.run_bind, Sem.run_pure, Result.andThen_ok, List.map_toArray, List.map_cons, List.map_nil, e4, e6, hr]
  · rw [hd1, hd2]
    cases tl <;> exact e5
end Go.Proofs.Qxb6500574aGreatDoor
