/-
  MAPS from a key to a place (int32): look-up, a new key, delete, clear. No program.
-/
import Derived.Test.Qxb6500574aGreatDoorVBase
import Derived.Test.Qxb6500574aGreatDoorVPlain
import Derived.MapKept
namespace Go.Proofs.Qxb6500574aGreatDoor
open Go Go.RowKit
set_option linter.unusedVariables false
set_option linter.unusedSimpArgs false

def ents {α : Type} (K : α → Value) (l : List (α × Nat)) : List (Value × Value) := l.map fun e => (K e.1, .int .i32 e.2)
structure MapAt (w : World) (o : Nat → Nat) (lab b : Nat) (l : List (Value × Value)) : Prop where
  here : ∃ es c, w.heap[b]? = some (.map es c) ∧ es.toList.map (fun e => (e.key, e.val)) = l ∧ MapKept.Stamped es c
  lb : o b = lab
theorem MapAt.st {Q : Nat → Prop} {w w1 : World} {o o1 : Nat → Nat} {b : Nat} {lab : Nat} {l : List (Value × Value)} (h : MapAt w o lab b l) (t : Stp Q w o w1 o1) (hq : ¬ Q lab) : MapAt w1 o1 lab b l := by
  obtain ⟨es, c, h1, h2⟩ := h.here
  have hlt := (Array.getElem?_eq_some_iff.1 h1).1
  exact ⟨⟨es, c, (t.fr.block b hlt (by rw [h.lb]; exact hq)).trans h1, h2⟩, (t.ext b hlt).trans h.lb⟩
theorem map_eraseIdx {α β : Type} (f : α → β) : ∀ (l : List α) (j : Nat), (l.eraseIdx j).map f = (l.map f).eraseIdx j
  | [], _ => by simp
  | _ :: _, 0 => by simp
  | a :: l, j + 1 => by simp [map_eraseIdx f l j]
/-- a kind of key -/
structure IsK {α : Type} (K : α → Value) (d : TypeDesc) : Prop where
  inj : ∀ a b, K a = K b → a = b
  key : ∀ a, MapKept.IsKey d (K a)
theorem isK_u64 : IsK (fun n : Nat => Value.int .u64 n) (.int .u64) := ⟨fun a b h => by injection h with _ h; omega, fun _ => rfl⟩
theorem isK_str : IsK (fun s : Bs => sv s) .string := ⟨fun a b h => by
  injection h with h
  injection h with h
  simpa using h, fun _ => trivial⟩
/-- the map types of the program -/
structure IsMap (P : Program) (T kt et : TypeId) (d : TypeDesc) : Prop where
  m : P.underlying T = some (.map kt et)
  k : P.underlying kt = some d
  z : ∀ w, (zeroValue et).run P w = .ok (.int .i32 0) w
theorem ents_nodup {α : Type} {K : α → Value} {es : Array MapEntry} {c : Nat} {l : List (α × Nat)} (he : es.toList.map (fun e => (e.key, e.val)) = ents K l) (hs : MapKept.Stamped es c) : (l.map (fun e => e.1)).Nodup := by
  have h1 : es.toList.map (fun e => e.key) = l.map (fun e => K e.1) := by
    have := congrArg (List.map (fun x : Value × Value => x.1)) he
    simpa [ents, Function.comp_def] using this
  have h2 := hs.2.2
  rw [h1] at h2
  have h3 : (l.map (fun e => K e.1)) = (l.map (fun e => e.1)).map K := by simp
  rw [h3] at h2
  exact List.Pairwise.of_map K (fun a b hab e => hab (by rw [e])) h2
/-- an object set -/
theorem Stp.setObj {w : World} {o : Nat → Nat} {lab b : Nat} (o2 : Obj) (h : o b = lab) : Stp (fun k => k = lab) w o { w with heap := w.heap.setIfInBounds b o2 } o :=
  ⟨⟨rfl, rfl, rfl, by simp, fun k _ hk => by
    have hne : b ≠ k := fun e => hk (by rw [← e]; exact h)
    simp [hne]⟩, fun _ _ => rfl, fun x k hk => x k (by simpa using hk)⟩
section
variable {α : Type} [BEq α] [LawfulBEq α] {K : α → Value} {d : TypeDesc}
theorem look_none {l : List (α × Nat)} {k : α} (h : ∀ e ∈ l, e.1 ≠ k) : look l k = none := by
  unfold look
  rw [List.find?_eq_none.2 (fun e he => by simpa using h e he)]
  rfl
theorem look_at : ∀ {l : List (α × Nat)} {k : α} {j p : Nat}, (l.map (fun e => e.1)).Nodup → l[j]? = some (k, p) → look l k = some p
  | [], _, _, _, _, h => by simp at h
  | e :: l, k, 0, p, _, h => by
    simp at h
    subst h
    simp [look]
  | e :: l, k, j + 1, p, hn, h => by
    simp at h
    simp only [List.map_cons, List.nodup_cons] at hn
    have hne : (e.1 == k) = false := by
      rw [beq_eq_false_iff_ne]
      intro he
      exact hn.1 (List.mem_map.2 ⟨(k, p), List.mem_of_getElem? h, he.symm⟩)
    have ih := look_at hn.2 h
    unfold look at ih ⊢
    rw [List.find?_cons, hne]
    exact ih
theorem find_spec (hK : IsK K d) {es : Array MapEntry} {c : Nat} {l : List (α × Nat)} (he : es.toList.map (fun e => (e.key, e.val)) = ents K l) (hs : MapKept.Stamped es c) (k : α) :
    (look l k = none ∧ (∀ e ∈ l, e.1 ≠ k) ∧ Instr.findNow d (K k) es.toList 0 = some none) ∨ ∃ j p, look l k = some p ∧ l[j]? = some (k, p) ∧ Instr.findNow d (K k) es.toList 0 = some (some (j, .int .i32 p)) := by
  have hall : ∀ x ∈ es.toList, ∃ e ∈ l, x.key = K e.1 ∧ x.val = .int .i32 e.2 := by
    intro x hx
    have : (x.key, x.val) ∈ ents K l := he ▸ List.mem_map.2 ⟨x, hx, rfl⟩
    obtain ⟨e, h1, h2⟩ := List.mem_map.1 this
    injection h2 with h2 h3
    exact ⟨e, h1, h2.symm, h3.symm⟩
  rcases MapKept.findNow_spec (hK.key k) es.toList 0 (fun x hx => by obtain ⟨e, _, h, _⟩ := hall x hx; rw [h]; exact hK.key _) with ⟨h1, h2⟩ | ⟨j, e, h1, h2, h3⟩
  · left
    have hne : ∀ e ∈ l, e.1 ≠ k := by
      intro e hm hc
      have : (K e.1, Value.int .i32 e.2) ∈ es.toList.map (fun e => (e.key, e.val)) := he ▸ List.mem_map.2 ⟨e, hm, rfl⟩
      obtain ⟨x, hx, hxe⟩ := List.mem_map.1 this
      injection hxe with hxe _
      exact h2 x hx (by rw [hxe, hc])
    exact ⟨look_none hne, hne, h1⟩
  · right
    have hj : (ents K l)[j]? = some (e.key, e.val) := by rw [← he, List.getElem?_map, h2]; rfl
    unfold ents at hj
    rw [List.getElem?_map] at hj
    cases hl : l[j]? with
    | none => rw [hl] at hj; simp at hj
    | some y =>
      rw [hl] at hj
      simp at hj
      obtain ⟨y1, y2⟩ := y
      have hy : y1 = k := hK.inj _ _ (by rw [hj.1, h3])
      subst hy
      refine ⟨j, y2, look_at (ents_nodup he hs) hl, hl, ?_⟩
      rw [h1, ← hj.2, Nat.zero_add]
variable {P : Program} {T kt et : TypeId} {w : World} {o : Nat → Nat} {lab b : Nat} {l : List (α × Nat)}
theorem run_look (hK : IsK K d) (hM : IsMap P T kt et d) (h : MapAt w o lab b (ents K l)) (k : α) : (Instr.lookup T (.map (some b)) (K k) true).run P w = .ok (.tuple #[.int .i32 ((look l k).getD 0 : Nat), .bool (look l k).isSome]) w := by
  obtain ⟨es, c, h1, h2, h3⟩ := h.here
  unfold Instr.lookup
  rcases find_spec hK h2 h3 k with ⟨g1, _, g2⟩ | ⟨j, p, g1, _, g2⟩
  · rw [g1]
    simp only [Sem.run_bind, run_underlying hM.m, Result.andThen, MapKept.run_getObj_map h1, MapKept.run_checkKey hM.k (hK.key k) _ 9999, MapKept.run_findKey hM.k g2, Sem.run_pure, hM.z]
    rfl
  · rw [g1]
    simp only [Sem.run_bind, run_underlying hM.m, Result.andThen, MapKept.run_getObj_map h1, MapKept.run_checkKey hM.k (hK.key k) _ 9999, MapKept.run_findKey hM.k g2, Sem.run_pure]
    rfl
theorem run_upd (hK : IsK K d) (hM : IsMap P T kt et d) (h : MapAt w o lab b (ents K l)) (k : α) (p : Nat) (hn : look l k = none) :
    ∃ w', (Instr.mapUpdate T (.map (some b)) (K k) (.int .i32 p)).run P w = .ok () w' ∧ MapAt w' o lab b (ents K (l ++ [(k, p)])) ∧ Stp (fun k => k = lab) w o w' o := by
  obtain ⟨es, c, h1, h2, h3⟩ := h.here
  rcases find_spec hK h2 h3 k with ⟨_, gne, g2⟩ | ⟨j, q, g1, _, _⟩
  · refine ⟨{ w with heap := w.heap.setIfInBounds b (.map (es.push { key := K k, val := .int .i32 p, born := c }) (c + 1)) }, ?_, ⟨⟨_, c + 1, (MapKept.heap_set h1).1, ?_, ?_⟩, h.lb⟩, Stp.setObj _ h.lb⟩
    · unfold Instr.mapUpdate
      simp only [Sem.run_bind, run_underlying hM.m, Result.andThen, MapKept.run_getObj_map h1, MapKept.run_checkKey hM.k (hK.key k) _ 9999, MapKept.run_findKey hM.k g2, MapKept.run_setObj_map _ h1]
    · simp [h2, ents]
    · refine MapKept.stamped_push h3 (fun x hx hc => ?_)
      have : (x.key, x.val) ∈ ents K l := h2 ▸ List.mem_map.2 ⟨x, hx, rfl⟩
      obtain ⟨e, e1, e2⟩ := List.mem_map.1 this
      injection e2 with e2 _
      exact gne e e1 (hK.inj _ _ (by rw [e2, hc]))
  · rw [g1] at hn; cases hn
theorem run_del (hK : IsK K d) (hM : IsMap P T kt et d) (ty : TypeId) (h : MapAt w o lab b (ents K l)) (k : α) :
    ∃ w', (Builtin.delete_ #[T, kt] ty #[.map (some b), K k]).run P w = .ok (.tuple #[]) w' ∧ MapAt w' o lab b (ents K (l.eraseP (fun e => e.1 == k))) ∧ Stp (fun k => k = lab) w o w' o := by
  obtain ⟨es, c, h1, h2, h3⟩ := h.here
  rcases find_spec hK h2 h3 k with ⟨_, gne, g2⟩ | ⟨j, p, g1, gj, g2⟩
  · refine ⟨{ w with heap := w.heap.setIfInBounds b (.map es c) }, ?_, ⟨⟨_, c, (MapKept.heap_set h1).1, ?_, h3⟩, h.lb⟩, Stp.setObj _ h.lb⟩
    · unfold Builtin.delete_
      simp [Sem.run_bind, run_underlying hM.m, Result.andThen, MapKept.run_getObj_map h1, MapKept.run_checkKey hM.k (hK.key k) _ 9999, MapKept.run_findKey hM.k g2, MapKept.run_setObj_map _ h1]
    · rw [List.eraseP_of_forall_not (fun e he => by simpa using gne e he)]
      exact h2
  · refine ⟨{ w with heap := w.heap.setIfInBounds b (.map (es.eraseIdxIfInBounds j) c) }, ?_, ⟨⟨_, c, (MapKept.heap_set h1).1, ?_, MapKept.stamped_erase h3 j⟩, h.lb⟩, Stp.setObj _ h.lb⟩
    · unfold Builtin.delete_
      simp [Sem.run_bind, run_underlying hM.m, Result.andThen, MapKept.run_getObj_map h1, MapKept.run_checkKey hM.k (hK.key k) _ 9999, MapKept.run_findKey hM.k g2, MapKept.run_setObj_map _ h1]
    · have hjl : j < es.size := by
        have h5 := congrArg List.length h2
        have h6 := (List.getElem?_eq_some_iff.1 gj).1
        simp [ents] at h5
        omega
      have e1 : (es.eraseIdxIfInBounds j).toList = es.toList.eraseIdx j := by
        unfold Array.eraseIdxIfInBounds
        rw [dif_pos hjl]
        simp
      have e2 : l.eraseP (fun e => e.1 == k) = l.eraseIdx j := by
        have hnd := ents_nodup h2 h3
        clear h h1 h2 h3 g1 g2 hjl e1
        induction l generalizing j with
        | nil => simp at gj
        | cons x l ih =>
          cases j with
          | zero =>
            simp at gj
            subst gj
            simp
          | succ j =>
            simp at gj
            simp only [List.map_cons, List.nodup_cons] at hnd
            have hne : (x.1 == k) = false := by
              rw [beq_eq_false_iff_ne]
              intro he
              exact hnd.1 (List.mem_map.2 ⟨(k, p), List.mem_of_getElem? gj, he.symm⟩)
            rw [List.eraseP_cons, hne]
            simp [ih j gj hnd.2]
      rw [e1, e2, map_eraseIdx, h2]
      unfold ents
      rw [map_eraseIdx]
end
theorem run_clr {P : Program} {T kt et ty : TypeId} (hm : P.underlying T = some (.map kt et)) {w : World} {o : Nat → Nat} {lab b : Nat} {l : List (Value × Value)} (h : MapAt w o lab b l) :
    ∃ w', (Builtin.clear_ #[T] ty #[.map (some b)]).run P w = .ok (.tuple #[]) w' ∧ MapAt w' o lab b [] ∧ Stp (fun k => k = lab) w o w' o := by
  obtain ⟨es, c, h1, h2, h3⟩ := h.here
  refine ⟨{ w with heap := w.heap.setIfInBounds b (.map #[] c) }, ?_, ⟨⟨_, c, (MapKept.heap_set h1).1, rfl, MapKept.stamped_empty c⟩, h.lb⟩, Stp.setObj _ h.lb⟩
  unfold Builtin.clear_
  simp [Sem.run_bind, run_underlying hm, Result.andThen, MapKept.run_getObj_map h1, MapKept.run_setObj_map _ h1]
end Go.Proofs.Qxb6500574aGreatDoor
