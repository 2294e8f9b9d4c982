/-
  THE WALK of comp: maps from a key to a place (uint16); the pool of a function's constants.
-/
import Derived.Test.Qxb6500574aGreatDoorWPs2
import Derived.Test.Qxb6500574aGreatDoorWCo11
import Derived.Test.Qxb6500574aGreatDoorVMap
import Derived.Laws.EntriesVeiled
namespace Go.Proofs.Qxb6500574aGreatDoor
open Go Go.RowKit
set_option linter.unusedVariables false
set_option linter.unusedSimpArgs false
open Go.Lib
def ent16 {α : Type} (K : α → Value) (l : List (α × Nat)) : List (Value × Value) := l.map fun e => (K e.1, .int .u16 e.2)
structure IsM16 (P : Program) (T kt et : TypeId) (d : TypeDesc) : Prop where
  m : P.underlying T = some (.map kt et)
  k : P.underlying kt = some d
  z : ∀ w, (zeroValue et).run P w = .ok (.int .u16 0) w
theorem ent16_nodup {α : Type} {K : α → Value} {es : Array MapEntry} {c : Nat} {l : List (α × Nat)} (he : es.toList.map (fun e => (e.key, e.val)) = ent16 K l) (hs : MapKept.Stamped es c) : (l.map (fun e => e.1)).Nodup := by
  have h1 : es.toList.map (fun e => e.key) = l.map (fun e => K e.1) := by
    have := congrArg (List.map (fun x : Value × Value => x.1)) he
    simpa [ent16, Function.comp_def] using this
  have h2 := hs.2.2
  rw [h1] at h2
  have h3 : (l.map (fun e => K e.1)) = (l.map (fun e => e.1)).map K := by simp
  rw [h3] at h2
  exact List.Pairwise.of_map K (fun a b hab e => hab (by rw [e])) h2
section
variable {α : Type} [BEq α] [LawfulBEq α] {K : α → Value} {d : TypeDesc}
theorem find16 (hK : IsK K d) {es : Array MapEntry} {c : Nat} {l : List (α × Nat)} (he : es.toList.map (fun e => (e.key, e.val)) = ent16 K l) (hs : MapKept.Stamped es c) (k : α) :
    (look l k = none ∧ (∀ e ∈ l, e.1 ≠ k) ∧ Instr.findNow d (K k) es.toList 0 = some none) ∨ ∃ j p, look l k = some p ∧ l[j]? = some (k, p) ∧ Instr.findNow d (K k) es.toList 0 = some (some (j, .int .u16 p)) := by
  have hall : ∀ x ∈ es.toList, ∃ e ∈ l, x.key = K e.1 ∧ x.val = .int .u16 e.2 := by
    intro x hx
    have : (x.key, x.val) ∈ ent16 K l := he ▸ List.mem_map.2 ⟨x, hx, rfl⟩
    obtain ⟨e, h1, h2⟩ := List.mem_map.1 this
    injection h2 with h2 h3
    exact ⟨e, h1, h2.symm, h3.symm⟩
  rcases MapKept.findNow_spec (hK.key k) es.toList 0 (fun x hx => by obtain ⟨e, _, h, _⟩ := hall x hx; rw [h]; exact hK.key _) with ⟨h1, h2⟩ | ⟨j, e, h1, h2, h3⟩
  · left
    have hne : ∀ e ∈ l, e.1 ≠ k := by
      intro e hm hc
      have : (K e.1, Value.int .u16 e.2) ∈ es.toList.map (fun e => (e.key, e.val)) := he ▸ List.mem_map.2 ⟨e, hm, rfl⟩
      obtain ⟨x, hx, hxe⟩ := List.mem_map.1 this
      injection hxe with hxe _
      exact h2 x hx (by rw [hxe, hc])
    exact ⟨look_none hne, hne, h1⟩
  · right
    have hj : (ent16 K l)[j]? = some (e.key, e.val) := by rw [← he, List.getElem?_map, h2]; rfl
    unfold ent16 at hj
    rw [List.getElem?_map] at hj
    cases hl : l[j]? with
    | none => rw [hl] at hj; simp at hj
    | some y =>
      rw [hl] at hj
      simp at hj
      obtain ⟨y1, y2⟩ := y
      have hy : y1 = k := hK.inj _ _ (by rw [hj.1, h3])
      subst hy
      refine ⟨j, y2, look_at (ent16_nodup he hs) hl, hl, ?_⟩
      rw [h1, ← hj.2, Nat.zero_add]
variable {P : Program} {T kt et : TypeId} {w : World} {o : Nat → Nat} {lab b : Nat} {l : List (α × Nat)}
theorem look16 (hK : IsK K d) (hM : IsM16 P T kt et d) (h : MapAt w o lab b (ent16 K l)) (k : α) : (Instr.lookup T (.map (some b)) (K k) true).run P w = .ok (.tuple #[.int .u16 ((look l k).getD 0 : Nat), .bool (look l k).isSome]) w := by
  obtain ⟨es, c, h1, h2, h3⟩ := h.here
  unfold Instr.lookup
  rcases find16 hK h2 h3 k with ⟨g1, _, g2⟩ | ⟨j, p, g1, _, g2⟩
  · rw [g1]
    simp only [Sem.run_bind, run_underlying hM.m, Result.andThen, MapKept.run_getObj_map h1, MapKept.run_checkKey hM.k (hK.key k) _ 9999, MapKept.run_findKey hM.k g2, Sem.run_pure, hM.z]
    rfl
  · rw [g1]
    simp only [Sem.run_bind, run_underlying hM.m, Result.andThen, MapKept.run_getObj_map h1, MapKept.run_checkKey hM.k (hK.key k) _ 9999, MapKept.run_findKey hM.k g2, Sem.run_pure]
    rfl
theorem upd16 (hK : IsK K d) (hM : IsM16 P T kt et d) (h : MapAt w o lab b (ent16 K l)) (k : α) (p : Nat) (hn : look l k = none) :
    ∃ w', (Instr.mapUpdate T (.map (some b)) (K k) (.int .u16 p)).run P w = .ok () w' ∧ MapAt w' o lab b (ent16 K (l ++ [(k, p)])) ∧ Stp (fun k => k = lab) w o w' o := by
  obtain ⟨es, c, h1, h2, h3⟩ := h.here
  rcases find16 hK h2 h3 k with ⟨_, gne, g2⟩ | ⟨j, q, g1, _, _⟩
  · refine ⟨{ w with heap := w.heap.setIfInBounds b (.map (es.push { key := K k, val := .int .u16 p, born := c }) (c + 1)) }, ?_, ⟨⟨_, c + 1, (MapKept.heap_set h1).1, ?_, ?_⟩, h.lb⟩, Stp.setObj _ h.lb⟩
    · unfold Instr.mapUpdate
      simp only [Sem.run_bind, run_underlying hM.m, Result.andThen, MapKept.run_getObj_map h1, MapKept.run_checkKey hM.k (hK.key k) _ 9999, MapKept.run_findKey hM.k g2, MapKept.run_setObj_map _ h1]
    · simp [h2, ent16]
    · refine MapKept.stamped_push h3 (fun x hx hc => ?_)
      have : (x.key, x.val) ∈ ent16 K l := h2 ▸ List.mem_map.2 ⟨x, hx, rfl⟩
      obtain ⟨e, e1, e2⟩ := List.mem_map.1 this
      injection e2 with e2 _
      exact gne e e1 (hK.inj _ _ (by rw [e2, hc]))
  · rw [g1] at hn; cases hn
end
theorem mapN16 : IsM16 Tryz.prog 97 36 103 (.int .u64) := ⟨by kernel_rfl, by kernel_rfl, fun w => by kernel_rfl⟩
theorem mapS16 : IsM16 Tryz.prog 98 9 103 .string := ⟨by kernel_rfl, by kernel_rfl, fun w => by kernel_rfl⟩
/-! ### the pool -/
def numsF : Nat → List Vl → List (Nat × Nat)
  | _, [] => []
  | k, v :: r => (if v.t = 2 then [(v.n, k)] else []) ++ numsF (k + 1) r
def strsF : Nat → List Vl → List (Bs × Nat)
  | _, [] => []
  | k, v :: r => (if v.t = 2 then [] else [(v.s, k)]) ++ strsF (k + 1) r
theorem numsF_app (v : Vl) : ∀ (l : List Vl) (k : Nat), numsF k (l ++ [v]) = numsF k l ++ (if v.t = 2 then [(v.n, k + l.length)] else [])
  | [], k => by simp [numsF]
  | u :: r, k => by
    have ih := numsF_app v r (k + 1)
    show (if u.t = 2 then [(u.n, k)] else []) ++ numsF (k + 1) (r ++ [v]) = (if u.t = 2 then [(u.n, k)] else []) ++ numsF (k + 1) r ++ _
    rw [ih, List.append_assoc, List.length_cons, show k + 1 + r.length = k + (r.length + 1) by omega]
theorem strsF_app (v : Vl) : ∀ (l : List Vl) (k : Nat), strsF k (l ++ [v]) = strsF k l ++ (if v.t = 2 then [] else [(v.s, k + l.length)])
  | [], k => by simp [strsF]
  | u :: r, k => by
    have ih := strsF_app v r (k + 1)
    show (if u.t = 2 then [] else [(u.s, k)]) ++ strsF (k + 1) (r ++ [v]) = (if u.t = 2 then [] else [(u.s, k)]) ++ strsF (k + 1) r ++ _
    rw [ih, List.append_assoc, List.length_cons, show k + 1 + r.length = k + (r.length + 1) by omega]
theorem look_numsF (n : Nat) : ∀ (l : List Vl) (k : Nat), (∀ v ∈ l, v.ok) → look (numsF k l) n = (l.findIdx? (fun e => e.same (numV n))).map (fun i => k + i)
  | [], k, _ => rfl
  | v :: r, k, h => by
    have ih := look_numsF n r (k + 1) (fun u hu => h u (by simp [hu]))
    have hv := h v (by simp)
    rw [List.findIdx?_cons]
    unfold numsF
    rcases hv with ⟨e, h2, h3⟩ | ⟨e, h2⟩
    · have ht : v.t = 2 := by rw [e]; rfl
      rw [if_pos ht]
      by_cases hn : v.n = n
      · have hs : v.same (numV n) = true := by rw [same_iff, e, hn]
        rw [hs]
        simp [look, hn]
      · have hs : v.same (numV n) = false := by
          apply Bool.eq_false_iff.2
          intro hc
          rw [same_iff] at hc
          exact hn (by rw [hc]; rfl)
        rw [hs]
        have : look ([(v.n, k)] ++ numsF (k + 1) r) n = look (numsF (k + 1) r) n := by simp [look, hn]
        rw [this, ih]
        simp only [Bool.false_eq_true, if_false, Option.map_map]
        congr 1
        funext i
        simp only [Function.comp]
        omega
    · have ht : v.t ≠ 2 := by rw [e]; simp [strV]
      rw [if_neg ht]
      have hs : v.same (numV n) = false := by
        apply Bool.eq_false_iff.2
        intro hc
        rw [same_iff] at hc
        exact ht (by rw [hc]; rfl)
      rw [hs, List.nil_append, ih]
      simp only [Bool.false_eq_true, if_false, Option.map_map]
      congr 1
      funext i
      simp only [Function.comp]
      omega
theorem look_strsF (s : Bs) : ∀ (l : List Vl) (k : Nat), (∀ v ∈ l, v.ok) → look (strsF k l) s = (l.findIdx? (fun e => e.same (strV s))).map (fun i => k + i)
  | [], k, _ => rfl
  | v :: r, k, h => by
    have ih := look_strsF s r (k + 1) (fun u hu => h u (by simp [hu]))
    have hv := h v (by simp)
    rw [List.findIdx?_cons]
    unfold strsF
    rcases hv with ⟨e, h2, h3⟩ | ⟨e, h2⟩
    · have ht : v.t = 2 := by rw [e]; rfl
      rw [if_pos ht]
      have hs : v.same (strV s) = false := by
        apply Bool.eq_false_iff.2
        intro hc
        rw [same_iff] at hc
        rw [hc] at ht
        exact absurd ht (by simp [strV])
      rw [hs, List.nil_append, ih]
      simp only [Bool.false_eq_true, if_false, Option.map_map]
      congr 1
      funext i
      simp only [Function.comp]
      omega
    · have ht : v.t ≠ 2 := by rw [e]; simp [strV]
      rw [if_neg ht]
      by_cases hn : v.s = s
      · have hs : v.same (strV s) = true := by rw [same_iff, e, hn]
        rw [hs]
        simp [look, hn]
      · have hs : v.same (strV s) = false := by
          apply Bool.eq_false_iff.2
          intro hc
          rw [same_iff] at hc
          exact hn (by rw [hc]; rfl)
        rw [hs]
        have : look ([(v.s, k)] ++ strsF (k + 1) r) s = look (strsF (k + 1) r) s := by simp [look, hn]
        rw [this, ih]
        simp only [Bool.false_eq_true, if_false, Option.map_map]
        congr 1
        funext i
        simp only [Function.comp]
        omega
end Go.Proofs.Qxb6500574aGreatDoor
