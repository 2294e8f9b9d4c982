/-
  THE HANDLERS' MAP: how it lies in memory, a look-up, a store of a new key.
-/
import Derived.Test.Qxb6500575aGreatDoorBranch
import Derived.Test.Qxb6500575aGreatDoorCk3
import Derived.MapKept
namespace Go.Proofs.Qxb6500575aGreatDoor
open Go Go.RowKit
set_option linter.unusedVariables false
set_option linter.unusedSimpArgs false

theorem run_put (W : World) (es : Array MapEntry) (c : Nat) (k : Int) (v : Value) (m : Nat) (hm : m = W.heap.size) (hno : Instr.findNow (.int .i64) (.int .i64 k) es.toList 0 = some none) :
    (Instr.mapUpdate 193 (.map (some m)) (.int .i64 k) v).run Tryz.prog (W.alloc (.map es c)) = .ok () (W.alloc (.map (es.push ⟨.int .i64 k, v, c⟩) (c + 1))) := by
  subst hm
  have hb : (W.alloc (.map es c)).heap[W.heap.size]? = some (.map es c) := (MapKept.heap_alloc W _).1
  have hu : Tryz.prog.underlying 193 = some (.map 3 191) := by kernel_rfl
  have hi : Tryz.prog.underlying 3 = some (.int .i64) := by kernel_rfl
  unfold Instr.mapUpdate
  simp only [Sem.run_bind, run_underlying hu, Result.andThen, MapKept.run_getObj_map hb, MapKept.run_checkKey hi (k := .int .i64 k) (rfl : MapKept.IsKey (.int .i64) (.int .i64 k)) false 9999, MapKept.run_findKey hi hno, MapKept.run_setObj_map _ hb]
  have e : ({ W.alloc (.map es c) with heap := (W.alloc (.map es c)).heap.setIfInBounds W.heap.size (.map (es.push ⟨.int .i64 k, v, c⟩) (c + 1)) } : World) = W.alloc (.map (es.push ⟨.int .i64 k, v, c⟩) (c + 1)) := by
    have a1 : ∀ o, W.alloc o = { W with heap := W.heap.push o } := fun o => rfl
    rw [a1, a1]
    simp only [World.mk.injEq, true_and, and_true]
    apply Array.ext_getElem?
    intro i
    by_cases hi : i = W.heap.size
    · subst hi; simp
    · simp [Array.getElem?_push, hi, Array.getElem?_setIfInBounds_ne (Ne.symm hi)]
  rw [e]
theorem run_get (w : World) (es : Array MapEntry) (c : Nat) (k : Int) (m : Nat) (hm : w.heap[m]? = some (.map es c)) :
    (∀ i v, Instr.findNow (.int .i64) (.int .i64 k) es.toList 0 = some (some (i, v)) → (Instr.lookup 193 (.map (some m)) (.int .i64 k) true).run Tryz.prog w = .ok (.tuple #[v, .bool true]) w) ∧
    (Instr.findNow (.int .i64) (.int .i64 k) es.toList 0 = some none → (Instr.lookup 193 (.map (some m)) (.int .i64 k) true).run Tryz.prog w = .ok (.tuple #[.nilFunc, .bool false]) w) := by
  have hu : Tryz.prog.underlying 193 = some (.map 3 191) := by kernel_rfl
  have hi : Tryz.prog.underlying 3 = some (.int .i64) := by kernel_rfl
  have hz : (zeroValue 191).run Tryz.prog w = .ok .nilFunc w := by kernel_rfl
  constructor
  · intro i v hf
    unfold Instr.lookup
    simp only [Sem.run_bind, run_underlying hu, Result.andThen, MapKept.run_getObj_map hm, MapKept.run_checkKey hi (k := .int .i64 k) (rfl : MapKept.IsKey (.int .i64) (.int .i64 k)) _ 9999, MapKept.run_findKey hi hf, Sem.run_pure]
    rfl
  · intro hf
    unfold Instr.lookup
    simp only [Sem.run_bind, run_underlying hu, Result.andThen, MapKept.run_getObj_map hm, MapKept.run_checkKey hi (k := .int .i64 k) (rfl : MapKept.IsKey (.int .i64) (.int .i64 k)) _ 9999, MapKept.run_findKey hi hf, Sem.run_pure, hz]
    rfl

/-- the seven handlers -/
def onV (bk bA b3 : Nat) (k : Int) : Option Value :=
  if k = 0 then some (.func (.func 111) #[] #[.pointer (some ⟨bA, 0, none⟩)])
  else if k = 9 then some (.func (.func 113) #[] #[.pointer (some ⟨bA, 0, none⟩), .pointer (some ⟨b3, 0, none⟩)])
  else if k = 11 then some (.func (.func 114) #[] #[.pointer (some ⟨bA, 0, none⟩)])
  else if k = 10 then some (.func (.func 116) #[.pointer (some ⟨bk, 0, none⟩)] #[])
  else if k = 12 then some (.func (.func 117) #[.pointer (some ⟨bk, 0, none⟩)] #[])
  else if k = 13 then some (.func (.func 118) #[.pointer (some ⟨bk, 0, none⟩)] #[])
  else if k = 14 then some (.func (.func 118) #[.pointer (some ⟨bk, 0, none⟩)] #[])
  else none
def onEs (bk bA b3 : Nat) : Array MapEntry :=
  #[⟨.int .i64 0, .func (.func 111) #[] #[.pointer (some ⟨bA, 0, none⟩)], 0⟩,
    ⟨.int .i64 9, .func (.func 113) #[] #[.pointer (some ⟨bA, 0, none⟩), .pointer (some ⟨b3, 0, none⟩)], 1⟩,
    ⟨.int .i64 11, .func (.func 114) #[] #[.pointer (some ⟨bA, 0, none⟩)], 2⟩,
    ⟨.int .i64 10, .func (.func 116) #[.pointer (some ⟨bk, 0, none⟩)] #[], 3⟩,
    ⟨.int .i64 12, .func (.func 117) #[.pointer (some ⟨bk, 0, none⟩)] #[], 4⟩,
    ⟨.int .i64 13, .func (.func 118) #[.pointer (some ⟨bk, 0, none⟩)] #[], 5⟩,
    ⟨.int .i64 14, .func (.func 118) #[.pointer (some ⟨bk, 0, none⟩)] #[], 6⟩]
/-- the map in memory, and the cells that its closures captured -/
structure OnAt (w : World) (m bk : Nat) (u : Value) (bA b3 : Nat) : Prop where
  map : w.heap[m]? = some (.map (onEs bk bA b3) 7)
  a : Has w bA #[.pointer (some ⟨bk, 0, none⟩)] 189
  u : Has w b3 #[u] 102

theorem sameNow_int (k a : Int) : Instr.sameNow (.int .i64) (.int .i64 k) (.int .i64 a) = some (k == a) := by simp [Instr.sameNow]
theorem OnAt.get {w : World} {m bk : Nat} {u : Value} {bA b3 : Nat} (h : OnAt w m bk u bA b3) (k : Int) :
    (Instr.lookup 193 (.map (some m)) (.int .i64 k) true).run Tryz.prog w = .ok (match onV bk bA b3 k with | some v => .tuple #[v, .bool true] | none => .tuple #[.nilFunc, .bool false]) w := by
  obtain ⟨h1, h2⟩ := run_get w _ _ k m h.map
  by_cases e0 : k = 0
  · subst e0; exact h1 0 _ rfl
  by_cases e9 : k = 9
  · subst e9; exact h1 1 _ rfl
  by_cases e11 : k = 11
  · subst e11; exact h1 2 _ rfl
  by_cases e10 : k = 10
  · subst e10; exact h1 3 _ rfl
  by_cases e12 : k = 12
  · subst e12; exact h1 4 _ rfl
  by_cases e13 : k = 13
  · subst e13; exact h1 5 _ rfl
  by_cases e14 : k = 14
  · subst e14; exact h1 6 _ rfl
  have hn : onV bk bA b3 k = none := by simp [onV, e0, e9, e11, e10, e12, e13, e14]
  rw [hn]
  refine h2 ?_
  simp [onEs, Instr.findNow, sameNow_int, beq_eq_false_iff_ne.2 e0, beq_eq_false_iff_ne.2 e9, beq_eq_false_iff_ne.2 e11, beq_eq_false_iff_ne.2 e10, beq_eq_false_iff_ne.2 e12, beq_eq_false_iff_ne.2 e13, beq_eq_false_iff_ne.2 e14]

/-- a step that turns none of these -/
theorem OnAt.fr {S : Nat → Prop} {w w' : World} {m bk : Nat} {u : Value} {bA b3 : Nat} (h : OnAt w m bk u bA b3) (hf : Fr S w w') (hm : ¬ S m) (ha : ¬ S bA) (hu : ¬ S b3) : OnAt w' m bk u bA b3 :=
  ⟨(hf.block m (Array.getElem?_eq_some_iff.1 h.map).1 hm).trans h.map, h.a.fr hf ha, h.u.fr hf hu⟩
theorem owns_cells {w : World} {e : TypeId} {size : Nat} {v : Value} {n : Nat} {xs : List Value} (h : w.ownsRow 0 e size v n xs) {k : Nat} (hk : v.ownBlock = some k) : ∃ cs T f, w.heap[k]? = some (.cells cs T f) := by
  rcases h.2 with ⟨rfl, _⟩ | ⟨g, cap, cur, rfl, _, hgg, _⟩
  · simp [Value.ownBlock] at hk
  · simp [Value.ownBlock] at hk
    subst hk
    exact ⟨_, _, _, hgg⟩
theorem CkRep.cells {B : Nat} {w : World} {bk : Nat} {fx : CkF} {L : CkL} {s : Ck} (h : CkRep B w bk fx L s) {k : Nat} (hk : CkS bk L k) : ∃ cs T f, w.heap[k]? = some (.cells cs T f) := by
  rcases hk with rfl | h1 | h1 | h1 | ⟨i, l, hl, h1⟩
  · exact ⟨_, _, _, h.here⟩
  · exact owns_cells h.st (by rw [ownBlock_any]; exact h1)
  · exact owns_cells h.opn (by rw [ownBlock_any]; exact h1)
  · exact owns_cells h.code (by rw [ownBlock_any]; exact h1)
  · have hi : i < s.opn.length := by rw [← h.lsl]; exact (List.getElem?_eq_some_iff.1 hl).1
    obtain ⟨_, hv, h2, _⟩ := h.blk i s.opn[i] l (by simp [hi]) hl
    exact owns_cells h2 h1
/-- none of these is the checker's to turn -/
theorem OnAt.step {B : Nat} {w w1 : World} {bk : Nat} {fx : CkF} {L L1 : CkL} {s : Ck} {m : Nat} {u : Value} {bA b3 : Nat} (h : OnAt w m bk u bA b3) (hr : CkRep B w bk fx L s) (hs : CkStep w w1 bk L L1) : OnAt w1 m bk u bA b3 := by
  refine h.fr hs.fr (fun hk => ?_) (fun hk => (hr.typ _ _ _ h.a hk).1 rfl) (fun hk => ?_)
  · obtain ⟨cs, T, f, he⟩ := hr.cells hk
    have := h.map.symm.trans he
    cases this
  · have key : ∀ {T : TypeId}, 102 = T → T ≠ 195 → T ≠ 5 → T ≠ 226 → T ≠ 176 → T ≠ 221 → False := by
      rintro T rfl a1 a2 a3 a4 a5
      rcases hk with rfl | h1 | h1 | h1 | ⟨i, l, hl, h1⟩
      · have := h.u.symm.trans hr.here
        simp at this
      · exact a2 (owns_type hr.st (by rw [ownBlock_any]; exact h1) h.u)
      · exact a3 (owns_type hr.opn (by rw [ownBlock_any]; exact h1) h.u)
      · exact a4 (owns_type hr.code (by rw [ownBlock_any]; exact h1) h.u)
      · have hi : i < s.opn.length := by rw [← hr.lsl]; exact (List.getElem?_eq_some_iff.1 hl).1
        obtain ⟨_, hv, h2, _⟩ := hr.blk i s.opn[i] l (by simp [hi]) hl
        exact a5 (owns_type h2 h1 h.u)
    exact key rfl (by decide) (by decide) (by decide) (by decide) (by decide)
theorem OnAt.alloc {w : World} {m bk : Nat} {u : Value} {bA b3 : Nat} (h : OnAt w m bk u bA b3) (o : Obj) : OnAt (w.alloc o) m bk u bA b3 := h.fr (S := fun _ => False) ((Fr.refl _ w).alloc o) id id id
theorem OnAt.drew {w : World} {m bk : Nat} {u : Value} {bA b3 : Nat} (h : OnAt w m bk u bA b3) : OnAt w.drew m bk u bA b3 := h.fr (S := fun _ => False) ((Fr.refl _ w).drew) id id id
theorem OnAt.drewN {w : World} {m bk : Nat} {u : Value} {bA b3 : Nat} (h : OnAt w m bk u bA b3) (n : Nat) : OnAt (w.drewN n) m bk u bA b3 := h.fr (S := fun _ => False) ((Fr.refl _ w).drewN n) id id id
end Go.Proofs.Qxb6500575aGreatDoor
