/-
  MEMORY: frames and blocks known whole; the append law in the form that the walks of this seat want. Own work over the kit's laws.
-/
import Derived.WalkKit
import Derived.WalkSpells
import Derived.WalkLawsBesides
import Derived.Maps.AppendAt
import Derived.Deep.Draws
import Derived.Laws.EntriesVeiled
namespace Go.Proofs.Qxb6500574aGreatDoor
open Go Go.RowKit
set_option linter.unusedVariables false
set_option linter.unusedSimpArgs false

/-- Only the blocks that satisfy S, and new ones, may have turned. -/
structure Fr (S : Nat → Prop) (w w' : World) : Prop where
  os : w'.os = w.os
  tape : w'.tape = w.tape
  output : w'.output = w.output
  size : w.heap.size ≤ w'.heap.size
  block : ∀ k, k < w.heap.size → ¬ S k → w'.heap[k]? = w.heap[k]?

theorem Fr.refl (S : Nat → Prop) (w : World) : Fr S w w := ⟨rfl, rfl, rfl, Nat.le_refl _, fun _ _ _ => rfl⟩
theorem Fr.weaken {S S' : Nat → Prop} {w w' : World} (h : Fr S w w') (hs : ∀ k, k < w.heap.size → S k → S' k) : Fr S' w w' :=
  ⟨h.os, h.tape, h.output, h.size, fun k hk hn => h.block k hk (fun hS => hn (hs k hk hS))⟩
/-- Two steps: what the second may turn is new, or the first's own. -/
theorem Fr.trans {S S' : Nat → Prop} {a b c : World} (h : Fr S a b) (k : Fr S' b c) (hs : ∀ j, j < a.heap.size → S' j → S j) : Fr S a c :=
  ⟨k.os.trans h.os, k.tape.trans h.tape, k.output.trans h.output, Nat.le_trans h.size k.size, fun j hj hn =>
    (k.block j (Nat.lt_of_lt_of_le hj h.size) (fun hS => hn (hs j hj hS))).trans (h.block j hj hn)⟩
theorem Fr.drew {S : Nat → Prop} {a w : World} (h : Fr S a w) : Fr S a w.drew := ⟨h.os, h.tape, h.output, h.size, h.block⟩
theorem Fr.drewN {S : Nat → Prop} {a w : World} (h : Fr S a w) (n : Nat) : Fr S a (w.drewN n) := ⟨h.os, h.tape, h.output, h.size, h.block⟩
theorem Fr.alloc {S : Nat → Prop} {a w : World} (h : Fr S a w) (o : Obj) : Fr S a (w.alloc o) :=
  ⟨h.os, h.tape, h.output, Nat.le_trans h.size (by simp), fun k hk hn => by
    rw [Below.heap_alloc w o k (Nat.lt_of_lt_of_le hk h.size)]; exact h.block k hk hn⟩
theorem Fr.setCell {S : Nat → Prop} {a w : World} (h : Fr S a w) {p : Addr} (hp : S p.block ∨ a.heap.size ≤ p.block) (u : Value) : Fr S a (w.setCell p u) :=
  ⟨h.os, h.tape, h.output, Nat.le_trans h.size (by simp [World.setCell]), fun k hk hn => by
    rw [Below.heap_setCell w p u k (fun e => by subst e; rcases hp with hp | hp; exact hn hp; omega)]; exact h.block k hk hn⟩
theorem Fr.below {B : Nat} {w w' : World} (h : Fr (fun k => B ≤ k) w w') (hB : B ≤ w.heap.size) : Below B w w' :=
  ⟨h.os, h.tape, h.output, h.size, fun k hk => h.block k (by omega) (by omega)⟩
theorem Fr.of_below {B : Nat} {w w' : World} (h : Below B w w') : Fr (fun k => B ≤ k) w w' :=
  ⟨h.os, h.tape, h.output, h.size, fun k _ hn => h.block k (by omega)⟩
theorem Fr.of_grown {w w' : World} {row : Option Nat} (h : w.grownBy w' row) : Fr (fun k => row = some k) w w' :=
  ⟨h.os, h.tape, h.output, h.size, fun k hk hn => h.block k hk (fun e => hn e.symm)⟩

/-- Block b, known whole, nothing frozen. -/
def Has (w : World) (b : Nat) (cs : Array Value) (T : TypeId) : Prop := w.heap[b]? = some (.cells cs T (0, 0))

theorem Has.lt {w : World} {b : Nat} {cs : Array Value} {T : TypeId} (h : Has w b cs T) : b < w.heap.size := (Array.getElem?_eq_some_iff.1 h).1
theorem Has.cell {w : World} {b : Nat} {cs : Array Value} {T : TypeId} (h : Has w b cs T) (i : Nat) : w.cell? ⟨b, i, none⟩ = cs[i]? := by
  have h' : w.heap[b]? = some (.cells cs T (0, 0)) := h
  simp [World.cell?, h']
theorem Has.frozen {w : World} {b : Nat} {cs : Array Value} {T : TypeId} (h : Has w b cs T) (i : Nat) : w.frozen? ⟨b, i, none⟩ = false := by
  have h' : w.heap[b]? = some (.cells cs T (0, 0)) := h
  simp [World.frozen?, h']
theorem Has.fr {S : Nat → Prop} {w w' : World} {b : Nat} {cs : Array Value} {T : TypeId} (h : Has w b cs T) (hf : Fr S w w') (hb : ¬ S b) : Has w' b cs T :=
  (hf.block b h.lt hb).trans h
theorem Has.drew {w : World} {b : Nat} {cs : Array Value} {T : TypeId} (h : Has w b cs T) : Has w.drew b cs T := h
theorem Has.drewN {w : World} {b : Nat} {cs : Array Value} {T : TypeId} (h : Has w b cs T) (n : Nat) : Has (w.drewN n) b cs T := h
theorem Has.alloc {w : World} {b : Nat} {cs : Array Value} {T : TypeId} (h : Has w b cs T) (o : Obj) : Has (w.alloc o) b cs T :=
  (Below.heap_alloc w o b h.lt).trans h
theorem Has.new (w : World) (cs : Array Value) (T : TypeId) : Has (w.alloc (.cells cs T)) w.heap.size cs T := heap_alloc_new w _
theorem Has.newSet (w : World) (p : Addr) (v : Value) (cs : Array Value) (T : TypeId) : Has ((w.setCell p v).alloc (.cells cs T)) w.heap.size cs T := by
  have h := Has.new (w.setCell p v) cs T
  have hs : (w.setCell p v).heap.size = w.heap.size := by simp [World.setCell]
  rw [hs] at h
  exact h
theorem Has.put {w : World} {b : Nat} {cs : Array Value} {T : TypeId} (h : Has w b cs T) (i : Nat) (u : Value) : Has (w.setCell ⟨b, i, none⟩ u) b (cs.setIfInBounds i u) T := by
  have h' : w.heap[b]? = some (.cells cs T (0, 0)) := h
  simp [Has, World.setCell, Array.getElem?_modify, h']
theorem Has.other {w : World} {b : Nat} {cs : Array Value} {T : TypeId} (h : Has w b cs T) {p : Addr} (hp : b ≠ p.block) (u : Value) : Has (w.setCell p u) b cs T :=
  (Below.heap_setCell w p u b hp).trans h
theorem Has.ne {w : World} {b b' : Nat} {cs cs' : Array Value} {T T' : TypeId} (h : Has w b cs T) (h' : Has w b' cs' T') (hT : T ≠ T') : b ≠ b' := by
  intro e; subst e
  have := h.symm.trans h'
  simp at this
  exact hT this.2
theorem Has.uniq {w : World} {b : Nat} {cs cs' : Array Value} {T T' : TypeId} (h : Has w b cs T) (h' : Has w b cs' T') : cs = cs' := by
  have := h.symm.trans h'
  simp at this
  exact this.1

theorem ret_bool {a b : Bool} (h : a = b) : Ending.returned (.bool a) = .returned (.bool b) := by rw [h]
theorem ret_int {k : IntKind} {a b : Int} (h : a = b) : Ending.returned (.int k a) = .returned (.int k b) := by rw [h]
/-! ### rows (slices of the call's own) -/
theorem owns_fr {S : Nat → Prop} {w w' : World} {e : TypeId} {size : Nat} {v : Value} {n : Nat} {xs : List Value} (h : w.ownsRow 0 e size v n xs) (hf : Fr S w w') (hv : ∀ g, v.ownBlock = some g → ¬ S g) : w'.ownsRow 0 e size v n xs := by
  refine ⟨h.1, ?_⟩
  rcases h.2 with hn | ⟨g, cap, cur, rfl, hb, hgg, rest⟩
  · exact .inl hn
  · refine .inr ⟨g, cap, cur, rfl, hb, ?_, rest⟩
    rw [hf.block g (Array.getElem?_eq_some_iff.1 hgg).1 (hv g rfl)]
    exact hgg
theorem owns_lt {w : World} {e : TypeId} {size : Nat} {v : Value} {n : Nat} {xs : List Value} (h : w.ownsRow 0 e size v n xs) (g : Nat) (hg : v.ownBlock = some g) : g < w.heap.size := (h.lt g hg).2
theorem owns_drew {w : World} {e : TypeId} {size : Nat} {v : Value} {n : Nat} {xs : List Value} (h : w.ownsRow 0 e size v n xs) : w.drew.ownsRow 0 e size v n xs := h
theorem owns_drewN {w : World} {e : TypeId} {size : Nat} {v : Value} {n : Nat} {xs : List Value} (h : w.ownsRow 0 e size v n xs) (k : Nat) : (w.drewN k).ownsRow 0 e size v n xs := h
theorem owns_alloc {w : World} {e : TypeId} {size : Nat} {v : Value} {n : Nat} {xs : List Value} (h : w.ownsRow 0 e size v n xs) (o : Obj) : (w.alloc o).ownsRow 0 e size v n xs := h.alloc o
theorem owns_other {w : World} {e : TypeId} {size : Nat} {v : Value} {n : Nat} {xs : List Value} (h : w.ownsRow 0 e size v n xs) {p : Addr} (hp : v.ownBlock ≠ some p.block) (u : Value) : (w.setCell p u).ownsRow 0 e size v n xs :=
  owns_fr (S := fun k => k = p.block) h (Fr.setCell (S := fun k => k = p.block) (Fr.refl _ w) (p := p) (.inl rfl) u) (fun g hg e => hp (by rw [hg, e]))
theorem owns_ne {w : World} {e : TypeId} {size : Nat} {v : Value} {n : Nat} {xs : List Value} (h : w.ownsRow 0 e size v n xs) {b : Nat} {cs : Array Value} {T : TypeId} (hb : Has w b cs T) (hT : T ≠ e) : v.ownBlock ≠ some b := by
  intro hv
  rcases h.2 with ⟨rfl, _⟩ | ⟨g, cap, cur, rfl, _, hgg, _⟩
  · simp [Value.ownBlock] at hv
  · simp [Value.ownBlock] at hv
    subst hv
    have := hb.symm.trans hgg
    simp at this
    exact hT this.2
/-- Two rows of different element types lie apart. -/
theorem owns_apart {w : World} {e e' : TypeId} {size size' : Nat} {v v' : Value} {n n' : Nat} {xs xs' : List Value} (h : w.ownsRow 0 e size v n xs) (h' : w.ownsRow 0 e' size' v' n' xs') (hT : e ≠ e') : ∀ k, v.ownBlock = some k → v'.ownBlock ≠ some k := by
  intro k hk hk'
  rcases h.2 with ⟨rfl, _⟩ | ⟨g, cap, cur, rfl, _, hgg, _⟩
  · simp [Value.ownBlock] at hk
  · simp [Value.ownBlock] at hk
    subst hk
    exact owns_ne h' (show Has w g cur e from hgg) hT hk'
/-- A slice that holds something: its block, and its cells. -/
theorem owns_some {w : World} {e : TypeId} {size : Nat} {a : Option Addr} {n cap : Nat} {xs : List Value} (h : w.ownsRow 0 e size (.slice a n cap) n xs) (hn : 0 < n) :
    ∃ g, a = some ⟨g, 0, none⟩ ∧ ∀ j, j < n * size → w.cell? ⟨g, j, none⟩ = xs[j]? := by
  rcases h.2 with ⟨_, h0⟩ | ⟨g, cap', cur, hv, _, hgg, _⟩
  · omega
  · simp only [Value.slice.injEq] at hv
    obtain ⟨rfl, _, rfl⟩ := hv
    exact ⟨g, rfl, fun j hj => h.cellAt j hj⟩

/-- 's = s[:m]' -/
theorem owns_take {w : World} {e : TypeId} {size : Nat} {a : Option Addr} {n cap : Nat} {xs : List Value} (h : w.ownsRow 0 e size (.slice a n cap) n xs) (m : Nat) (hm : m ≤ n) : w.ownsRow 0 e size (.slice a m cap) m (xs.take (m * size)) := by
  have hl := h.1
  have hms : m * size ≤ n * size := Nat.mul_le_mul_right _ hm
  refine ⟨by rw [List.length_take]; omega, ?_⟩
  rcases h.2 with ⟨hv, h0⟩ | ⟨g, cap', cur, hv, hb, hgg, h1, h2, h3, h4⟩
  · simp at hv
    obtain ⟨rfl, _, rfl⟩ := hv
    obtain rfl : m = 0 := by omega
    exact .inl ⟨rfl, rfl⟩
  · simp at hv
    obtain ⟨rfl, rfl⟩ := hv
    exact .inr ⟨g, cap, cur, rfl, hb, hgg, by omega, h2, h3, by rw [← h4, List.take_take, Nat.min_eq_left hms]⟩
/-- the form of a slice's address -/
theorem owns_form {w : World} {e : TypeId} {size : Nat} {a : Option Addr} {n cap : Nat} {xs : List Value} (h : w.ownsRow 0 e size (.slice a n cap) n xs) : (a = none ∧ n = 0 ∧ cap = 0) ∨ ∃ g, a = some ⟨g, 0, none⟩ ∧ n ≤ cap := by
  rcases h.2 with ⟨hv, h0⟩ | ⟨g, cap', cur, hv, hb, hgg, h1, _⟩
  · simp at hv
    exact .inl ⟨hv.1, h0, hv.2.2⟩
  · simp at hv
    exact .inr ⟨g, hv.1, by omega⟩

/-- An element type's row of the program's table. -/
structure IsRow (P : Program) (t e : TypeId) (z : Value) (size bytes : Nat) : Prop where
  ht : P.underlying t = some (.slice e)
  hi : (P.info? e).map (fun i => (i.zero, i.size, i.bytes)) = some (some z, size, bytes)
  hzs : z.cells.size = size
  hsz : 0 < size

/-- append of one element, laid in a block of its own just before. -/
theorem wpList_app {P : Program} {t e : TypeId} {z : Value} {size bytes : Nat} (R : IsRow P t e z size bytes) (w : World) {ops : Array Oper} {rest : List Oper} {o : Oper} {a : Act} {Q : Exit → Act → World → Prop} (hgd : o.guard = none) (s x : Operand)
    (ho : o.op = .call { callee := .builtin .append, args := #[s, x], argTypes := #[t, t] })
    (v : Value) (n : Nat) (xs : List Value) (hs : a.eval s = v) (hown : w.ownsRow 0 e size v n xs)
    (B : Nat) (news : List Value) (hx : a.eval x = .slice (some ⟨B, 0, none⟩) 1 1) (hB : Has w B news.toArray e) (hl : news.length = size) (h1 : ∀ u ∈ news, u.oneCell' = true)
    (hbound : (n + 1) * (bytes + 1) ≤ 140737488355328)
    (h : ∀ g cap w', w'.ownsRow 0 e size (.slice (some ⟨g, 0, none⟩) (n + 1) cap) (n + 1) (xs ++ news) → Fr (fun k => v.ownBlock = some k) w w' → (v.ownBlock = some g ∨ g = w.heap.size) → g < w'.heap.size → wpList P ops Q rest (a.put o.dst (.slice (some ⟨g, 0, none⟩) (n + 1) cap)) w') : wpList P ops Q (o :: rest) a w := by
  obtain ⟨ht, hi, hzs, hsz⟩ := R
  obtain ⟨i, hi, hz, hsize, hby⟩ := info_parts hi
  have hb2 : (n + 1) * bytes ≤ (n + 1) * (bytes + 1) := Nat.mul_le_mul_left _ (by omega)
  have hb3 : (n + 1) * 1 ≤ (n + 1) * (bytes + 1) := Nat.mul_le_mul_left _ (by omega)
  refine wpList_plain hgd fun K hK => ?_
  obtain ⟨v', w', hr, h2, h3, _, h5⟩ := run_append_own_at (P := P) w 0 t o.type e i z size bytes ht hi hz hsize hby hzs hsz v n xs hown ⟨B, 0, none⟩ 1 1 news (by omega)
    (fun j u hj => by
      have hadd : (⟨B, 0, none⟩ : Addr).add j = ⟨B, j, none⟩ := by unfold Addr.add; split <;> simp_all
      rw [hadd, hB.cell]; simpa using hj) h1 (by unfold maxLen; omega) (by omega) (Nat.zero_le _)
  have hform : ∃ g cap, v' = .slice (some ⟨g, 0, none⟩) (n + 1) cap := by
    rcases h2.2 with ⟨_, h0⟩ | ⟨g, cap, cur, hv, _⟩
    · omega
    · exact ⟨g, cap, hv⟩
  obtain ⟨g, cap, rfl⟩ := hform
  unfold Oper.wp execOp
  simp only [ho, resolve, invoke, builtin, Sem.run_bind, Sem.run_pure, Result.andThen_ok, List.map_toArray, List.map_cons, List.map_nil, hs, hx, hr]
  refine hK _ _ (h g cap w' h2 (Fr.of_grown h3) ?_ (h2.lt g rfl).2)
  rcases h5 with h5 | h5
  · exact .inl (by rw [← h5]; rfl)
  · right
    simpa [Value.ownBlock] using h5

/-- 'x.f = append(x.f, e)': what it comes to: the struct in block b, its cell i; o: the block that the element was laid in first. -/
theorem app_net {w w1 : World} {o : Obj} {v : Value} {b : Nat} {cs : Array Value} {T e : TypeId} (hb : Has w b cs T) (hne : v.ownBlock ≠ some b) (hfr : Fr (fun k => v.ownBlock = some k) (w.alloc o) w1)
    {size g n cap : Nat} {xs : List Value} (hown : w1.ownsRow 0 e size (.slice (some ⟨g, 0, none⟩) n cap) n xs) (hT : T ≠ e) (hat : v.ownBlock = some g ∨ g = w.heap.size + 1) (hlt : g < w1.heap.size) (i : Nat) :
    Fr (fun k => v.ownBlock = some k ∨ k = b) w (w1.setCell ⟨b, i, none⟩ (.slice (some ⟨g, 0, none⟩) n cap)) ∧
    Has (w1.setCell ⟨b, i, none⟩ (.slice (some ⟨g, 0, none⟩) n cap)) b (cs.setIfInBounds i (.slice (some ⟨g, 0, none⟩) n cap)) T ∧
    (w1.setCell ⟨b, i, none⟩ (.slice (some ⟨g, 0, none⟩) n cap)).ownsRow 0 e size (.slice (some ⟨g, 0, none⟩) n cap) n xs ∧
    (v.ownBlock = some g ∨ w.heap.size ≤ g) ∧ g < (w1.setCell ⟨b, i, none⟩ (.slice (some ⟨g, 0, none⟩) n cap)).heap.size := by
  have h1 : Has w1 b cs T := (hb.alloc o).fr hfr hne
  have hgb : (Value.slice (some ⟨g, 0, none⟩) n cap).ownBlock ≠ some b := owns_ne hown h1 hT
  refine ⟨?_, h1.put i _, owns_other hown hgb _, ?_, by simpa [World.setCell] using hlt⟩
  · have h0 : Fr (fun k => v.ownBlock = some k ∨ k = b) w w1 := Fr.trans (S := fun k => v.ownBlock = some k ∨ k = b) ((Fr.refl _ w).alloc o) hfr (fun j _ hj => .inl hj)
    exact h0.setCell (.inl (.inr rfl)) _
  · rcases hat with h | h
    · exact .inl h
    · right; omega

end Go.Proofs.Qxb6500574aGreatDoor
