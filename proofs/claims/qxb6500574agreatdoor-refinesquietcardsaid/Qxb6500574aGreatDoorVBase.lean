/-
  ROWS AND BLOCKS WITH LABELS: whose a block is; steps that turn the blocks of some labels alone. No program.
-/
import Derived.Test.Qxb6500574aGreatDoorMem
namespace Go.Proofs.Qxb6500574aGreatDoor
open Go Go.RowKit
set_option linter.unusedVariables false
set_option linter.unusedSimpArgs false

abbrev sv (l : List UInt8) : Value := .string ⟨l.toArray⟩
/-- a list of rows of k cells each, laid one behind the other -/
theorem flatMap_len {α : Type} (f : α → List Value) (k : Nat) (hf : ∀ a, (f a).length = k) : ∀ l : List α, (l.flatMap f).length = l.length * k
  | [] => by simp
  | a :: l => by simp [hf, flatMap_len f k hf l, Nat.add_mul]; omega
theorem flatMap_at {α : Type} (f : α → List Value) (k : Nat) (hf : ∀ a, (f a).length = k) : ∀ (l : List α) (i j : Nat) (a : α), l[i]? = some a → j < k → (l.flatMap f)[i * k + j]? = (f a)[j]?
  | [], i, j, a, h, _ => by simp at h
  | b :: l, 0, j, a, h, hj => by
    simp at h; subst h
    simp only [List.flatMap_cons, Nat.zero_mul, Nat.zero_add]
    rw [List.getElem?_append_left (by rw [hf]; exact hj)]
  | b :: l, i + 1, j, a, h, hj => by
    simp at h
    simp only [List.flatMap_cons]
    rw [List.getElem?_append_right (by rw [hf, Nat.add_mul]; omega), hf, ← flatMap_at f k hf l i j a h hj]
    congr 1
    rw [Nat.add_mul]; omega
theorem flatMap_set {α : Type} (f : α → List Value) (k : Nat) (hf : ∀ a, (f a).length = k) : ∀ (l : List α) (i j : Nat) (a a' : α) (u : Value), l[i]? = some a → j < k → f a' = (f a).set j u → (l.set i a').flatMap f = (l.flatMap f).set (i * k + j) u
  | [], i, j, a, a', u, h, _, _ => by simp at h
  | b :: l, 0, j, a, a', u, h, hj, hu => by
    simp at h; subst h
    simp only [List.set_cons_zero, List.flatMap_cons, Nat.zero_mul, Nat.zero_add]
    rw [List.set_append_left _ _ (by rw [hf]; exact hj), hu]
  | b :: l, i + 1, j, a, a', u, h, hj, hu => by
    simp at h
    simp only [List.set_cons_succ, List.flatMap_cons]
    rw [List.set_append_right _ _ (by rw [hf, Nat.add_mul]; omega), hf, flatMap_set f k hf l i j a a' u h hj hu]
    congr 2
    rw [Nat.add_mul]; omega
theorem flatMap_take {α : Type} (f : α → List Value) (k : Nat) (hf : ∀ a, (f a).length = k) : ∀ (l : List α) (n : Nat), (l.take n).flatMap f = (l.flatMap f).take (n * k)
  | l, 0 => by simp
  | [], n + 1 => by simp
  | a :: l, n + 1 => by
    rw [List.take_succ_cons, List.flatMap_cons, List.flatMap_cons, flatMap_take f k hf l n]
    have h2 : (n + 1) * k = (f a).length + n * k := by rw [hf, Nat.add_mul]; omega
    rw [h2, List.take_length_add_append]
theorem ownBlock_any (a : Option Addr) (n c n' c' : Nat) : (Value.slice a n c).ownBlock = (Value.slice a n' c').ownBlock := by cases a <;> rfl
theorem owns_typed {w : World} {v : Value} {e : TypeId} {size n : Nat} {xs : List Value} (ho : w.ownsRow 0 e size v n xs) {g : Nat} (hg : v.ownBlock = some g) : ∃ cs, Has w g cs e := by
  rcases ho.2 with ⟨h1, _⟩ | ⟨g', cap', cur, hv, hb, hcur, _⟩
  · rw [h1] at hg; cases hg
  · rw [hv] at hg
    simp [Value.ownBlock] at hg
    subst hg
    exact ⟨cur, hcur⟩

/-! ### labels -/
/-- what is not there yet bears no label -/
def Ow (w : World) (o : Nat → Nat) : Prop := ∀ k, w.heap.size ≤ k → o k = 0
/-- a step: blocks with labels of Q, and new ones, may have turned; labels stay -/
structure Stp (Q : Nat → Prop) (w : World) (o : Nat → Nat) (w' : World) (o' : Nat → Nat) : Prop where
  fr : Fr (fun k => Q (o k)) w w'
  ext : ∀ k, k < w.heap.size → o' k = o k
  hi : Ow w o → Ow w' o'
section
variable {Q Q' : Nat → Prop} {w w1 w2 : World} {o o1 o2 : Nat → Nat}
theorem Stp.refl (Q : Nat → Prop) (w : World) (o : Nat → Nat) : Stp Q w o w o := ⟨Fr.refl _ _, fun _ _ => rfl, fun h => h⟩
theorem Stp.trans (h : Stp Q w o w1 o1) (h' : Stp Q w1 o1 w2 o2) : Stp Q w o w2 o2 :=
  ⟨h.fr.trans h'.fr (fun j hj hq => by rw [h.ext j hj] at hq; exact hq), fun k hk => (h'.ext k (Nat.lt_of_lt_of_le hk h.fr.size)).trans (h.ext k hk), fun x => h'.hi (h.hi x)⟩
theorem Stp.weaken (h : Stp Q w o w1 o1) (hq : ∀ l, Q l → Q' l) : Stp Q' w o w1 o1 := ⟨h.fr.weaken (fun _ _ x => hq _ x), h.ext, h.hi⟩
/-- what turns nothing -/
theorem Stp.fresh (Q : Nat → Prop) (o : Nat → Nat) (h : Fr (fun _ => False) w w1) : Stp Q w o w1 o :=
  ⟨h.weaken (fun _ _ x => x.elim), fun _ _ => rfl, fun x k hk => x k (Nat.le_trans h.size hk)⟩
theorem Stp.drew (h : Stp Q w o w1 o1) : Stp Q w o w1.drew o1 := h.trans (Stp.fresh Q o1 ((Fr.refl _ _).drew))
theorem Stp.drewN (h : Stp Q w o w1 o1) (n : Nat) : Stp Q w o (w1.drewN n) o1 := h.trans (Stp.fresh Q o1 ((Fr.refl _ _).drewN n))
theorem Stp.alloc (h : Stp Q w o w1 o1) (b : Obj) : Stp Q w o (w1.alloc b) o1 := h.trans (Stp.fresh Q o1 ((Fr.refl _ _).alloc b))
theorem Stp.setCell (h : Stp Q w o w1 o1) {p : Addr} (hp : Q (o1 p.block)) (u : Value) : Stp Q w o (w1.setCell p u) o1 :=
  h.trans ⟨Fr.setCell (S := fun k => Q (o1 k)) (Fr.refl _ _) (.inl hp) u, fun _ _ => rfl, fun x k hk => x k (by simpa [World.setCell] using hk)⟩
/-- a block of the call's own, which bears no label -/
theorem Stp.own (h : Stp Q w o w1 o1) {p : Addr} (hp : w.heap.size ≤ p.block) (u : Value) : Stp Q w o (w1.setCell p u) o1 :=
  ⟨h.fr.setCell (.inr hp) u, h.ext, fun x k hk => h.hi x k (by simpa [World.setCell] using hk)⟩
/-- what bears no label of Q -/
theorem Stp.has (h : Stp Q w o w1 o1) {b : Nat} {cs : Array Value} {T : TypeId} (hb : Has w b cs T) (hq : ¬ Q (o b)) : Has w1 b cs T := hb.fr h.fr hq

/-- a block with a label, known whole -/
structure Blk (w : World) (o : Nat → Nat) (lab b : Nat) (cs : Array Value) (T : TypeId) : Prop where
  has : Has w b cs T
  lb : o b = lab
theorem Blk.st {lab b : Nat} {cs : Array Value} {T : TypeId} (h : Blk w o lab b cs T) (s : Stp Q w o w1 o1) (hq : ¬ Q lab) : Blk w1 o1 lab b cs T :=
  ⟨s.has h.has (by rw [h.lb]; exact hq), (s.ext b h.has.lt).trans h.lb⟩
theorem Blk.put {lab b : Nat} {cs : Array Value} {T : TypeId} (h : Blk w o lab b cs T) (i : Nat) (u : Value) {cs' : Array Value} (e : cs.setIfInBounds i u = cs') :
    Blk (w.setCell ⟨b, i, none⟩ u) o lab b cs' T ∧ Stp (fun l => l = lab) w o (w.setCell ⟨b, i, none⟩ u) o := by
  subst e
  exact ⟨⟨h.has.put i u, h.lb⟩, (Stp.refl _ _ _).setCell (p := ⟨b, i, none⟩) h.lb u⟩
/-- a new block, which gets a label -/
def upd (o : Nat → Nat) (g lab : Nat) : Nat → Nat := fun k => if k = g then lab else o k
theorem upd_self (o : Nat → Nat) (g lab : Nat) : upd o g lab g = lab := by simp [upd]
theorem upd_ne (o : Nat → Nat) {g k : Nat} (lab : Nat) (h : k ≠ g) : upd o g lab k = o k := by simp [upd, h]

/-- a slice's header -/
structure Sl where
  a : Option Addr
  c : Nat
abbrev Sl.v (s : Sl) (n : Nat) : Value := .slice s.a n s.c
def sl0 : Sl := ⟨none, 0⟩
/-- a row in blocks of its own -/
structure Row (w : World) (o : Nat → Nat) (lab : Nat) (T : TypeId) (k : Nat) (s : Sl) (n : Nat) (xs : List Value) : Prop where
  own : w.ownsRow 0 T k (s.v n) n xs
  lb : ∀ g, (Value.slice s.a 0 0).ownBlock = some g → o g = lab
variable {lab : Nat} {T : TypeId} {k : Nat} {s : Sl} {n : Nat} {xs : List Value}
theorem Row.lt (h : Row w o lab T k s n xs) {g : Nat} (hg : (Value.slice s.a 0 0).ownBlock = some g) : g < w.heap.size := owns_lt h.own g (by rw [ownBlock_any _ _ _ 0 0]; exact hg)
theorem Row.st (h : Row w o lab T k s n xs) (t : Stp Q w o w1 o1) (hq : ¬ Q lab) : Row w1 o1 lab T k s n xs :=
  ⟨owns_fr h.own t.fr (fun g hg => by rw [ownBlock_any _ _ _ 0 0] at hg; rw [h.lb g hg]; exact hq), fun g hg => (t.ext g (h.lt hg)).trans (h.lb g hg)⟩
theorem Row.nil (w : World) (o : Nat → Nat) (lab : Nat) (T : TypeId) (k : Nat) : Row w o lab T k sl0 0 [] := ⟨⟨by simp, .inl ⟨rfl, rfl⟩⟩, fun g hg => by simp [sl0, Value.ownBlock] at hg⟩
theorem Row.take (h : Row w o lab T k s n xs) (m : Nat) (hm : m ≤ n) {ys : List Value} (e : xs.take (m * k) = ys) : Row w o lab T k s m ys := ⟨by rw [← e]; exact owns_take h.own m hm, h.lb⟩
theorem Row.len (h : Row w o lab T k s n xs) : xs.length = n * k := h.own.1
theorem Row.form (h : Row w o lab T k s n xs) : (s.a = none ∧ n = 0 ∧ s.c = 0) ∨ ∃ g, s.a = some ⟨g, 0, none⟩ ∧ n ≤ s.c := owns_form h.own
/-- a row that holds something: its block, its cells -/
theorem Row.cells (h : Row w o lab T k s n xs) (hn : 0 < n) : ∃ g, s.a = some ⟨g, 0, none⟩ ∧ n ≤ s.c ∧ o g = lab ∧ g < w.heap.size ∧ (∀ j, j < n * k → w.cell? ⟨g, j, none⟩ = xs[j]?) ∧ ∀ j, w.frozen? ⟨g, j, none⟩ = false := by
  obtain ⟨g, ha, hc⟩ := owns_some h.own hn
  have hg : (Value.slice s.a 0 0).ownBlock = some g := by rw [ha]; rfl
  obtain ⟨cs, hcs⟩ := owns_typed h.own (g := g) (by rw [ownBlock_any _ _ _ 0 0]; exact hg)
  refine ⟨g, ha, ?_, h.lb g hg, h.lt hg, hc, fun j => hcs.frozen j⟩
  rcases h.form with ⟨h1, _⟩ | ⟨_, _, h1⟩
  · rw [h1] at ha; cases ha
  · exact h1
/-- a cell of it turned -/
theorem Row.put (h : Row w o lab T k s n xs) {g : Nat} (hg : s.a = some ⟨g, 0, none⟩) (j : Nat) (u : Value) {ys : List Value} (e : xs.set j u = ys) :
    Row (w.setCell ⟨g, j, none⟩ u) o lab T k s n ys ∧ Stp (fun l => l = lab) w o (w.setCell ⟨g, j, none⟩ u) o := by
  subst e
  have hl := h.lb g (by rw [hg]; rfl)
  have ho := h.own
  unfold Sl.v at ho
  rw [hg] at ho
  have := (ho.stored j u).1
  refine ⟨⟨?_, h.lb⟩, (Stp.refl _ _ _).setCell (p := ⟨g, j, none⟩) hl u⟩
  unfold Sl.v
  rw [hg]
  exact this
/-- behind an append: w1: where it was carried out; w2: behind it -/
theorem Row.app (h : Row w o lab T k s n xs) (hf : Fr (fun _ => False) w w1) {g cap n' : Nat} {ys : List Value} (q1 : w2.ownsRow 0 T k (.slice (some ⟨g, 0, none⟩) n' cap) n' ys) (q2 : Fr (fun j => (s.v n).ownBlock = some j) w1 w2) (q3 : (s.v n).ownBlock = some g ∨ w.heap.size ≤ g) (q4 : g < w2.heap.size) :
    Row w2 (upd o g lab) lab T k ⟨some ⟨g, 0, none⟩, cap⟩ n' ys ∧ Stp (fun l => l = lab) w o w2 (upd o g lab) := by
  refine ⟨⟨q1, fun j hj => ?_⟩, ⟨?_, fun j hj => ?_, fun x j hj => ?_⟩⟩
  · simp [Value.ownBlock] at hj
    subst hj
    exact upd_self o g lab
  · exact (hf.weaken (fun _ _ x => x.elim)).trans q2 (fun j _ hj => h.lb j (by rw [ownBlock_any _ _ _ n s.c]; exact hj))
  · by_cases e : j = g
    · subst e
      rw [upd_self]
      rcases q3 with q3 | q3
      · exact (h.lb j (by rw [ownBlock_any _ _ _ n s.c]; exact q3)).symm
      · omega
    · exact upd_ne o lab e
  · rw [upd_ne o lab (by omega)]
    exact x j (Nat.le_trans (Nat.le_trans hf.size q2.size) hj)
end
end Go.Proofs.Qxb6500574aGreatDoor
