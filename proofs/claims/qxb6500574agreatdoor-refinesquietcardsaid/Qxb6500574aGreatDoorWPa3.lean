/-
  THE WALK of the parser layer: the parser: what its functions come to.
-/
import Derived.Test.Qxb6500574aGreatDoorWPa2
namespace Go.Proofs.Qxb6500574aGreatDoor
open Go Go.RowKit
set_option linter.unusedVariables false
set_option linter.unusedSimpArgs false
open Go.Lib
/-- blocks between a and b -/
def Fz (a b : Nat) (k : Nat) : Prop := a ≤ k ∧ k < b
theorem TrA.stp {w1 w2 : World} {o : Nat → Nat} {N : List Nd} {lo n a b a' b' h0 : Nat} {v : Value} (h : TrA w1 (Fz a b) N lo n v) (t : Stp (fun l => l = 1043) w1 o w2 o) (ow : ∀ k, h0 ≤ k → o k = 0) (h1 : h0 ≤ a) (h2 : b ≤ w1.heap.size) (h3 : a' ≤ a) (h4 : b ≤ b') : TrA w2 (Fz a' b') N lo n v :=
  h.up (fun k hk => ⟨⟨Nat.le_trans h3 hk.1, Nat.lt_of_lt_of_le hk.2 h4⟩, t.fr.block k (Nat.lt_of_lt_of_le hk.2 h2) (by
    rw [ow k (Nat.le_trans h1 hk.1)]
    decide)⟩) (fun _ _ _ => rfl) rfl
/-- a grown arena -/
theorem TrA.grow {w : World} {P : Nat → Prop} {N N' : List Nd} {lo n : Nat} {v : Value} (h : TrA w P N lo n v) (hn : n < N.length) (hg : ∀ x, x < N.length → N'.getD x nd0 = N.getD x nd0) : TrA w P N' lo n v :=
  h.up (fun _ hk => ⟨hk, rfl⟩) (fun i _ hi => hg i (by omega)) (by rw [hg n hn])
/-- a new root -/
theorem TrA.root {w : World} {P : Nat → Prop} {N : List Nd} {d : Nd} {lo n : Nat} {v : Value} {kids : List Mb} {mem : Bks} {ls : List Ls} (hn : N.length = n) (hc : d.cut = d) (hlt : lo < n) (hm : Mm w P mem) (hk : ∀ x ∈ kids, TrA w P N x.1 x.2.1 x.2.2 ∧ lo ≤ x.1 ∧ x.2.1 < n ∧ ((N.getD x.2.1 nd0).next = 0 ∨ ∃ L ∈ ls, x ∈ L.2.2.2)) (hl : ∀ L ∈ ls, Lst N L.1 L.2.1 L.2.2.1 L.2.2.2 ∧ lo ≤ L.1 ∧ L.2.1 < n) (sh : Shp d lo n v kids mem ls) : TrA w P (N ++ [d]) lo n v := by
  subst hn
  have hg : ∀ x, x < N.length → (N ++ [d]).getD x nd0 = N.getD x nd0 := fun x hx => getD_old hx
  refine .mk lo _ v d kids mem ls ?_ hm (fun L hL => ?_) (fun x hx => ?_) (fun x hx => ⟨(hk x hx).2.1, (hk x hx).2.2.1⟩) (fun x hx => ?_) hlt sh
  · rw [getD_last]; exact hc
  · obtain ⟨a1, a2, a3⟩ := hl L hL
    exact ⟨a1.up fun i _ b2 => hg i (by omega), a2, a3⟩
  · obtain ⟨a1, a2, a3, a4⟩ := hk x hx
    exact a1.grow a3 hg
  · obtain ⟨a1, a2, a3, a4⟩ := hk x hx
    rw [hg _ a3]
    exact a4
theorem PB_ne {r : PR} {f : List Nat → PSt → PR} (h : PBd r f ≠ x99) : r ≠ x99 := fun e => h (by rw [e]; rfl)
/-- one more tree -/
structure EF (s s' : PSt) (v : Nat) : Prop where
  kp : Kpt s s'
  ve : v + 1 = s'.nodes.length
  ok : SOk s'
  lt : s.nodes.length ≤ v
  n1 : 1 ≤ s.nodes.length
  nx : (s'.nodes.getD v nd0).next = 0
theorem cut_next {d : Nd} (h : d.cut = d) : d.next = 0 := by rw [← h]; rfl
theorem add_next (s : PSt) {d : Nd} (h : d.cut = d) : ((s.add d).nodes.getD s.nodes.length nd0).next = 0 := by
  show ((s.nodes ++ [d]).getD s.nodes.length nd0).next = 0
  rw [getD_last]
  exact cut_next h
/-- one more list -/
structure LF (s s' : PSt) : Prop where
  kp : Kpt s s'
  ok : SOk s'
  al : s'.alive = s.alive
theorem EF.exp {s s' : PSt} {w v : Nat} (hs : SOk s) (p : ExP s s' w v) : EF s s' v := ⟨p.kp, p.ve, p.sok hs, by have := p.sh.lt; have := hs.n1; omega, hs.n1, p.nx⟩
theorem EF.stp {s s' : PSt} {v : Nat} (hs : SOk s) (p : StP s s' v) : EF s s' v := ⟨p.kp, p.ve, hs.kp p.kp p.al, by have := p.sh.lt; have := hs.n1; omega, hs.n1, p.nx⟩
theorem EF.nxt {s s' : PSt} {v : Nat} (h : EF s.nxt s' v) : EF s s' v := ⟨h.kp.alike (Alike.nxt s).symm (Alike.refl _), h.ve, h.ok, h.lt, h.n1, h.nx⟩
/-- the success of an expression, or of a statement -/
structure ExS (w : World) (o : Nat → Nat) (bp : Nat) (T : List Tok) (sl : Sl) (s s' : PSt) (v : Nat) (w' : World) (V : Value) : Prop where
  r : PRep w' o bp T sl s'
  f : EF s s' v
  t : TrA w' (Fz w.heap.size w'.heap.size) s'.nodes (s.nodes.length - 1) v V
/-- what an expression, or a statement, comes to -/
def ExQ (w : World) (o : Nat → Nat) (bp : Nat) (T : List Tok) (sl : Sl) (s : PSt) (r : PR) (e : Ending) (w' : World) : Prop :=
  Stp (fun l => l = 1043) w o w' o ∧ ((∃ y, r = .inl y ∧ e = .returned .nilIface ∧ PErr w' o bp y.1 y.2) ∨ (∃ v s' t b, r = .inr (v, s') ∧ e = .returned (.iface t (.pointer (some ⟨b, 0, none⟩))) ∧ ExS w o bp T sl s s' (v.getD 0 0) w' (.iface t (.pointer (some ⟨b, 0, none⟩)))))
/-- the success of a list -/
structure LsS (w : World) (o : Nat → Nat) (bp : Nat) (T : List Tok) (sl : Sl) (s s' : PSt) (v : Nat) (w' : World) (V : Value) (ms : List Mb) (m : Bks) : Prop where
  r : PRep w' o bp T sl s'
  f : LF s s'
  l : Lst s'.nodes (s.nodes.length - 1) (s'.nodes.length - 1) v ms
  t : ∀ x ∈ ms, TrA w' (Fz w.heap.size w'.heap.size) s'.nodes x.1 x.2.1 x.2.2
  v : SlM ms V m
  m : Mm w' (Fz w.heap.size w'.heap.size) m
/-- what a list comes to -/
def LsQ (w : World) (o : Nat → Nat) (bp : Nat) (T : List Tok) (sl : Sl) (s : PSt) (r : PR) (e : Ending) (w' : World) : Prop :=
  Stp (fun l => l = 1043) w o w' o ∧ ((∃ y, r = .inl y ∧ e = .returned (.tuple #[.slice none 0 0, .bool false]) ∧ PErr w' o bp y.1 y.2) ∨ (∃ v s' sa ln cp ms m, r = .inr (v, s') ∧ e = .returned (.tuple #[.slice sa ln cp, .bool true]) ∧ LsS w o bp T sl s s' (v.getD 0 0) w' (.slice sa ln cp) ms m))
/-- what a function literal comes to -/
def FnQ (w : World) (o : Nat → Nat) (bp : Nat) (T : List Tok) (sl : Sl) (s : PSt) (r : PR) (e : Ending) (w' : World) : Prop :=
  Stp (fun l => l = 1043) w o w' o ∧ ((∃ y, r = .inl y ∧ e = .returned (.pointer none) ∧ PErr w' o bp y.1 y.2) ∨ (∃ v s' b, r = .inr (v, s') ∧ e = .returned (.pointer (some ⟨b, 0, none⟩)) ∧ ExS w o bp T sl s s' (v.getD 0 0) w' (.iface 354 (.pointer (some ⟨b, 0, none⟩)))))
/-- the binding powers: global 3 -/
structure TabB (w : World) (o : Nat → Nat) : Prop where
  ex : ∃ b j c, w.cell? ⟨3, 0, none⟩ = some (.slice (some ⟨b, j, none⟩) 15 c) ∧ 3 < w.heap.size ∧ b < w.heap.size ∧ o 3 = 1039 ∧ o b = 1039 ∧ ∀ i x, bindL[i]? = some x → w.cell? ⟨b, j + i * 3, none⟩ = some (.int .i64 x.1) ∧ w.cell? ⟨b, j + i * 3 + 1, none⟩ = some (.int .i64 x.2.1) ∧ w.cell? ⟨b, j + i * 3 + 2, none⟩ = some (.int .u64 x.2.2)
theorem TabB.st {Q : Nat → Prop} {w w1 : World} {o o1 : Nat → Nat} (h : TabB w o) (s : Stp Q w o w1 o1) (hq : ¬ Q 1039) : TabB w1 o1 := by
  obtain ⟨b, j, c, h1, h2, h3, h4, h5, h6⟩ := h.ex
  have hs := s.fr.size
  have q3 : ¬ Q (o 3) := by rw [h4]; exact hq
  have qb : ¬ Q (o b) := by rw [h5]; exact hq
  refine ⟨b, j, c, ?_, by omega, by omega, (s.ext 3 h2).trans h4, (s.ext b h3).trans h5, fun i x hx => ?_⟩
  · rw [s.cellQ h2 q3]; exact h1
  · rw [s.cellQ h3 qb, s.cellQ h3 qb, s.cellQ h3 qb]; exact h6 i x hx
/-- a call's ground -/
structure PGd (w : World) (o : Nat → Nat) (bp : Nat) (T : List Tok) (sl : Sl) (s : PSt) : Prop where
  g : TG T
  r : PRep w o bp T sl s
  k : SOk s
  b : TabB w o
/-- the parser's functions at n steps -/
structure PCs (T : List Tok) (n : Nat) : Prop where
  c0 : ∀ {w o bp sl s room x}, PGd w o bp T sl s → room ≤ 12 → 1 ≤ x → x ≤ 7 → parN T n 0 room [x] s ≠ x99 → Calls Tryz.prog 159 #[.pointer (some ⟨bp, 0, none⟩), .int .i64 (room : Nat), .int .i64 (x : Nat)] w (ExQ w o bp T sl s (parN T n 0 room [x] s))
  c2 : ∀ {w o bp sl s room}, PGd w o bp T sl s → room ≤ 12 → parN T n 2 room [] s ≠ x99 → Calls Tryz.prog 226 #[.pointer (some ⟨bp, 0, none⟩), .int .i64 (room : Nat)] w (ExQ w o bp T sl s (parN T n 2 room [] s))
  c3 : ∀ {w o bp sl s room}, PGd w o bp T sl s → room ≤ 12 → parN T n 3 room [] s ≠ x99 → Calls Tryz.prog 162 #[.pointer (some ⟨bp, 0, none⟩), .int .i64 (room : Nat)] w (ExQ w o bp T sl s (parN T n 3 room [] s))
  c5 : ∀ {w o bp sl s room}, PGd w o bp T sl s → 1 ≤ room → room ≤ 12 → parN T n 5 room [] s ≠ x99 → Calls Tryz.prog 227 #[.pointer (some ⟨bp, 0, none⟩), .int .i64 (room : Nat)] w (ExQ w o bp T sl s (parN T n 5 room [] s))
  c6 : ∀ {w o bp sl s room}, PGd w o bp T sl s → room ≤ 12 → ∀ k m : Nat, (k = 40 ∧ m = 4) ∨ (k = 42 ∧ m = 0) → parN T n 6 room [k, m, 0, 0, 0] s ≠ x99 → Calls Tryz.prog 228 #[.pointer (some ⟨bp, 0, none⟩), .int .i64 (room : Nat), .int .i64 (k : Nat), .int .i64 ((m : Int) - 1)] w (LsQ w o bp T sl s (parN T n 6 room [k, m, 0, 0, 0] s))
  c7 : ∀ {w o bp sl s room p}, PGd w o bp T sl s → 1 ≤ room → room ≤ 12 → s.funcs < 12 → parN T n 7 room [p] s ≠ x99 → Calls Tryz.prog 223 #[.pointer (some ⟨bp, 0, none⟩), .int .i64 (room : Nat), .int .i64 (p : Nat)] w (FnQ w o bp T sl s (parN T n 7 room [p] s))
  c9 : ∀ {w o bp sl s room}, PGd w o bp T sl s → s.loops + room ≤ 12 → parN T n 9 room [] s ≠ x99 → Calls Tryz.prog 61 #[.pointer (some ⟨bp, 0, none⟩), .int .i64 (room : Nat)] w (LsQ w o bp T sl s (parN T n 9 room [] s))
  c11 : ∀ {w o bp sl s room}, PGd w o bp T sl s → 1 ≤ room → s.loops + room ≤ 12 → parN T n 11 room [] s ≠ x99 → Calls Tryz.prog 98 #[.pointer (some ⟨bp, 0, none⟩), .int .i64 (room : Nat)] w (ExQ w o bp T sl s (parN T n 11 room [] s))
  c12 : ∀ {w o bp sl s room}, PGd w o bp T sl s → 1 ≤ room → s.loops + room ≤ 12 → parN T n 12 room [] s ≠ x99 → Calls Tryz.prog 156 #[.pointer (some ⟨bp, 0, none⟩), .int .i64 (room : Nat)] w (ExQ w o bp T sl s (parN T n 12 room [] s))
  c13 : ∀ {w o bp sl s room}, PGd w o bp T sl s → 1 ≤ room → s.loops + room ≤ 12 → (curT T s).k = 13 ∨ (curT T s).k = 8 → parN T n 13 room [] s ≠ x99 → Calls Tryz.prog 157 #[.pointer (some ⟨bp, 0, none⟩), .int .i64 (room : Nat)] w (ExQ w o bp T sl s (parN T n 13 room [] s))
  c14 : ∀ {w o bp sl s room}, PGd w o bp T sl s → 1 ≤ room → s.loops + room ≤ 12 → parN T n 14 room [] s ≠ x99 → Calls Tryz.prog 158 #[.pointer (some ⟨bp, 0, none⟩), .int .i64 (room : Nat)] w (ExQ w o bp T sl s (parN T n 14 room [] s))
  c15 : ∀ {w o bp sl s room x}, PGd w o bp T sl s → 1 ≤ room → s.loops + room ≤ 12 → s.alive + x ≤ 12 → parN T n 15 room [x] s ≠ x99 → Calls Tryz.prog 160 #[.pointer (some ⟨bp, 0, none⟩), .int .i64 (room : Nat), .int .i64 (x : Nat)] w (LsQ w o bp T sl s (parN T n 15 room [x] s))
  c16 : ∀ {w o bp sl s room p}, PGd w o bp T sl s → 1 ≤ room → s.loops + room ≤ 12 → parN T n 16 room [p] s ≠ x99 → Calls Tryz.prog 161 #[.pointer (some ⟨bp, 0, none⟩), .int .i64 (room : Nat), .int .i64 (p : Nat)] w (ExQ w o bp T sl s (parN T n 16 room [p] s))
theorem PGd.st {w w' : World} {o : Nat → Nat} {bp : Nat} {T : List Tok} {sl : Sl} {s s' : PSt} (h : PGd w o bp T sl s) (t : Stp (fun l => l = 1043) w o w' o) (r : PRep w' o bp T sl s') (k : SOk s') : PGd w' o bp T sl s' := ⟨h.g, r, k, h.b.st t (by omega)⟩
theorem PGd.alloc {w : World} {o : Nat → Nat} {bp : Nat} {T : List Tok} {sl : Sl} {s : PSt} (h : PGd w o bp T sl s) (b : Obj) : PGd (w.alloc b) o bp T sl s := h.st (Stp.fresh _ o ((Fr.refl _ _).alloc b)) (h.r.alloc b) h.k
theorem TrA.wide {w : World} {N : List Nd} {lo n a b a' b' : Nat} {v : Value} (h : TrA w (Fz a b) N lo n v) (h3 : a' ≤ a) (h4 : b ≤ b') : TrA w (Fz a' b') N lo n v :=
  h.up (fun k hk => ⟨⟨Nat.le_trans h3 hk.1, Nat.lt_of_lt_of_le hk.2 h4⟩, rfl⟩) (fun _ _ _ => rfl) rfl
theorem Mm.wide {w : World} {a b a' b' : Nat} {m : Bks} (h : Mm w (Fz a b) m) (h3 : a' ≤ a) (h4 : b ≤ b') : Mm w (Fz a' b') m := fun x hx => ⟨⟨Nat.le_trans h3 (h x hx).1.1, Nat.lt_of_lt_of_le (h x hx).1.2 h4⟩, (h x hx).2⟩
theorem Mm.stp {w1 w2 : World} {o : Nat → Nat} {a b a' b' h0 : Nat} {m : Bks} (h : Mm w1 (Fz a b) m) (t : Stp (fun l => l = 1043) w1 o w2 o) (ow : ∀ k, h0 ≤ k → o k = 0) (h1 : h0 ≤ a) (h3 : a' ≤ a) (h4 : b ≤ b') : Mm w2 (Fz a' b') m := fun x hx => by
  obtain ⟨p1, p2⟩ := h x hx
  refine ⟨⟨Nat.le_trans h3 p1.1, Nat.lt_of_lt_of_le p1.2 h4⟩, t.has p2 ?_⟩
  rw [ow x.1 (Nat.le_trans h1 p1.1)]
  decide
theorem Mm.nil (w : World) (P : Nat → Prop) : Mm w P [] := fun x hx => by cases hx
theorem Mm.app {w : World} {P : Nat → Prop} {m m' : Bks} (h : Mm w P m) (h' : Mm w P m') : Mm w P (m ++ m') := fun x hx => (List.mem_append.1 hx).elim (h x) (h' x)
theorem Mm.cons {w : World} {P : Nat → Prop} {m : Bks} {b : Nat} {cs : Array Value} {T : TypeId} (h : P b) (h1 : Has w b cs T) (h' : Mm w P m) : Mm w P ((b, cs, T) :: m) := fun x hx => by
  rcases List.mem_cons.1 hx with e | e
  · subst e; exact ⟨h, h1⟩
  · exact h' x e
/-- a tree stays when an older block is turned -/
theorem TrA.put {w : World} {N : List Nd} {lo n a c b i : Nat} {u v : Value} (h : TrA w (Fz a c) N lo n v) (hb : b < a) (hc : c ≤ w.heap.size) : TrA (w.setCell ⟨b, i, none⟩ u) (Fz a c) N lo n v :=
  h.up (fun k hk => ⟨hk, (Fr.setCell (S := fun k => k = b) (Fr.refl _ w) (p := ⟨b, i, none⟩) (.inl rfl) u).block k (Nat.lt_of_lt_of_le hk.2 hc) (fun e => by have := hk.1; omega)⟩) (fun _ _ _ => rfl) rfl
/-- a list's blocks stay -/
theorem Mm.put {w : World} {a c b i : Nat} {u : Value} {m : Bks} (h : Mm w (Fz a c) m) (hb : b < a) : Mm (w.setCell ⟨b, i, none⟩ u) (Fz a c) m := fun x hx => by
  obtain ⟨p1, p2⟩ := h x hx
  exact ⟨p1, p2.other (p := ⟨b, i, none⟩) (fun e => by have := p1.1; simp only at e; omega) u⟩
theorem PRep.put {w : World} {o : Nat → Nat} {bp b i : Nat} {T : List Tok} {sl : Sl} {s : PSt} {u : Value} (h : PRep w o bp T sl s) (hb : o b = 0) : PRep (w.setCell ⟨b, i, none⟩ u) o bp T sl s :=
  h.st (Q := fun l => l = 0) ((Stp.refl _ w o).setCell (p := ⟨b, i, none⟩) hb u) (by omega) (by omega)
theorem PErr.put {w : World} {o : Nat → Nat} {bp b i er pl : Nat} {u : Value} (h : PErr w o bp er pl) (hb : o b = 0) : PErr (w.setCell ⟨b, i, none⟩ u) o bp er pl := by
  obtain ⟨cs, h1, h2⟩ := h
  exact ⟨cs, h1.st (Q := fun l => l = 0) ((Stp.refl _ w o).setCell (p := ⟨b, i, none⟩) hb u) (by omega), h2⟩
theorem PGd.put {w : World} {o : Nat → Nat} {bp b i : Nat} {T : List Tok} {sl : Sl} {s : PSt} {u : Value} (h : PGd w o bp T sl s) (hb : o b = 0) : PGd (w.setCell ⟨b, i, none⟩ u) o bp T sl s :=
  ⟨h.g, h.r.put hb, h.k, h.b.st (Q := fun l => l = 0) ((Stp.refl _ w o).setCell (p := ⟨b, i, none⟩) hb u) (by omega)⟩
/-- a new root -/
theorem ExS.fin {w w' : World} {o : Nat → Nat} {bp : Nat} {T : List Tok} {sl : Sl} {s s' : PSt} {d : Nd} {V : Value} {kids : List Mb} {m : Bks} {ls : List Ls} (r : PRep w' o bp T sl s') (f : EF s (s'.add d) s'.nodes.length) (hc : d.cut = d)
    (hk : ∀ x ∈ kids, TrA w' (Fz w.heap.size w'.heap.size) s'.nodes x.1 x.2.1 x.2.2 ∧ s.nodes.length - 1 ≤ x.1 ∧ x.2.1 < s'.nodes.length ∧ ((s'.nodes.getD x.2.1 nd0).next = 0 ∨ ∃ L ∈ ls, x ∈ L.2.2.2)) (hl : ∀ L ∈ ls, Lst s'.nodes L.1 L.2.1 L.2.2.1 L.2.2.2 ∧ s.nodes.length - 1 ≤ L.1 ∧ L.2.1 < s'.nodes.length) (hm : Mm w' (Fz w.heap.size w'.heap.size) m)
    (sh : Shp d (s.nodes.length - 1) s'.nodes.length V kids m ls) : ExS w o bp T sl s (s'.add d) s'.nodes.length w' V :=
  ⟨r.as rfl rfl rfl rfl, f, TrA.root rfl hc (by have := f.n1; have := f.lt; omega) hm hk hl sh⟩
/-- a new root is boxed -/
theorem ExS.root {w w2 : World} {o : Nat → Nat} {bp : Nat} {T : List Tok} {sl : Sl} {s s' : PSt} {d : Nd} {tt TT : TypeId} {cs : Array Value} {kids : List Mb} {m : Bks} {ls : List Ls} (HQ : Stp (fun l => l = 1043) w o w2 o) (ow : Ow w o) (r : PRep w2 o bp T sl s') (f : EF s (s'.add d) s'.nodes.length) (hc : d.cut = d)
    (hk : ∀ x ∈ kids, TrA w2 (Fz w.heap.size w2.heap.size) s'.nodes x.1 x.2.1 x.2.2 ∧ s.nodes.length - 1 ≤ x.1 ∧ x.2.1 < s'.nodes.length ∧ ((s'.nodes.getD x.2.1 nd0).next = 0 ∨ ∃ L ∈ ls, x ∈ L.2.2.2)) (hl : ∀ L ∈ ls, Lst s'.nodes L.1 L.2.1 L.2.2.1 L.2.2.2 ∧ s.nodes.length - 1 ≤ L.1 ∧ L.2.1 < s'.nodes.length) (hm : Mm w2 (Fz w.heap.size w2.heap.size) m)
    (sh : Shp d (s.nodes.length - 1) s'.nodes.length (.iface tt (.pointer (some ⟨w2.heap.size, 0, none⟩))) kids ((w2.heap.size, cs, TT) :: m) ls) : ExS w o bp T sl s (s'.add d) s'.nodes.length (w2.alloc (.cells cs TT)) (.iface tt (.pointer (some ⟨w2.heap.size, 0, none⟩))) := by
  have st : Stp (fun l => l = 1043) w2 o (w2.alloc (.cells cs TT)) o := Stp.fresh _ o ((Fr.refl _ _).alloc _)
  have hz := HQ.fr.size
  have ha : (w2.alloc (.cells cs TT)).heap.size = w2.heap.size + 1 := by simp
  have hlt := f.lt
  have hn1 := r.lt
  refine ⟨(r.alloc _).as rfl rfl rfl rfl, f, ?_⟩
  refine TrA.root rfl hc ?_ (Mm.cons ⟨hz, by omega⟩ (Has.new _ _ _) (hm.stp st ow (Nat.le_refl _) (Nat.le_refl _) (by omega))) (fun x hx => ?_) hl sh
  · have := f.n1
    omega
  · obtain ⟨a1, a2, a3, a4⟩ := hk x hx
    exact ⟨a1.stp st ow (Nat.le_refl _) (Nat.le_refl _) (Nat.le_refl _) (by omega), a2, a3, a4⟩
end Go.Proofs.Qxb6500574aGreatDoor
