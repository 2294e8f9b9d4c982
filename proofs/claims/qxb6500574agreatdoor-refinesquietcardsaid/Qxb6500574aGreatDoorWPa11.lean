/-
  THE WALK of the parser layer: the parser: its small calls, each in one word; what a statement has gathered.
-/
import Derived.Test.Qxb6500574aGreatDoorWPa10
namespace Go.Proofs.Qxb6500574aGreatDoor
open Go Go.RowKit
set_option linter.unusedVariables false
set_option linter.unusedSimpArgs false
open Go.Lib
section
variable {w w1 w2 : World} {o : Nat → Nat} {bp : Nat} {sl : Sl} {T : List Tok} {s s1 s2 : PSt} {n room : Nat}
theorem PGd.expectC (g : PGd w o bp T sl s) (k : Nat) (k0 : k ≠ 0) (k1 : k ≠ 1) : Calls Tryz.prog 225 #[.pointer (some ⟨bp, 0, none⟩), .int .i64 k] w fun e w' =>
    Stp (fun l => l = 1043) w o w' o ∧ ((∃ y, e = .returned (.bool false) ∧ (∀ f, expectP T s k f = .inl y) ∧ PErr w' o bp y.1 y.2) ∨ (e = .returned (.bool true) ∧ (∀ f, expectP T s k f = f s.nxt) ∧ PGd w' o bp T sl s.nxt)) := by
  by_cases hk : (curT T s).k = k
  · refine (g.r.expect_yes g.g hk k0 k1).mono ?_
    rintro e w' ⟨rfl, q1, q2⟩
    exact ⟨q2, .inr ⟨rfl, fun f => by unfold expectP; rw [if_pos hk], g.st q2 q1 ((Alike.nxt s).sok g.k)⟩⟩
  · obtain ⟨y, hy⟩ : ∃ y, failP T s 15 = .inl y := ⟨_, rfl⟩
    refine (g.r.expect_no hk hy).mono ?_
    rintro e w' ⟨rfl, q1, q2⟩
    exact ⟨q2, .inl ⟨y, rfl, fun f => by unfold expectP; rw [if_neg hk, hy], q1⟩⟩
theorem PGd.acceptC (g : PGd w o bp T sl s) (k : Nat) (k0 : k ≠ 0) (k1 : k ≠ 1) : Calls Tryz.prog 224 #[.pointer (some ⟨bp, 0, none⟩), .int .i64 k] w fun e w' =>
    Stp (fun l => l = 1043) w o w' o ∧ ((e = .returned (.bool false) ∧ (curT T s).k ≠ k ∧ PGd w' o bp T sl s) ∨ (e = .returned (.bool true) ∧ (curT T s).k = k ∧ PGd w' o bp T sl s.nxt)) := by
  by_cases hk : (curT T s).k = k
  · refine (g.r.accept_yes g.g hk k0 k1).mono ?_
    rintro e w' ⟨rfl, q1, q2⟩
    exact ⟨q2, .inr ⟨rfl, hk, g.st q2 q1 ((Alike.nxt s).sok g.k)⟩⟩
  · refine (g.r.accept_no hk).mono ?_
    rintro e w' ⟨rfl, rfl⟩
    exact ⟨Stp.refl _ _ _, .inl ⟨rfl, hk, g⟩⟩
theorem PGd.nameC (g : PGd w o bp T sl s) (x : Nat) (hx : x ≤ 100) : Calls Tryz.prog 222 #[.pointer (some ⟨bp, 0, none⟩), .int .i64 x] w fun e w' =>
    Stp (fun l => l = 1043) w o w' o ∧ ((∃ y, e = .returned (.pointer none) ∧ (∀ f, nameP T s x f = .inl y) ∧ PErr w' o bp y.1 y.2) ∨ (∃ b, e = .returned (.pointer (some ⟨b, 0, none⟩)) ∧ w.heap.size ≤ b ∧ (∀ f, nameP T s x f = f (curT T s) s.nxt) ∧ Has w' b #[.int .i64 (curT T s).p, sv (curT T s).s] 357 ∧ PGd w' o bp T sl s.nxt ∧ (0 < x → s.alive + x ≤ 12))) := by
  by_cases hk : (curT T s).k = 2
  · by_cases ha : 0 < x ∧ 12 < s.alive + x
    · obtain ⟨y, hy⟩ : ∃ y, failP T s 18 = .inl y := ⟨_, rfl⟩
      refine (g.r.name_no hx g.k.al (.inr ⟨hk, ha.1, ha.2, hy⟩)).mono ?_
      rintro e w' ⟨rfl, q1, q2⟩
      exact ⟨q2, .inl ⟨y, rfl, fun f => by unfold nameP; rw [if_neg (by omega), if_pos ha, hy], q1⟩⟩
    · refine (g.r.name_yes g.g hx hk ha g.k.al).mono ?_
      rintro e w' ⟨b, rfl, q0, q3, q1, q2⟩
      exact ⟨q2, .inr ⟨b, rfl, q0, fun f => by unfold nameP; rw [if_neg (by omega), if_neg ha], q3, g.st q2 q1 ((Alike.nxt s).sok g.k), fun h => by omega⟩⟩
  · obtain ⟨y, hy⟩ : ∃ y, failP T s 15 = .inl y := ⟨_, rfl⟩
    refine (g.r.name_no hx g.k.al (.inl ⟨hk, hy⟩)).mono ?_
    rintro e w' ⟨rfl, q1, q2⟩
    exact ⟨q2, .inl ⟨y, rfl, fun f => by unfold nameP; rw [if_pos hk, hy], q1⟩⟩
theorem PGd.nextC (g : PGd w o bp T sl s) (h0 : (curT T s).k ≠ 0) (h1 : (curT T s).k ≠ 1) : Calls Tryz.prog 155 #[.pointer (some ⟨bp, 0, none⟩)] w fun e w' => e = .returned (.tuple #[]) ∧ Stp (fun l => l = 1043) w o w' o ∧ PGd w' o bp T sl s.nxt := by
  refine (g.r.next g.g h0 h1).mono ?_
  rintro e w' ⟨rfl, q1, q2⟩
  exact ⟨rfl, q2, g.st q2 q1 ((Alike.nxt s).sok g.k)⟩
/-- the parser's cell 7: how many locals are alive -/
theorem PGd.alive (g : PGd w o bp T sl s) {x : Nat} (hx : x ≤ 12) {u : Int} (hu : u = (x : Int)) : PGd (w.setCell ⟨bp, 7, none⟩ (.int .i64 u)) o bp T sl { s with alive := x } ∧ Stp (fun l => l = 1043) w o (w.setCell ⟨bp, 7, none⟩ (.int .i64 u)) o := by
  subst hu
  obtain ⟨p1, q1⟩ := g.r.blk.put 7 (.int .i64 x) rfl
  exact ⟨g.st q1 ⟨p1, g.r.row.st q1 (by omega), g.r.lt, q1.hi g.r.ow⟩ ⟨g.k.n1, g.k.fu, hx⟩, q1⟩
/-- its cell 8: the loops -/
theorem PGd.loops (g : PGd w o bp T sl s) {x : Nat} {u : Int} (hu : u = (x : Int)) : PGd (w.setCell ⟨bp, 8, none⟩ (.int .i64 u)) o bp T sl { s with loops := x } ∧ Stp (fun l => l = 1043) w o (w.setCell ⟨bp, 8, none⟩ (.int .i64 u)) o := by
  subst hu
  obtain ⟨p1, q1⟩ := g.r.blk.put 8 (.int .i64 x) rfl
  exact ⟨g.st q1 ⟨p1, g.r.row.st q1 (by omega), g.r.lt, q1.hi g.r.ow⟩ ⟨g.k.n1, g.k.fu, g.k.al⟩, q1⟩
/-- its cell 9: the literals -/
theorem PGd.funcs (g : PGd w o bp T sl s) {x : Nat} (hx : x ≤ 12) {u : Int} (hu : u = (x : Int)) : PGd (w.setCell ⟨bp, 9, none⟩ (.int .i64 u)) o bp T sl { s with funcs := x } ∧ Stp (fun l => l = 1043) w o (w.setCell ⟨bp, 9, none⟩ (.int .i64 u)) o := by
  subst hu
  obtain ⟨p1, q1⟩ := g.r.blk.put 9 (.int .i64 x) rfl
  exact ⟨g.st q1 ⟨p1, g.r.row.st q1 (by omega), g.r.lt, q1.hi g.r.ow⟩ ⟨g.k.n1, hx, g.k.al⟩, q1⟩
/-- what was gathered since s -/
structure Acc (w w1 : World) (s s1 : PSt) (K : List Mb) (M : Bks) (L : List Ls) : Prop where
  k : ∀ x ∈ K, TrA w1 (Fz w.heap.size w1.heap.size) s1.nodes x.1 x.2.1 x.2.2 ∧ s.nodes.length - 1 ≤ x.1 ∧ x.2.1 < s1.nodes.length ∧ ((s1.nodes.getD x.2.1 nd0).next = 0 ∨ ∃ y ∈ L, x ∈ y.2.2.2)
  m : Mm w1 (Fz w.heap.size w1.heap.size) M
  l : ∀ y ∈ L, Lst s1.nodes y.1 y.2.1 y.2.2.1 y.2.2.2 ∧ s.nodes.length - 1 ≤ y.1 ∧ y.2.1 < s1.nodes.length
  n : 1 ≤ s.nodes.length
  le : s.nodes.length ≤ s1.nodes.length
  z : w.heap.size ≤ w1.heap.size
variable {K : List Mb} {M : Bks} {L : List Ls}
theorem Acc.nil (w : World) (k : SOk s) : Acc w w s s [] [] [] := ⟨(fun x hx => by cases hx), Mm.nil _ _, (fun x hx => by cases hx), k.n1, Nat.le_refl _, Nat.le_refl _⟩
theorem Acc.stp (h : Acc w w1 s s1 K M L) (t : Stp (fun l => l = 1043) w1 o w2 o) (ow : Ow w o) (hn : s2.nodes = s1.nodes) : Acc w w2 s s2 K M L := by
  have hz := t.fr.size
  have h0 := h.z
  refine ⟨fun x hx => ?_, h.m.stp t ow (Nat.le_refl _) (Nat.le_refl _) hz, fun y hy => by rw [hn]; exact h.l y hy, h.n, by rw [hn]; exact h.le, by omega⟩
  rw [hn]
  obtain ⟨a1, a2⟩ := h.k x hx
  exact ⟨a1.stp t ow (Nat.le_refl _) (Nat.le_refl _) (Nat.le_refl _) hz, a2⟩
theorem Acc.grow (h : Acc w w1 s s1 K M L) (hl : s1.nodes.length ≤ s2.nodes.length) (hg : ∀ x, x < s1.nodes.length → s2.nodes.getD x nd0 = s1.nodes.getD x nd0) : Acc w w1 s s2 K M L := by
  refine ⟨fun x hx => ?_, h.m, fun y hy => ?_, h.n, Nat.le_trans h.le hl, h.z⟩
  · obtain ⟨a1, a2, a3, a4⟩ := h.k x hx
    exact ⟨a1.grow a3 hg, a2, by omega, by rw [hg _ a3]; exact a4⟩
  · obtain ⟨a1, a2, a3⟩ := h.l y hy
    exact ⟨a1.up fun i _ b2 => hg i (by omega), a2, by omega⟩
theorem Acc.tree {v : Nat} {V : Value} (h : Acc w w1 s s1 K M L) (X : ExS w1 o bp T sl s1 s2 v w2 V) (t : Stp (fun l => l = 1043) w1 o w2 o) (ow : Ow w o) : Acc w w2 s s2 (K ++ [(s1.nodes.length - 1, v, V)]) M L := by
  have h2 := (h.stp (s2 := s1) t ow rfl).grow X.f.kp.le X.f.kp.old
  have ve := X.f.ve
  have z := h.z
  have le := h.le
  refine ⟨fun x hx => ?_, h2.m, h2.l, h2.n, h2.le, h2.z⟩
  rcases List.mem_append.1 hx with hx | hx
  · exact h2.k x hx
  · rcases List.mem_singleton.1 hx with rfl
    exact ⟨X.t.wide z (Nat.le_refl _), by dsimp only; omega, by dsimp only; omega, .inl X.f.nx⟩
theorem Acc.list2 {wx : World} {v : Nat} {V : Value} {ms : List Mb} {m : Bks} (h : Acc w w1 s s1 K M L) (X : LsS wx o bp T sl s1 s2 v w2 V ms m) (hx : w.heap.size ≤ wx.heap.size) (t : Stp (fun l => l = 1043) w1 o w2 o) (ow : Ow w o) : Acc w w2 s s2 (K ++ ms) (M ++ m) (L ++ [(s1.nodes.length - 1, s2.nodes.length - 1, v, ms)]) := by
  have h2 := (h.stp (s2 := s1) t ow rfl).grow X.f.kp.le X.f.kp.old
  have z := h.z
  have le := h.le
  have kl := X.f.kp.le
  have n := h.n
  refine ⟨fun x hx' => ?_, h2.m.app (X.m.wide hx (Nat.le_refl _)), fun y hy => ?_, h2.n, h2.le, h2.z⟩
  · rcases List.mem_append.1 hx' with hx' | hx'
    · obtain ⟨a1, a2, a3, a4⟩ := h2.k x hx'
      exact ⟨a1, a2, a3, a4.imp_right fun ⟨y, b1, b2⟩ => ⟨y, List.mem_append_left _ b1, b2⟩⟩
    · have := X.l.mem x hx'
      exact ⟨(X.t x hx').wide hx (Nat.le_refl _), by omega, by omega, .inr ⟨_, List.mem_append_right _ (List.mem_singleton.2 rfl), hx'⟩⟩
  · rcases List.mem_append.1 hy with hy | hy
    · exact h2.l y hy
    · rcases List.mem_singleton.1 hy with rfl
      exact ⟨X.l, by dsimp only; omega, by dsimp only; omega⟩
theorem Acc.list {v : Nat} {V : Value} {ms : List Mb} {m : Bks} (h : Acc w w1 s s1 K M L) (X : LsS w1 o bp T sl s1 s2 v w2 V ms m) (t : Stp (fun l => l = 1043) w1 o w2 o) (ow : Ow w o) : Acc w w2 s s2 (K ++ ms) (M ++ m) (L ++ [(s1.nodes.length - 1, s2.nodes.length - 1, v, ms)]) := h.list2 X h.z t ow
theorem ExS.put {v b i : Nat} {u V : Value} (X : ExS w o bp T sl s s1 v w1 V) (hb : o b = 0) (hl : b < w.heap.size) : ExS w o bp T sl s s1 v (w1.setCell ⟨b, i, none⟩ u) V := by
  refine ⟨X.r.put hb, X.f, ?_⟩
  rw [show (w1.setCell ⟨b, i, none⟩ u).heap.size = w1.heap.size by simp]
  exact X.t.put hl (Nat.le_refl _)
theorem Acc.mem {b : Nat} {cs : Array Value} {t : TypeId} (h : Acc w w1 s s1 K M L) (hb : Has w1 b cs t) (hz : w.heap.size ≤ b) : Acc w w1 s s1 K (M ++ [(b, cs, t)]) L :=
  ⟨h.k, h.m.app (Mm.cons ⟨hz, hb.lt⟩ hb (Mm.nil _ _)), h.l, h.n, h.le, h.z⟩
/-- the new root, boxed -/
theorem Acc.fin {d : Nd} {tt TT : TypeId} {cs : Array Value} (h : Acc w w1 s s1 K M L) (HQ : Stp (fun l => l = 1043) w o w1 o) (ow : Ow w o) (r : PRep w1 o bp T sl s1) (f : EF s (s1.add d) s1.nodes.length) (hc : d.cut = d)
    (sh : Shp d (s.nodes.length - 1) s1.nodes.length (.iface tt (.pointer (some ⟨w1.heap.size, 0, none⟩))) K ((w1.heap.size, cs, TT) :: M) L) : ExS w o bp T sl s (s1.add d) s1.nodes.length (w1.alloc (.cells cs TT)) (.iface tt (.pointer (some ⟨w1.heap.size, 0, none⟩))) :=
  ExS.root HQ ow r f hc h.k h.l h.m sh
/-- the new root, in a block that stood -/
theorem Acc.fin2 {d : Nd} {tt : TypeId} {b : Nat} (h : Acc w w1 s s1 K M L) (r : PRep w1 o bp T sl s1) (f : EF s (s1.add d) s1.nodes.length) (hc : d.cut = d)
    (sh : Shp d (s.nodes.length - 1) s1.nodes.length (.iface tt (.pointer (some ⟨b, 0, none⟩))) K M L) : ExS w o bp T sl s (s1.add d) s1.nodes.length w1 (.iface tt (.pointer (some ⟨b, 0, none⟩))) :=
  ExS.fin r f hc h.k h.l h.m sh
/-- the same, the block by itself -/
theorem Acc.fin3 {d : Nd} {tt TT : TypeId} {b : Nat} {cs : Array Value} (h : Acc w w1 s s1 K M L) (r : PRep w1 o bp T sl s1) (f : EF s (s1.add d) s1.nodes.length) (hc : d.cut = d) (hb : Has w1 b cs TT) (hz : w.heap.size ≤ b)
    (sh : Shp d (s.nodes.length - 1) s1.nodes.length (.iface tt (.pointer (some ⟨b, 0, none⟩))) K ((b, cs, TT) :: M) L) : ExS w o bp T sl s (s1.add d) s1.nodes.length w1 (.iface tt (.pointer (some ⟨b, 0, none⟩))) :=
  ExS.fin r f hc h.k h.l (Mm.cons ⟨hz, hb.lt⟩ hb h.m) sh
/-- a list of one -/
theorem LsS.one {v : Nat} {V : Value} (X : ExS w o bp T sl s s1 v w1 V) (z : w.heap.size ≤ w1.heap.size) (ow : Ow w o) (al : s1.alive = s.alive) : LsS w o bp T sl s s1 v (w1.alloc (.cells #[V] 206)) (.slice (some ⟨w1.heap.size, 0, none⟩) 1 1) [(s.nodes.length - 1, v, V)] [(w1.heap.size, #[V], 206)] := by
  have ve := X.f.ve
  have lt := X.f.lt
  have n1 := X.f.n1
  have e : (w1.alloc (.cells #[V] 206)).heap.size = w1.heap.size + 1 := by simp
  refine ⟨X.r.alloc _, ⟨X.f.kp, X.f.ok, al⟩, ⟨rfl, by dsimp only; omega, rfl, by dsimp only; omega, X.f.nx⟩, fun x hx => ?_, .inr ⟨_, 1, #[V], rfl, by simp, Nat.le_refl _, fun i x hx => ?_, rfl⟩, Mm.cons ⟨z, by omega⟩ (Has.new _ _ _) (Mm.nil _ _)⟩
  · rcases List.mem_singleton.1 hx with rfl
    exact X.t.stp ((Stp.refl _ _ _).alloc _) ow (Nat.le_refl _) (Nat.le_refl _) (Nat.le_refl _) (by omega)
  · cases i with
    | zero => simp at hx; rw [← hx]; rfl
    | succ i => simp at hx
/-- no list -/
theorem LsS.none (r : PRep w o bp T sl s) (k : SOk s) : LsS w o bp T sl s s 0 w (.slice none 0 0) [] [] := ⟨r, ⟨Kpt.refl k, k, rfl⟩, ⟨rfl, rfl⟩, (fun x hx => by cases hx), .inl ⟨rfl, rfl, rfl⟩, Mm.nil _ _⟩
/-- a block of one's own is turned -/
theorem Acc.put {b i : Nat} {u : Value} (h : Acc w w1 s s1 K M L) (hb : b < w.heap.size) : Acc w (w1.setCell ⟨b, i, none⟩ u) s s1 K M L := by
  have e : (w1.setCell ⟨b, i, none⟩ u).heap.size = w1.heap.size := by simp
  refine ⟨fun x hx => ?_, ?_, h.l, h.n, h.le, by rw [e]; exact h.z⟩
  · rw [e]
    obtain ⟨a1, a2⟩ := h.k x hx
    exact ⟨a1.put hb (Nat.le_refl _), a2⟩
  · rw [e]
    exact h.m.put hb
theorem Acc.base {s0 : PSt} (h : Acc w w1 s s1 K M L) (hn : s0.nodes = s.nodes) : Acc w w1 s0 s1 K M L := ⟨fun x hx => by rw [hn]; exact h.k x hx, h.m, fun y hy => by rw [hn]; exact h.l y hy, by rw [hn]; exact h.n, by rw [hn]; exact h.le, h.z⟩
theorem Acc.wide {w0 : World} (h : Acc w w1 s s1 K M L) (hz : w0.heap.size ≤ w.heap.size) : Acc w0 w1 s s1 K M L :=
  ⟨fun x hx => ⟨(h.k x hx).1.wide hz (Nat.le_refl _), (h.k x hx).2⟩, h.m.wide hz (Nat.le_refl _), h.l, h.n, h.le, Nat.le_trans hz h.z⟩
/-- a list grew: nothing else has turned -/
theorem LsI.far {w4 w5 w6 : World} {s4 : PSt} {sl2 : Sl} {ms : List Mb} {first last : Nat} {b : Obj} (h : LsI w w4 s s4 sl2 ms first last) (hs : Stp (fun l => l = 1043) w o w5 o) (q2 : Fr (fun k => (sl2.v ms.length).ownBlock = some k) (w5.alloc b) w6) : Stp (fun l => l = 1043) w o w6 o :=
  ⟨Fr.trans (hs.fr.alloc b) q2 (fun j hj h' => absurd (h.fz j h') (by omega)), hs.ext, fun ow k hk => hs.hi ow k (by have := q2.size; simp at this; omega)⟩
theorem LsI.near {w4 w5 w6 : World} {s4 : PSt} {sl2 : Sl} {ms : List Mb} {first last : Nat} {b : Obj} (h : LsI w w4 s s4 sl2 ms first last) (ow : Ow w o) (q2 : Fr (fun k => (sl2.v ms.length).ownBlock = some k) (w5.alloc b) w6) : Stp (fun l => l = 0) w5 o w6 o :=
  ⟨Fr.trans ((Fr.refl _ _).alloc b) q2 (fun j hj h' => ow j (h.fz j h')), fun _ _ => rfl, fun ow k hk => ow k (by have := q2.size; simp at this; omega)⟩
/-- a list stays -/
theorem LsS.stp {w0 w3 : World} {s0 s3 : PSt} {v : Nat} {V : Value} {ms : List Mb} {m : Bks} (X : LsS w o bp T sl s1 s2 v w1 V ms m) (hz : w0.heap.size ≤ w.heap.size) (t : Stp (fun l => l = 1043) w1 o w3 o) (ow : Ow w0 o) (r : PRep w3 o bp T sl s3) (hn : s3.nodes = s2.nodes) (hn1 : s0.nodes.length = s1.nodes.length) (f : LF s0 s3) : LsS w0 o bp T sl s0 s3 v w3 V ms m := by
  refine ⟨r, f, by rw [hn, hn1]; exact X.l, fun x hx => ?_, X.v, X.m.stp t ow hz hz t.fr.size⟩
  rw [hn]
  exact (X.t x hx).stp t ow hz (Nat.le_refl _) hz t.fr.size
theorem ExQ.bad {R : PR} {y : Nat × Nat} (h : Stp (fun l => l = 1043) w o w1 o) (hR : R = .inl y) (e : PErr w1 o bp y.1 y.2) : ExQ w o bp T sl s R (.returned .nilIface) w1 := ⟨h, .inl ⟨y, hR, rfl, e⟩⟩
theorem LsQ.bad {R : PR} {y : Nat × Nat} (h : Stp (fun l => l = 1043) w o w1 o) (hR : R = .inl y) (e : PErr w1 o bp y.1 y.2) : LsQ w o bp T sl s R (.returned (.tuple #[.slice none 0 0, .bool false])) w1 := ⟨h, .inl ⟨y, hR, rfl, e⟩⟩
theorem FnQ.bad {R : PR} {y : Nat × Nat} (h : Stp (fun l => l = 1043) w o w1 o) (hR : R = .inl y) (e : PErr w1 o bp y.1 y.2) : FnQ w o bp T sl s R (.returned (.pointer none)) w1 := ⟨h, .inl ⟨y, hR, rfl, e⟩⟩
end
end Go.Proofs.Qxb6500574aGreatDoor
