/-
  THE INTERPRETER IN MEMORY: where its run, its threads, its variables lie. No walk.
-/
import Derived.Test.Qxb6500574aGreatDoorZB6
import Derived.Test.Qxb6500574aGreatDoorZM0
namespace Go.Proofs.Qxb6500574aGreatDoor
open Go Go.RowKit
set_option linter.unusedVariables false
set_option linter.unusedSimpArgs false
/-- a thread's places -/
structure XtP where
  b : Nat
  tk : Sl
  vl : Sl
/-- the run's places -/
structure RnP where
  br : Nat
  bn : Nat
  bt : Nat
  nd : Sl
  cl : Sl
  th : Sl
  ts : Sl
  sk : List Nat
  an : AnD
  X : List XtP
  E : List Nat
  tx : List TmX
  o : Nat → Nat
def eAd (E : List Nat) (e : Option Nat) : Option Addr := match e with
  | none => none
  | some i => some ⟨E.getD i 0, 0, none⟩
abbrev ePtr (E : List Nat) (e : Option Nat) : Value := .pointer (eAd E e)
def mdV (d : Nd) : List Value := [.int .i64 d.k, .int .i64 d.a, .int .i64 d.b, .int .i64 d.c, .int .i64 d.next, .int .u64 d.n, sv d.s, .int .i64 d.p]
theorem mdV_len (d : Nd) : (mdV d).length = 8 := rfl
def tkV (E : List Nat) (k : TkD) : List Value := [.int .i64 k.k, .int .i64 k.n, .int .i64 k.x, ePtr E k.e]
theorem tkV_len (E : List Nat) (k : TkD) : (tkV E k).length = 4 := rfl
def coV (E : List Nat) (q : Nat × Option Nat) : List Value := [.int .i64 q.1, ePtr E q.2]
theorem coV_len (E : List Nat) (q : Nat × Option Nat) : (coV E q).length = 2 := rfl
def xtV (x : XtP) : List Value := [.pointer (some ⟨x.b, 0, none⟩)]
theorem xtV_len (x : XtP) : (xtV x).length = 1 := rfl
def enV (E : List Nat) (e : EnD) : Array Value := #[sv e.nm, .int .i64 e.v.t, .int .u64 e.v.n, sv e.v.s, ePtr E e.up]
def thV (x : XtP) (T : MTh) : Array Value := #[.int .i64 T.st, .int .i64 T.fn, .int .i64 T.depth, x.tk.v T.tasks.length, x.vl.v T.vals.length]
/-- the run's own cells -/
def rnV (A : RnP) (N : List Nd) (root : Nat) (m : MD) : Array Value :=
  #[.pointer (some ⟨A.bn, 0, none⟩), .pointer (some ⟨A.bt, 0, none⟩), A.nd.v N.length, .int .i64 root, A.cl.v m.clos.length, A.th.v m.ths.length,
    .int .i64 (A.sk.getD 0 0 : Nat), .int .i64 (A.sk.getD 1 0 : Nat), .int .i64 (A.sk.getD 2 0 : Nat), .int .i64 (A.sk.getD 3 0 : Nat), .int .i64 (A.sk.getD 4 0 : Nat),
    .int .i64 m.stack.length, .int .i64 m.cur, .int .i64 m.fuel, .int .i64 m.first, sv m.out, .bool m.done.isSome,
    .int .i64 A.an.e, .int .i64 A.an.n, .int .i64 A.an.m, sv A.an.s, sv A.an.t]
/-- a thread in memory -/
structure ThM (w : World) (o : Nat → Nat) (E : List Nat) (j : Nat) (T : MTh) (x : XtP) : Prop where
  b : Blk w o (10 + j) x.b (thV x T) 183
  tk : Row w o (20 + j) 224 4 x.tk T.tasks.length (T.tasks.reverse.flatMap (tkV E))
  vl : Row w o (30 + j) 68 3 x.vl T.vals.length (T.vals.flatMap vCells)
/-- the interpreter in memory -/
structure MRep (w : World) (A : RnP) (N : List Nd) (root : Nat) (m : MD) : Prop where
  run : Blk w A.o 1 A.br (rnV A N root m) 173
  tab : TmRep w A.o A.bt A.bn A.ts A.tx
  tabs : A.tx.map (fun x => x.2) = m.tabs.map (fun t => t.order)
  clo : Row w A.o 4 179 2 A.cl m.clos.length (m.clos.flatMap (coV A.E))
  ths : Row w A.o 5 180 1 A.th m.ths.length (A.X.flatMap xtV)
  lx : A.X.length = m.ths.length
  l5 : m.ths.length ≤ 5
  one : ∀ j T x, m.ths[j]? = some T → A.X[j]? = some x → ThM w A.o A.E j T x
  le : A.E.length = m.envs.length
  env : ∀ i e, m.envs[i]? = some e → Blk w A.o (60 + i) (A.E.getD i 0) (enV A.E e) 222
  nod : Row w A.o 6 134 8 A.nd N.length (N.flatMap mdV)
  skl : A.sk.length = 5
  sk : m.stack.reverse <+: A.sk
  don : ∀ a, m.done = some a → A.an = a
  own : Ow w A.o
/-- a step of the run -/
structure MSt (w : World) (A : RnP) (w' : World) (A' : RnP) : Prop where
  s : Stp (fun l => 1 ≤ l) w A.o w' A'.o
  br : A'.br = A.br
  bn : A'.bn = A.bn
  bt : A'.bt = A.bt
  e : A.E <+: A'.E
  x : ∀ (j : Nat) (x : XtP), A.X[j]? = some x → ∃ x' : XtP, A'.X[j]? = some x' ∧ x'.b = x.b
theorem MSt.refl (w : World) (A : RnP) : MSt w A w A := ⟨Stp.refl _ _ _, rfl, rfl, rfl, List.prefix_rfl, fun j x h => ⟨x, h, rfl⟩⟩
theorem MSt.trans {w w1 w2 : World} {A A1 A2 : RnP} (h : MSt w A w1 A1) (g : MSt w1 A1 w2 A2) : MSt w A w2 A2 :=
  ⟨h.s.trans g.s, g.br.trans h.br, g.bn.trans h.bn, g.bt.trans h.bt, h.e.trans g.e, fun j x hx => by
    obtain ⟨x1, a, b⟩ := h.x j x hx
    obtain ⟨x2, c, d⟩ := g.x j x1 a
    exact ⟨x2, c, d.trans b⟩⟩
theorem MSt.fresh {w w1 : World} (A : RnP) (h : Fr (fun _ => False) w w1) : MSt w A w1 A := ⟨Stp.fresh _ _ h, rfl, rfl, rfl, List.prefix_rfl, fun j x h => ⟨x, h, rfl⟩⟩
theorem MSt.ep {w w' : World} {A A' : RnP} (h : MSt w A w' A') {e : Option Nat} (he : ∀ i, e = some i → i < A.E.length) : ePtr A'.E e = ePtr A.E e := by
  cases e with
  | none => rfl
  | some i =>
    have hi := he i rfl
    obtain ⟨t, ht⟩ := h.e
    unfold ePtr eAd
    rw [← ht]
    simp [List.getD_eq_getElem?_getD, List.getElem?_append_left hi]
section
variable {Q : Nat → Prop} {w w1 : World} {o o1 : Nat → Nat} {A A' : RnP} {N : List Nd} {root j : Nat} {m m' : MD} {T T' : MTh} {x x' : XtP} {E : List Nat}
theorem ThM.st (h : ThM w o E j T x) (t : Stp Q w o w1 o1) (h1 : ¬ Q (10 + j)) (h2 : ¬ Q (20 + j)) (h3 : ¬ Q (30 + j)) : ThM w1 o1 E j T x := ⟨h.b.st t h1, h.tk.st t h2, h.vl.st t h3⟩
theorem MRep.xat (h : MRep w A N root m) (hj : m.ths[j]? = some T) : ∃ x, A.X[j]? = some x := by
  have hl := (List.getElem?_eq_some_iff.1 hj).1
  exact ⟨A.X[j]'(by rw [h.lx]; exact hl), by simp⟩
/-- a step that turns nothing of the run's -/
theorem MRep.st (h : MRep w A N root m) (t : Stp Q w A.o w1 o1) (hq : ∀ l, 1 ≤ l → ¬ Q l) : MRep w1 { A with o := o1 } N root m :=
  ⟨h.run.st t (hq _ (by omega)), h.tab.st t (fun l hl => hq _ (by unfold isTm at hl; omega)), h.tabs, h.clo.st t (hq _ (by omega)), h.ths.st t (hq _ (by omega)), h.lx, h.l5, fun j T x a b => (h.one j T x a b).st t (hq _ (by omega)) (hq _ (by omega)) (hq _ (by omega)), h.le, fun i e a => (h.env i e a).st t (hq _ (by omega)), h.nod.st t (hq _ (by omega)), h.skl, h.sk, h.don, t.hi h.own⟩
theorem MRep.fresh (h : MRep w A N root m) (t : Fr (fun _ => False) w w1) : MRep w1 A N root m := h.st (Stp.fresh (fun _ => False) A.o t) (fun _ _ x => x)
theorem xt_same {X : List XtP} (hx : X[j]? = some x) (hb : x'.b = x.b) : (X.set j x').flatMap xtV = X.flatMap xtV := by
  have hl := (List.getElem?_eq_some_iff.1 hx).1
  rw [flatMap_set xtV 1 xtV_len X j 0 x x' (.pointer (some ⟨x.b, 0, none⟩)) hx (by omega) (by simp [xtV, hb])]
  have a := flatMap_at xtV 1 xtV_len X j 0 _ hx (by omega)
  apply List.ext_getElem?
  intro i
  by_cases e : j * 1 + 0 = i
  · subst e
    rw [List.getElem?_set_self (by rw [flatMap_len _ 1 xtV_len]; omega), a]
    rfl
  · rw [List.getElem?_set_ne e]
/-- a thread has turned -/
theorem MRep.turn (h : MRep w A N root m) (hj : m.ths[j]? = some T) (hx : A.X[j]? = some x) (t : Stp (fun l => l = 10 + j ∨ l = 20 + j ∨ l = 30 + j) w A.o w1 o1) (n : ThM w1 o1 A.E j T' x') (hb : x'.b = x.b) :
    MRep w1 { A with o := o1, X := A.X.set j x' } N root { m with ths := m.ths.set j T' } ∧ MSt w A w1 { A with o := o1, X := A.X.set j x' } := by
  have hl := (List.getElem?_eq_some_iff.1 hj).1
  have l5 := h.l5
  have hlx := h.lx
  have hlX : j < A.X.length := by omega
  refine ⟨⟨?_, h.tab.st t (fun l hl => by unfold isTm at hl; omega), h.tabs, h.clo.st t (by omega), ?_, by simp [hlx], by simp [l5], fun i U y a b => ?_, h.le, fun i e a => (h.env i e a).st t (by omega), h.nod.st t (by omega), h.skl, h.sk, h.don, t.hi h.own⟩, ⟨t.weaken (fun l hl => by omega), rfl, rfl, rfl, List.prefix_rfl, fun i y hy => ?_⟩⟩
  · have := h.run.st t (by omega)
    unfold rnV at this ⊢
    simp only [List.length_set]
    exact this
  · have := h.ths.st t (by omega)
    show Row w1 o1 5 180 1 A.th (m.ths.set j T').length ((A.X.set j x').flatMap xtV)
    rw [List.length_set, xt_same hx hb]
    exact this
  · have a : (m.ths.set j T')[i]? = some U := a
    have b : (A.X.set j x')[i]? = some y := b
    by_cases e : j = i
    · subst e
      rw [List.getElem?_set_self hl] at a
      rw [List.getElem?_set_self hlX] at b
      cases a
      cases b
      exact n
    · rw [List.getElem?_set_ne e] at a b
      have hi := (List.getElem?_eq_some_iff.1 a).1
      exact (h.one i U y a b).st t (by omega) (by omega) (by omega)
  · by_cases e : j = i
    · subst e
      rw [hx] at hy
      cases hy
      exact ⟨x', List.getElem?_set_self hlX, hb⟩
    · exact ⟨y, by rw [List.getElem?_set_ne e]; exact hy, rfl⟩
/-- the run's own cells have turned -/
theorem MRep.scal (h : MRep w A N root m) (t : Stp (fun l => l = 1) w A.o w1 o1) {sk : List Nat} {an : AnD} (n : Has w1 A.br (rnV { A with o := o1, sk := sk, an := an } N root m') 173) (h1 : m'.tabs = m.tabs) (h2 : m'.clos = m.clos) (h3 : m'.ths = m.ths) (h4 : m'.envs = m.envs) (hk : sk.length = 5) (hs : m'.stack.reverse <+: sk) (hd : ∀ a, m'.done = some a → an = a) :
    MRep w1 { A with o := o1, sk := sk, an := an } N root m' ∧ MSt w A w1 { A with o := o1, sk := sk, an := an } := by
  have l5 := h.l5
  refine ⟨⟨⟨n, (t.ext _ h.run.has.lt).trans h.run.lb⟩, h.tab.st t (fun l hl => by unfold isTm at hl; omega), by rw [h1]; exact h.tabs, by rw [h2]; exact h.clo.st t (by omega), by rw [h3]; exact h.ths.st t (by omega), by rw [h3]; exact h.lx, by rw [h3]; exact l5, fun i U y a b => ?_, by rw [h4]; exact h.le, fun i e a => ?_, h.nod.st t (by omega), hk, hs, hd, t.hi h.own⟩, ⟨t.weaken (fun l hl => by omega), rfl, rfl, rfl, List.prefix_rfl, fun i y hy => ⟨y, hy, rfl⟩⟩⟩
  · rw [h3] at a
    have hi := (List.getElem?_eq_some_iff.1 a).1
    exact (h.one i U y a b).st t (by omega) (by omega) (by omega)
  · rw [h4] at a
    exact (h.env i e a).st t (by omega)
/-- the tables have turned -/
theorem MRep.tabT (h : MRep w A N root m) (t : Stp isTm w A.o w1 o1) {s' : Sl} {tx : List TmX} (n : TmRep w1 o1 A.bt A.bn s' tx) {tb : List TabD} (e : tx.map (fun x => x.2) = tb.map (fun t => t.order)) :
    MRep w1 { A with o := o1, ts := s', tx := tx } N root { m with tabs := tb } ∧ MSt w A w1 { A with o := o1, ts := s', tx := tx } := by
  have l5 := h.l5
  refine ⟨⟨h.run.st t (by unfold isTm; omega), n, e, h.clo.st t (by unfold isTm; omega), h.ths.st t (by unfold isTm; omega), h.lx, l5, fun i U y a b => ?_, h.le, fun i e a => (h.env i e a).st t (by unfold isTm; omega), h.nod.st t (by unfold isTm; omega), h.skl, h.sk, h.don, t.hi h.own⟩, ⟨t.weaken (fun l hl => by unfold isTm at hl; omega), rfl, rfl, rfl, List.prefix_rfl, fun i y hy => ⟨y, hy, rfl⟩⟩⟩
  have hi := (List.getElem?_eq_some_iff.1 a).1
  have hi : i < m.ths.length := hi
  exact (h.one i U y a b).st t (by unfold isTm; omega) (by unfold isTm; omega) (by unfold isTm; omega)
end
/-- references to variables are there -/
structure RefOk (m : MD) : Prop where
  t : ∀ T ∈ m.ths, ∀ k ∈ T.tasks, ∀ i, k.e = some i → i < m.envs.length
  c : ∀ q ∈ m.clos, ∀ i, q.2 = some i → i < m.envs.length
  u : ∀ (i : Nat) (e : EnD), m.envs[i]? = some e → ∀ j, e.up = some j → j < i
theorem fm_congr {α : Type} {f g : α → List Value} : ∀ {l : List α}, (∀ a ∈ l, f a = g a) → l.flatMap f = l.flatMap g
  | [], _ => rfl
  | a :: l, h => by rw [List.flatMap_cons, List.flatMap_cons, h a (List.mem_cons_self ..), fm_congr (fun b hb => h b (List.mem_cons_of_mem _ hb))]
theorem ep_app {E l : List Nat} {e : Option Nat} (h : ∀ i, e = some i → i < E.length) : ePtr (E ++ l) e = ePtr E e := by
  cases e with
  | none => rfl
  | some i =>
    have hi := h i rfl
    unfold ePtr eAd
    simp [List.getD_eq_getElem?_getD, List.getElem?_append_left hi]
theorem Stp.lab (Q : Nat → Prop) {w : World} {o : Nat → Nat} (b : Obj) (l : Nat) : Stp Q w o (w.alloc b) (upd o w.heap.size l) := by
  refine ⟨(Fr.refl _ _).alloc b, fun k hk => upd_ne o l (by omega), fun hx k hk => ?_⟩
  simp at hk
  rw [upd_ne o l (by omega)]
  exact hx k (by omega)
section
variable {Q : Nat → Prop} {w w1 : World} {o o1 : Nat → Nat} {A A' : RnP} {N : List Nd} {root j : Nat} {m m' : MD} {T T' : MTh} {x x' : XtP} {E : List Nat}
/-- a new variable -/
theorem MRep.newEnv (h : MRep w A N root m) (r : RefOk m) (e : EnD) (hu : ∀ j, e.up = some j → j < m.envs.length) :
    MRep (w.alloc (.cells (enV A.E e) 222)) { A with o := upd A.o w.heap.size (60 + m.envs.length), E := A.E ++ [w.heap.size] } N root { m with envs := m.envs ++ [e] } ∧
    MSt w A (w.alloc (.cells (enV A.E e) 222)) { A with o := upd A.o w.heap.size (60 + m.envs.length), E := A.E ++ [w.heap.size] } := by
  have t := Stp.lab (fun _ => False) (w := w) (o := A.o) (.cells (enV A.E e) 222) (60 + m.envs.length)
  have n : ¬ False := fun x => x
  have le := h.le
  refine ⟨⟨h.run.st t n, h.tab.st t (fun _ _ => n), h.tabs, ?_, h.ths.st t n, h.lx, h.l5, fun i U y a b => ?_, by simp [le], fun i d hd => ?_, h.nod.st t n, h.skl, h.sk, h.don, t.hi h.own⟩, ⟨t.weaken (fun l x => x.elim), rfl, rfl, rfl, ⟨_, rfl⟩, fun i y hy => ⟨y, hy, rfl⟩⟩⟩
  · have := h.clo.st t n
    rw [fm_congr (g := coV A.E) (fun q hq => by unfold coV; rw [ep_app (fun i hi => by rw [le]; exact r.c q hq i hi)])]
    exact this
  · have o1 := (h.one i U y a b).st t n n n
    refine ⟨o1.b, ?_, o1.vl⟩
    rw [fm_congr (g := tkV A.E) (fun k hk => by unfold tkV; rw [ep_app (fun q hq => by rw [le]; exact r.t U (List.mem_of_getElem? a) k (List.mem_reverse.1 hk) q hq)])]
    exact o1.tk
  · by_cases hi : i < m.envs.length
    · rw [List.getElem?_append_left hi] at hd
      have := (h.env i d hd).st t n
      have e1 : (A.E ++ [w.heap.size]).getD i 0 = A.E.getD i 0 := by rw [List.getD_eq_getElem?_getD, List.getElem?_append_left (by omega), List.getD_eq_getElem?_getD]
      have e2 : enV (A.E ++ [w.heap.size]) d = enV A.E d := by
        unfold enV
        rw [ep_app (fun q hq => by have := r.u i d hd q hq; omega)]
      show Blk _ _ (60 + i) ((A.E ++ [w.heap.size]).getD i 0) (enV (A.E ++ [w.heap.size]) d) _
      rw [e1, e2]
      exact this
    · rw [List.getElem?_append_right (by omega)] at hd
      obtain ⟨k, hk⟩ : ∃ k, i - m.envs.length = k := ⟨_, rfl⟩
      rw [hk] at hd
      cases k with
      | zero =>
        have hi : i = m.envs.length := by omega
        have : d = e := by simpa using hd.symm
        rw [this, hi]
        have e1 : (A.E ++ [w.heap.size]).getD m.envs.length 0 = w.heap.size := by rw [List.getD_eq_getElem?_getD, List.getElem?_append_right (by omega), le]; simp
        have e2 : enV (A.E ++ [w.heap.size]) e = enV A.E e := by
          unfold enV
          rw [ep_app (fun q hq => by have := hu q hq; omega)]
        show Blk _ _ (60 + m.envs.length) ((A.E ++ [w.heap.size]).getD m.envs.length 0) (enV (A.E ++ [w.heap.size]) e) _
        rw [e1, e2]
        exact ⟨Has.new _ _ _, upd_self _ _ _⟩
      | succ k => simp at hd
/-- a variable's value turned -/
theorem MRep.setEnv (h : MRep w A N root m) {i : Nat} {e : EnD} (hi : m.envs[i]? = some e) (v : Vl) :
    MRep (((w.setCell ⟨A.E.getD i 0, 1, none⟩ (.int .i64 v.t)).setCell ⟨A.E.getD i 0, 2, none⟩ (.int .u64 v.n)).setCell ⟨A.E.getD i 0, 3, none⟩ (sv v.s)) A N root { m with envs := m.envs.set i { e with v := v } } ∧
    MSt w A (((w.setCell ⟨A.E.getD i 0, 1, none⟩ (.int .i64 v.t)).setCell ⟨A.E.getD i 0, 2, none⟩ (.int .u64 v.n)).setCell ⟨A.E.getD i 0, 3, none⟩ (sv v.s)) A := by
  have B := h.env i e hi
  obtain ⟨p1, p2⟩ := B.put 1 (.int .i64 v.t) (cs' := enV A.E { e with v := ⟨v.t, e.v.n, e.v.s⟩ }) rfl
  obtain ⟨q1, q2⟩ := p1.put 2 (.int .u64 v.n) (cs' := enV A.E { e with v := ⟨v.t, v.n, e.v.s⟩ }) rfl
  obtain ⟨r1, r2⟩ := q1.put 3 (sv v.s) (cs' := enV A.E { e with v := v }) rfl
  have t := (p2.trans q2).trans r2
  have l5 := h.l5
  refine ⟨⟨h.run.st t (by omega), h.tab.st t (fun l hl => by unfold isTm at hl; omega), h.tabs, h.clo.st t (by omega), h.ths.st t (by omega), h.lx, h.l5, fun k U y a b => ?_, by simp [h.le], fun k d hd => ?_, h.nod.st t (by omega), h.skl, h.sk, h.don, t.hi h.own⟩, ⟨t.weaken (fun l hl => by omega), rfl, rfl, rfl, List.prefix_rfl, fun i y hy => ⟨y, hy, rfl⟩⟩⟩
  · have a : m.ths[k]? = some U := a
    have := (List.getElem?_eq_some_iff.1 a).1
    exact (h.one k U y a b).st t (by omega) (by omega) (by omega)
  · rcases set_in hd with ⟨rfl, rfl⟩ | ⟨hne, hd⟩
    · exact r1
    · exact (h.env k d hd).st t (by omega)
end
end Go.Proofs.Qxb6500574aGreatDoor
