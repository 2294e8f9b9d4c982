/-
  THE WALKS of compm: all that holds between two calls, in one word; items, call.
-/
import Derived.Test.Qxb6500574aGreatDoorZC7
namespace Go.Proofs.Qxb6500574aGreatDoor
open Go Go.RowKit
set_option linter.unusedVariables false
set_option linter.unusedSimpArgs false
/-- all that holds between two calls -/
structure RB (w : World) (A : RnP) (N : List Nd) (root : Nat) (W : World) (A1 : RnP) (M : MD) : Prop where
  r : MRep W A1 N root M
  s : MSt w A W A1
  c : M.cur < M.ths.length
def RBQ (w : World) (A : RnP) (N : List Nd) (root : Nat) (W : World) (A1 : RnP) (M : MD) (e : Ending) (w' : World) : Prop := e = .returned (.tuple #[]) ∧ ∃ A', RB w A N root w' A' M ∧ MSt W A1 w' A'
theorem th_todo {m : MD} (hc : m.cur < m.ths.length) (l : List TkD) : (m.todo l).th = { m.th with tasks := l ++ m.th.tasks } := upT_th hc _
theorem th_push {m : MD} (hc : m.cur < m.ths.length) (l : List Vl) : (m.push l).th = { m.th with vals := m.th.vals ++ l } := upT_th hc _
theorem th_pops {m : MD} (hc : m.cur < m.ths.length) (n : Nat) : (m.pops n).th = { m.th with vals := m.th.vals.take (m.th.vals.length - n) } := upT_th hc _
theorem c_todo {m : MD} (hc : m.cur < m.ths.length) (l : List TkD) : (m.todo l).cur < (m.todo l).ths.length := by unfold MD.todo; rw [upT_len]; exact hc
theorem c_push {m : MD} (hc : m.cur < m.ths.length) (l : List Vl) : (m.push l).cur < (m.push l).ths.length := by unfold MD.push; rw [upT_len]; exact hc
theorem c_pops {m : MD} (hc : m.cur < m.ths.length) (n : Nat) : (m.pops n).cur < (m.pops n).ths.length := by unfold MD.pops; rw [upT_len]; exact hc
theorem todo_todo {m : MD} (hc : m.cur < m.ths.length) (l l' : List TkD) : (m.todo l).todo l' = m.todo (l' ++ l) := by
  unfold MD.todo
  rw [upT_upT hc]
  simp [List.append_assoc]
/-- a node: its cells -/
structure NdC (W : World) (br g NL c n : Nat) (d : Nd) : Prop where
  c2 : W.cell? ⟨br, 2, none⟩ = some (.slice (some ⟨g, 0, none⟩) NL c)
  lc : NL ≤ c
  lb : br < W.heap.size
  lg : g < W.heap.size
  ln : n < NL
  d0 : W.cell? ⟨g, n * 8, none⟩ = some (.int .i64 d.k)
  d1 : W.cell? ⟨g, n * 8 + 1, none⟩ = some (.int .i64 d.a)
  d2 : W.cell? ⟨g, n * 8 + 2, none⟩ = some (.int .i64 d.b)
  d3 : W.cell? ⟨g, n * 8 + 3, none⟩ = some (.int .i64 d.c)
  d4 : W.cell? ⟨g, n * 8 + 4, none⟩ = some (.int .i64 d.next)
  d5 : W.cell? ⟨g, n * 8 + 5, none⟩ = some (.int .u64 d.n)
  d6 : W.cell? ⟨g, n * 8 + 6, none⟩ = some (sv d.s)
  d7 : W.cell? ⟨g, n * 8 + 7, none⟩ = some (.int .i64 d.p)
section
variable {w W W1 : World} {A A1 : RnP} {N : List Nd} {root : Nat} {M : MD}
theorem RB.start (h : MRep w A N root M) (c : M.cur < M.ths.length) : RB w A N root w A M := ⟨h, MSt.refl _ _, c⟩
theorem RB.fresh (B : RB w A N root W A1 M) (f : Fr (fun _ => False) W W1) : RB w A N root W1 A1 M := ⟨B.r.fresh f, B.s.trans (MSt.fresh _ f), B.c⟩
theorem RB.drew (B : RB w A N root W A1 M) : RB w A N root W.drew A1 M := B.fresh ((Fr.refl _ _).drew)
theorem RB.end (B : RB w A N root W A1 M) : PQm w A N root M (.returned (.tuple #[])) W := ⟨rfl, A1, B.r, B.s⟩
theorem RB.of {m' : MD} (B : RB w A N root W A1 M) (hc : m'.cur < m'.ths.length) {e : Ending} {w' : World} (h : PQm W A1 N root m' e w') : RBQ w A N root W A1 m' e w' := by
  obtain ⟨h1, A', h2, h3⟩ := h
  exact ⟨h1, A', ⟨h2, B.s.trans h3, hc⟩, h3⟩
theorem RB.todo (B : RB w A N root W A1 M) (hl : M.th.tasks.length ≤ 1000000) (k n x : Nat) (e : Option Nat) (he : ∀ i, e = some i → i < A.E.length) {k' n' x' : Int} (hk : k' = k) (hn : n' = n) (hx : x' = x) :
    Calls Tryz.prog 112 #[.pointer (some ⟨A.br, 0, none⟩), .int .i64 k', .int .i64 n', .int .i64 x', .pointer (eAd A.E e)] W (RBQ w A N root W A1 (M.todo [⟨k, n, x, e⟩])) := by
  have := do_m B.r B.c hl k n x e hk hn hx (ev := .pointer (eAd A.E e)) (B.s.ep he).symm
  rw [B.s.br] at this
  exact this.mono fun _ _ h => B.of (c_todo B.c _) h
theorem RB.push (B : RB w A N root W A1 M) (hl : M.th.vals.length ≤ 1000000) (v : Vl) : Calls Tryz.prog 124 #[.pointer (some ⟨A.br, 0, none⟩), v.val] W (RBQ w A N root W A1 (M.push [v])) := by
  have := push_m B.r B.c v hl
  rw [B.s.br] at this
  exact this.mono fun _ _ h => B.of (c_push B.c _) h
theorem RB.pushBool (B : RB w A N root W A1 M) (hl : M.th.vals.length ≤ 1000000) (b : Bool) : Calls Tryz.prog 204 #[.pointer (some ⟨A.br, 0, none⟩), .bool b] W (RBQ w A N root W A1 (M.push [boolV b])) := by
  have := pushBool_m B.r B.c b hl
  rw [B.s.br] at this
  exact this.mono fun _ _ h => B.of (c_push B.c _) h
theorem RB.pushStr (B : RB w A N root W A1 M) (hl : M.th.vals.length ≤ 1000000) (s : Bs) : Calls Tryz.prog 188 #[.pointer (some ⟨A.br, 0, none⟩), sv s] W (RBQ w A N root W A1 (M.push [strV s])) := by
  have := pushStr_m B.r B.c s hl
  rw [B.s.br] at this
  exact this.mono fun _ _ h => B.of (c_push B.c _) h
theorem RB.finish (B : RB w A N root W A1 M) (e : Nat) (tail : Bs) {e' : Int} (he : e' = e) : Calls Tryz.prog 189 #[.pointer (some ⟨A.br, 0, none⟩), .int .i64 e', sv tail] W (RBQ w A N root W A1 (M.finish e tail)) := by
  have := finish_m B.r e tail he
  rw [B.s.br] at this
  exact this.mono fun _ _ h => B.of (m' := M.finish e tail) B.c h
theorem RB.pop (B : RB w A N root W A1 M) (hv : 0 < M.th.vals.length) (hl : M.th.vals.length ≤ 1000000) : Calls Tryz.prog 116 #[.pointer (some ⟨A.br, 0, none⟩)] W (fun e w' => e = .returned (M.topM 0).val ∧ ∃ A', RB w A N root w' A' (M.pops 1) ∧ MSt W A1 w' A') := by
  have := pop_m B.r B.c hv hl
  rw [B.s.br] at this
  refine this.mono ?_
  rintro e w' ⟨h1, A', h2, h3⟩
  exact ⟨h1, A', ⟨h2, B.s.trans h3, c_pops B.c 1⟩, h3⟩
/-- a throw may leave another thread at hand: the bundle ends there -/
theorem RB.throw (B : RB w A N root W A1 M) (K : ThrOk M) (v : Vl) (hw : wellV v = true) (hn : v.t = 2 → v.n < 18446744073709551616) : Calls Tryz.prog 191 #[.pointer (some ⟨A.br, 0, none⟩), v.val] W (PQm w A N root (M.throw v)) := by
  have := throwK_m B.r K v hw hn
  rw [B.s.br] at this
  refine this.mono ?_
  rintro e w' ⟨h1, A', h2, h3⟩
  exact ⟨h1, A', h2, B.s.trans h3⟩
theorem RB.raise (B : RB w A N root W A1 M) (K : ThrOk M) (s : Bs) (hs : s.length ≤ 40) : Calls Tryz.prog 121 #[.pointer (some ⟨A.br, 0, none⟩), sv s] W (PQm w A N root (M.raise s)) := by
  have := raise_m B.r K s hs
  rw [B.s.br] at this
  refine this.mono ?_
  rintro e w' ⟨h1, A', h2, h3⟩
  exact ⟨h1, A', h2, B.s.trans h3⟩
theorem RB.nd (B : RB w A N root W A1 M) {n : Nat} (hn : n < N.length) : ∃ g c, NdC W A.br g N.length c n (N.getD n nd0) := by
  obtain ⟨g, h1, h2, h3, h4, h5, h6⟩ := B.r.nod.cells (show 0 < N.length by omega)
  have hd : N[n]? = some (N.getD n nd0) := by rw [List.getD_eq_getElem?_getD, List.getElem?_eq_getElem hn]; rfl
  have k : ∀ i, i < 8 → W.cell? ⟨g, n * 8 + i, none⟩ = (mdV (N.getD n nd0))[i]? := fun i hi => (h5 _ (by omega)).trans (flatMap_at _ 8 mdV_len N n i _ hd hi)
  have c2 : W.cell? ⟨A1.br, 2, none⟩ = some (.slice (some ⟨g, 0, none⟩) N.length A1.nd.c) := by
    rw [B.r.run.has.cell]
    simp [rnV, h1]
  have lb := B.r.run.has.lt
  rw [B.s.br] at c2 lb
  exact ⟨g, _, c2, h2, lb, h4, hn, k 0 (by omega), k 1 (by omega), k 2 (by omega), k 3 (by omega), k 4 (by omega), k 5 (by omega), k 6 (by omega), k 7 (by omega)⟩
theorem LcB.rb {b : Nat} {cs : Array Value} {T : TypeId} {W2 : World} {A2 : RnP} (L : LcB W A1 b cs T) (s : MSt W A1 W2 A2) : LcB W2 A2 b cs T := L.st s
set_option maxRecDepth 100000
set_option maxHeartbeats 1000000
theorem items_m (B : RB w A N root W A1 M) (hl : M.th.tasks.length ≤ 999990) (n i : Nat) (e : Option Nat) (he : ∀ i, e = some i → i < A.E.length) {n' i' : Int} (hn : n' = n) (hi : i' = i) : Calls Tryz.prog 128 #[.pointer (some ⟨A.br, 0, none⟩), .int .i64 n', .int .i64 i', .pointer (eAd A.E e)] W (RBQ w A N root W A1 (M.items n i e)) := by
  subst hn hi
  obtain ⟨Q, HQ⟩ : ∃ Q : Ending → World → Prop, Hid (RBQ w A N root W A1 (M.items n i e) = Q) := ⟨_, rfl⟩
  rw [HQ.out]
  have HB := hid B
  have HE := hid he
  have HL := hid hl
  clear B he hl
  obtain ⟨ea, HEA⟩ : ∃ ea, Hid (eAd A.E e = ea) := ⟨_, rfl⟩
  rw [HEA.out]
  by_cases h0 : n = 0
  · subst h0
    have FIN : Hid (Q (.returned (.tuple #[])) W) := by
      show Q _ _
      rw [← HQ.out]
      exact ⟨rfl, A1, by unfold MD.items; rw [if_pos rfl]; exact HB.out, MSt.refl _ _⟩
    go_enter Tryz.func128, Tryz.ntmps128
    go_wp2
    refine bodyPost_ret (results_none rfl _ _ _) rfl ?_
    exact FIN.out
  · have b0 : ((n : Int) == 0) = false := by rw [beq_eq_false_iff_ne]; omega
    have em : M.items n i e = (M.todo [⟨23, n, i, e⟩]).todo [⟨2, n, 0, e⟩] := by
      unfold MD.items
      rw [if_neg h0, todo_todo HB.out.c]
      rfl
    rw [em] at HQ
    clear em
    have C1 := HB.out.todo (by have := HL.out; omega) 23 n i e HE.out (k' := 23) rfl rfl rfl
    rw [HEA.out] at C1
    have HC1 := hid C1
    clear C1 h0
    go_enter Tryz.func128, Tryz.ntmps128
    go_wp2_with fail
    refine HC1.out.mono ?_
    rintro e1 w2 ⟨rfl, A2, B2, S2⟩
    have HS2 := hid S2
    have C2 := B2.todo (by rw [th_todo HB.out.c]; have := HL.out; simp; omega) 2 n 0 e HE.out (k' := 2) (x' := 0) rfl rfl rfl
    rw [HEA.out] at C2
    have HC2 := hid C2
    clear C2 B2 S2
    go_wp2_with fail
    refine HC2.out.mono ?_
    rintro e2 w3 ⟨rfl, A3, B3, S3⟩
    have FIN : Hid (Q (.returned (.tuple #[])) w3) := by
      show Q _ _
      rw [← HQ.out]
      exact ⟨rfl, A3, B3, HS2.out.trans S3⟩
    clear B3 S3
    go_wp2
    go_end0
    exact FIN.out
end
end Go.Proofs.Qxb6500574aGreatDoor
