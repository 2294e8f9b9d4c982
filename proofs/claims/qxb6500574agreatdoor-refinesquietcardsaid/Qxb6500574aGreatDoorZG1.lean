/-
  THE WALKS of compm: Run: what its beginning needs.
-/
import Derived.Test.Qxb6500574aGreatDoorZC35
import Derived.Test.Qxb6500574aGreatDoorZC16
namespace Go.Proofs.Qxb6500574aGreatDoor
open Go Go.RowKit
set_option linter.unusedVariables false
set_option linter.unusedSimpArgs false
/-- a run that may have no thread yet -/
structure RX (w : World) (A : RnP) (N : List Nd) (root ba : Nat) (W : World) (A1 : RnP) (M : MD) : Prop where
  r : MRep W A1 N root M
  s : MSt w A W A1
  l : LcB W A1 ba #[.int .i64 0, .int .i64 0, .int .i64 0, sv [], sv []] 54
/-- the run before all else -/
def md0 (F : Nat) : MD := ⟨[], [], [], [], [], 0, F, 0, [], none⟩
def runA (br bn bt : Nat) (nd : Sl) : RnP := { br := br, bn := bn, bt := bt, nd := nd, cl := sl0, th := sl0, ts := sl0, sk := [0, 0, 0, 0, 0], an := ⟨0, 0, 0, [], []⟩, X := [], E := [], tx := [], o := fun k => if k = br then 1 else if k = bt then 2 else if (Value.slice nd.a 0 0).ownBlock = some k then 6 else 0 }
/-- the run's cells before all else -/
def rn0 (bn bt : Nat) (nd : Sl) (L root : Nat) (F : Int) : Array Value :=
  #[.pointer (some ⟨bn, 0, none⟩), .pointer (some ⟨bt, 0, none⟩), .slice nd.a L nd.c, .int .i64 root, .slice none 0 0, .slice none 0 0,
    .int .i64 0, .int .i64 0, .int .i64 0, .int .i64 0, .int .i64 0,
    .int .i64 0, .int .i64 0, .int .i64 F, .int .i64 0, sv [], .bool false,
    .int .i64 0, .int .i64 0, .int .i64 0, sv [], sv []]
section
variable {w W W1 : World} {A A1 A2 : RnP} {N : List Nd} {root ba : Nat} {M : MD}
theorem run0 {br bn bt F : Nat} {nd : Sl} (hr : Has W br (rn0 bn bt nd N.length root F) 173) (ht : Has W bt #[.pointer (some ⟨bn, 0, none⟩), .slice none 0 0] 165) (hn : W.ownsRow 0 134 8 (nd.v N.length) N.length (N.flatMap mdV)) (h1 : br ≠ bt)
    (h2 : ∀ g, (nd.v N.length).ownBlock = some g → g ≠ br ∧ g ≠ bt) : MRep W (runA br bn bt nd) N root (md0 F) := by
  have nil : ∀ (lab T k : Nat), Row W (runA br bn bt nd).o lab T k sl0 0 [] := fun lab T k => Row.nil _ _ _ _ _
  have h1' : bt ≠ br := fun e => h1 e.symm
  refine ⟨⟨hr, by simp [runA]⟩, ⟨⟨ht, by simp [runA, h1']⟩, nil _ _ _, fun h x hx => by simp [runA] at hx, by simp [runA], fun x hx => by simp [runA] at hx⟩, rfl, nil _ _ _, nil _ _ _, rfl, by simp [md0], fun j T x hx => by simp [md0] at hx, rfl, fun i e hx => by simp [md0] at hx, ⟨hn, fun g hg => ?_⟩, rfl, by simp [md0], fun a ha => by simp [md0] at ha, fun k hk => ?_⟩
  · obtain ⟨a, b⟩ := h2 g (by unfold Sl.v; rw [ownBlock_any _ _ _ 0 0]; exact hg)
    have hg : (Value.slice nd.a 0 0).ownBlock = some g := hg
    simp [runA, a, b, hg]
  · have e1 : k ≠ br := fun e => by have := hr.lt; omega
    have e2 : k ≠ bt := fun e => by have := ht.lt; omega
    have e3 : ¬ (Value.slice nd.a 0 0).ownBlock = some k := fun e => by
      have := owns_lt hn k (by unfold Sl.v; rw [ownBlock_any _ _ _ 0 0]; exact e)
      omega
    simp [runA, e1, e2, e3]
theorem RX.tset (B : RX w A N root ba W A1 M) (T : ∀ t ∈ M.tabs, TTi t) {h : Nat} (hh : h < M.tabs.length) {k v : Vl} (hk : wellV k = true) (hv : wellV v = true) (hb : k.t = 2 → k.n < 18446744073709551616) :
    Calls Tryz.prog 75 #[.pointer (some ⟨A.bt, 0, none⟩), .int .i64 h, k.val, v.val] W fun e w' => (∃ z : Int, e = .returned (.int .i64 z)) ∧ ∃ A', RX w A N root ba w' A' { M with tabs := M.tabs.set h ((M.tabs.getD h tab0).put k v).2 } := by
  obtain ⟨sl, hx⟩ := B.r.tabAt hh
  have hT := T _ (show M.tabs.getD h tab0 ∈ M.tabs by rw [List.getD_eq_getElem?_getD, List.getElem?_eq_getElem hh]; exact List.getElem_mem hh)
  have := tset_m B.r.tab hx k v hk hv hb
  rw [B.s.bt] at this
  refine this.mono ?_
  rintro e w' ⟨h1, o', sl', h2, h3⟩
  have hp := put_order hT (k := k) (v := v) hb
  rw [← hp] at h1 h2
  dsimp only at h1 h2
  have e9 : (A1.tx.set h (sl', ((M.tabs.getD h tab0).put k v).2.order)).map (fun x => x.2) = (M.tabs.set h ((M.tabs.getD h tab0).put k v).2).map (fun t => t.order) := by
    rw [List.map_set, List.map_set, B.r.tabs]
  obtain ⟨q1, q2⟩ := B.r.tabT h3 (by rw [B.s.bt]; exact h2) e9
  exact ⟨⟨_, h1⟩, _, ⟨q1, B.s.trans q2, B.l.st q2⟩⟩
theorem RX.tmake (B : RX w A N root ba W A1 M) (hh : M.tabs.length < 12) :
    Calls Tryz.prog 73 #[.pointer (some ⟨A.bt, 0, none⟩)] W fun e w' => e = .returned (.tuple #[.int .i64 M.tabs.length, .int .i64 0]) ∧ ∃ A', RX w A N root ba w' A' { M with tabs := M.tabs ++ [tab0] } := by
  have := tmake_m B.r.tab (by rw [B.r.tlen]; exact hh)
  rw [B.s.bt, B.r.tlen] at this
  refine this.mono ?_
  rintro e w' ⟨h1, o', s', h2, h3⟩
  have e9 : (A1.tx ++ [((sl0, []) : TmX)]).map (fun x => x.2) = (M.tabs ++ [tab0]).map (fun t => t.order) := by
    rw [List.map_append, List.map_append, B.r.tabs]
    rfl
  obtain ⟨q1, q2⟩ := B.r.tabT h3 (by rw [B.s.bt]; exact h2) e9
  exact ⟨h1, _, ⟨q1, B.s.trans q2, B.l.st q2⟩⟩
theorem RX.fresh (B : RX w A N root ba W A1 M) (f : Fr (fun _ => False) W W1) : RX w A N root ba W1 A1 M := ⟨B.r.fresh f, B.s.trans (MSt.fresh _ f), B.l.fr f⟩
/-- the run's own cells -/
theorem RX.rc (B : RX w A N root ba W A1 M) (i : Nat) {v : Value} (h : (rnV A1 N root M)[i]? = some v) : W.cell? ⟨A.br, i, none⟩ = some v := by
  rw [← B.s.br, B.r.run.has.cell, h]
theorem RX.c1 (B : RX w A N root ba W A1 M) : W.cell? ⟨A.br, 1, none⟩ = some (.pointer (some ⟨A.bt, 0, none⟩)) ∧ A.br < W.heap.size := by
  have h1 : W.cell? ⟨A.br, 1, none⟩ = some (.pointer (some ⟨A1.bt, 0, none⟩)) := B.rc 1 rfl
  rw [B.s.bt] at h1
  have h2 := B.r.run.has.lt
  rw [B.s.br] at h2
  exact ⟨h1, h2⟩
set_option maxRecDepth 100000
set_option maxHeartbeats 1000000
theorem treset0 {bt bn : Nat} {s : Value} (h : Has w bt #[.pointer (some ⟨bn, 0, none⟩), s] 165) : Calls Tryz.prog 72 #[.pointer (some ⟨bt, 0, none⟩)] w fun e w' => e = .returned (.tuple #[]) ∧ w' = w.setCell ⟨bt, 1, none⟩ (.slice none 0 0) := by
  have b1 := h.cell 1
  simp only [List.getElem?_toArray, List.getElem?_cons_zero, List.getElem?_cons_succ] at b1
  have hbt := h.lt
  have fz := h.frozen 1
  clear h
  go_enter Tryz.func72, Tryz.ntmps72
  go_wp2
  go_end0
  exact ⟨rfl, rfl⟩
end
end Go.Proofs.Qxb6500574aGreatDoor
