/-
  THE WALKS of vm: spawn, wipe.
-/
import Derived.Test.Qxb6500574aGreatDoorVUnw
namespace Go.Proofs.Qxb6500574aGreatDoor
open Go Go.RowKit
set_option linter.unusedVariables false
set_option linter.unusedSimpArgs false

/-- a thread's cells, five of them set -/
theorem th_set5 (xs : List (ThD × ThL)) (i : Nat) {t : ThD} {l : ThL} (h : xs[i]? = some (t, l)) (t' : ThD) :
    (((((xs.flatMap thCells).set (i * 5) (.int .i64 t'.st)).set (i * 5 + 1) (.int .i64 t'.fn)).set (i * 5 + 2) (l.s.v t'.stack.length)).set (i * 5 + 3) (l.f.v t'.frames.length)).set (i * 5 + 4) (l.p.v t'.opn.length) = (xs.set i (t', l)).flatMap thCells := by
  have hp : i < xs.length := (List.getElem?_eq_some_iff.1 h).1
  rw [show i * 5 = i * 5 + 0 from rfl, ← flatMap_set _ 5 thCells_len xs i 0 (t, l) ({ t with st := t'.st }, l) (.int .i64 t'.st) h (by omega) rfl]
  rw [show i * 5 + 0 + 1 = i * 5 + 1 from rfl, ← flatMap_set _ 5 thCells_len (xs.set i ({ t with st := t'.st }, l)) i 1 ({ t with st := t'.st }, l) ({ t with st := t'.st, fn := t'.fn }, l) (.int .i64 t'.fn) (by rw [List.getElem?_set_self hp]) (by omega) rfl, List.set_set]
  rw [show i * 5 + 0 + 2 = i * 5 + 2 from rfl, ← flatMap_set _ 5 thCells_len (xs.set i ({ t with st := t'.st, fn := t'.fn }, l)) i 2 ({ t with st := t'.st, fn := t'.fn }, l) ({ t with st := t'.st, fn := t'.fn, stack := t'.stack }, l) (l.s.v t'.stack.length) (by rw [List.getElem?_set_self hp]) (by omega) rfl, List.set_set]
  rw [show i * 5 + 0 + 3 = i * 5 + 3 from rfl, ← flatMap_set _ 5 thCells_len (xs.set i ({ t with st := t'.st, fn := t'.fn, stack := t'.stack }, l)) i 3 ({ t with st := t'.st, fn := t'.fn, stack := t'.stack }, l) ({ t with st := t'.st, fn := t'.fn, stack := t'.stack, frames := t'.frames }, l) (l.f.v t'.frames.length) (by rw [List.getElem?_set_self hp]) (by omega) rfl, List.set_set]
  rw [show i * 5 + 0 + 4 = i * 5 + 4 from rfl, ← flatMap_set _ 5 thCells_len (xs.set i ({ t with st := t'.st, fn := t'.fn, stack := t'.stack, frames := t'.frames }, l)) i 4 ({ t with st := t'.st, fn := t'.fn, stack := t'.stack, frames := t'.frames }, l) (t', l) (l.p.v t'.opn.length) (by rw [List.getElem?_set_self hp]) (by omega) rfl, List.set_set]
section
variable {w : World} {A : VL} {m : VMD} {f e i : Nat} {t : ThD} {l : ThL}
abbrev spW (w : World) (b bT n : Nat) (l : ThL) (fn : Nat) : World := (((((w.setCell ⟨b, 9, none⟩ (.slice (some ⟨bT, 0, none⟩) (n + 1) 5)).setCell ⟨bT, n * 5, none⟩ (.int .i64 1)).setCell ⟨bT, n * 5 + 1, none⟩ (.int .i64 fn)).setCell ⟨bT, n * 5 + 2, none⟩ (.slice l.s.a 0 l.s.c)).setCell ⟨bT, n * 5 + 3, none⟩ (.slice l.f.a 0 l.f.c)).setCell ⟨bT, n * 5 + 4, none⟩ (.slice l.p.a 0 l.p.c)
theorem VRep.spawned (h : VRep w A m f e) (hlt : m.ths.length < 5) (fn : Nat) {t : ThD} {l : ThL} {Z : List (ThD × ThL)} (hZ : A.Z = (t, l) :: Z) :
    VRep (spW w A.b A.bT m.ths.length l fn) { A with X := A.X ++ [l], Z := Z } (spawn m fn) f e ∧ VSt (fun k => isCo k ∨ isT m.ths.length k) w A (spW w A.b A.bT m.ths.length l fn) { A with X := A.X ++ [l], Z := Z } := by
  obtain ⟨n, hn⟩ : ∃ n, m.ths.length = n := ⟨_, rfl⟩
  rw [hn] at hlt ⊢
  have hX := h.lenX
  have h5 := h.len5
  rw [hn] at hX h5
  rw [hZ] at h5
  simp at h5
  have hzl : (m.ths.zip A.X).length = n := by simp [hn, hX]
  have hat : (m.ths.zip A.X ++ A.Z)[n]? = some (t, l) := by
    rw [List.getElem?_append_right (by omega), hzl, hZ]
    simp
  -- the step
  have hlbT := h.ths.here.lb
  have hlb := h.core.here.lb
  have s1 : Stp (fun k => k = 1) w A.o (w.setCell ⟨A.b, 9, none⟩ (.slice (some ⟨A.bT, 0, none⟩) (n + 1) 5)) A.o := (Stp.refl _ _ _).setCell (p := ⟨A.b, 9, none⟩) hlb _
  have k : ∀ {w1 w2 : World} {j : Nat} {u : Value}, Stp (fun l => l = 13) w1 A.o w2 A.o → Stp (fun l => l = 13) w1 A.o (w2.setCell ⟨A.bT, j, none⟩ u) A.o := fun s => s.setCell (p := ⟨A.bT, _, none⟩) hlbT _
  have s2 : Stp (fun k => k = 13) (w.setCell ⟨A.b, 9, none⟩ (.slice (some ⟨A.bT, 0, none⟩) (n + 1) 5)) A.o (spW w A.b A.bT n l fn) A.o := k (k (k (k (k (Stp.refl _ _ _)))))
  have s : Stp (fun k => isCo k ∨ isT n k) w A.o (spW w A.b A.bT n l fn) A.o := (s1.weaken (fun k hk => .inl (.inl hk))).trans (s2.weaken (fun k hk => .inr (.inl hk)))
  -- the core
  obtain ⟨c1, c2⟩ := h.core.here.put 9 (.slice (some ⟨A.bT, 0, none⟩) (n + 1) 5) (cs' := vmCells A.bn A.bt A.bT A.C m (n + 1) f e) (by simp [vmCells])
  have hc : CoreRep (spW w A.b A.bT n l fn) A.o A.b A.bn A.bt A.bT A.C (spawn m fn) (spawn m fn).ths.length f e := by
    have e1 : (spawn m fn).ths.length = n + 1 := by simp [spawn, hn]
    rw [e1]
    exact ⟨c1.st s2 (by omega), (h.core.protos.st s1 (by omega)).st s2 (by omega), (h.core.descs.st s1 (by omega)).st s2 (by omega), (h.core.consts.st s1 (by omega)).st s2 (by omega), (h.core.code.st s1 (by omega)).st s2 (by omega), (h.core.clos.st s1 (by omega)).st s2 (by omega), (h.core.upix.st s1 (by omega)).st s2 (by omega), (h.core.cells.st s1 (by omega)).st s2 (by omega), (h.core.out.st s1 (by omega)).st s2 (by omega)⟩
  -- the threads
  have q0 : Has (w.setCell ⟨A.b, 9, none⟩ (.slice (some ⟨A.bT, 0, none⟩) (n + 1) 5)) A.bT ((m.ths.zip A.X ++ A.Z).flatMap thCells).toArray 265 := s1.has h.ths.here.has (by rw [hlbT]; omega)
  have q5 : Has (spW w A.b A.bT n l fn) A.bT (((m.ths.zip A.X ++ A.Z).set n (⟨1, fn, [], [], []⟩, l)).flatMap thCells).toArray 265 := by
    have := ((((q0.put (n * 5) (.int .i64 1)).put (n * 5 + 1) (.int .i64 fn)).put (n * 5 + 2) (.slice l.s.a 0 l.s.c)).put (n * 5 + 3) (.slice l.f.a 0 l.f.c)).put (n * 5 + 4) (.slice l.p.a 0 l.p.c)
    have e5 := th_set5 (m.ths.zip A.X ++ A.Z) n hat ⟨1, fn, [], [], []⟩
    dsimp only [Sl.v, List.length_nil] at e5
    rw [← e5]
    simpa using this
  have eL : (m.ths.zip A.X ++ A.Z).set n (⟨1, fn, [], [], []⟩, l) = (spawn m fn).ths.zip (A.X ++ [l]) ++ Z := by
    rw [List.set_append_right _ _ (by omega), hzl, hZ]
    simp only [spawn, Nat.sub_self, List.set_cons_zero]
    rw [List.zip_append (by omega)]
    simp
  have one0 := h.ths.one n _ hat
  have hT : ThRep (spW w A.b A.bT n l fn) A.o A.bT ((m.ths.zip A.X ++ A.Z).set n (⟨1, fn, [], [], []⟩, l)) := by
    refine (h.ths.st s1 (by simp [hn, hX, hZ]; omega) (fun k hk hq => by rcases hk with hk | hk <;> omega)).set hat s2 (fun k hk => .inl hk) q5 ⟨?_, ?_, ?_⟩
    · exact ((one0.s.take 0 (Nat.zero_le _) (ys := []) (by simp)).st s1 (by omega)).st s2 (by omega)
    · exact ((one0.f.take 0 (Nat.zero_le _) (ys := []) (by simp)).st s1 (by omega)).st s2 (by omega)
    · exact ((one0.p.take 0 (Nat.zero_le _) (ys := []) (by simp)).st s1 (by omega)).st s2 (by omega)
  rw [eL] at hT
  obtain ⟨kk, hk, ht⟩ := h.tabs
  refine ⟨⟨hc, hT, by simp [spawn, hn, hX], by simp [spawn, hn]; omega, (h.num.st s1 (by omega) (by omega)).st s2 (by omega) (by omega), ⟨kk, hk, (ht.st s1 (fun l hl hq => by rcases hl with hl | hl | hl <;> omega)).st s2 (fun l hl hq => by rcases hl with hl | hl | hl <;> omega)⟩, s.hi h.own⟩, s, rfl, rfl, rfl, rfl, rfl⟩
set_option maxRecDepth 100000
set_option maxHeartbeats 1000000
theorem spawn_any (h : VRep w A m f e) (hlt : m.ths.length < 5) (fn : Nat) :
    Calls Tryz.prog 83 #[.pointer (some ⟨A.b, 0, none⟩), .int .i64 fn] w fun e' w' => e' = .returned (.int .i64 m.ths.length) ∧ ∃ A', VRep w' A' (spawn m fn) f e ∧ VSt (fun k => isCo k ∨ isT m.ths.length k) w A w' A' := by
  obtain ⟨⟨t, l⟩, Z, hZ⟩ : ∃ x Z, A.Z = x :: Z := by
    cases hz : A.Z with
    | nil => have := h.len5; rw [hz] at this; simp at this; omega
    | cons x Z => exact ⟨x, Z, rfl⟩
  have FIN : Hid (_ ∧ _) := h.spawned hlt fn hZ
  have h5 := h.len5
  have hat : (m.ths.zip A.X ++ A.Z)[m.ths.length]? = some (t, l) := by
    have hX := h.lenX
    rw [List.getElem?_append_right (by simp; omega), hZ]
    simp [hX]
  have d9 := h.cell0 9
  simp only [vmCells, List.getElem?_toArray, List.getElem?_cons_succ, List.getElem?_cons_zero] at d9
  have z9 := h.core.here.has.frozen 9
  have c0 := h.ths.cell hat (j := 0) (by omega)
  have c1 := h.ths.cell hat (j := 1) (by omega)
  have c2 := h.ths.cell hat (j := 2) (by omega)
  have c3 := h.ths.cell hat (j := 3) (by omega)
  have c4 := h.ths.cell hat (j := 4) (by omega)
  simp only [thCells, List.getElem?_cons_succ, List.getElem?_cons_zero, Sl.v, Nat.add_zero] at c0 c1 c2 c3 c4
  have hb := h.bl
  have hT := h.ths.here.has.lt
  have hne : A.b ≠ A.bT := fun e => by have h1 := h.core.here.lb; have h2 := h.ths.here.lb; rw [e] at h1; omega
  have hne' : A.bT ≠ A.b := fun e => hne e.symm
  obtain ⟨n, HN⟩ : ∃ n : Nat, Hid (m.ths.length = n) := ⟨_, rfl⟩
  rw [HN.out] at hlt FIN d9 c0 c1 c2 c3 c4 ⊢
  have y0 := h.ths.frozen (n * 5)
  have y1 := h.ths.frozen (n * 5 + 1)
  have y2 := h.ths.frozen (n * 5 + 2)
  have y3 := h.ths.frozen (n * 5 + 3)
  have y4 := h.ths.frozen (n * 5 + 4)
  obtain ⟨PP, HPP⟩ : ∃ P : World → Prop, Hid ((fun w' => ∃ A', VRep w' A' (spawn m fn) f e ∧ VSt (fun k => isCo k ∨ isT n k) w A w' A') = P) := ⟨_, rfl⟩
  rw [show (fun (e' : Ending) (w' : World) => e' = .returned (.int .i64 n) ∧ ∃ A', VRep w' A' (spawn m fn) f e ∧ VSt (fun k => isCo k ∨ isT n k) w A w' A') = fun e' w' => e' = .returned (.int .i64 n) ∧ PP w' from by rw [← HPP.out]]
  have FIN2 : Hid (PP (spW w A.b A.bT n l fn)) := by rw [← HPP.out]; exact ⟨_, FIN.out.1, FIN.out.2⟩
  have hn1 : n + 1 ≤ 5 := by omega
  clear h hZ hat h5 FIN HPP
  go_enter Tryz.func83, Tryz.ntmps83
  go_wp2_with fail
  go_ret
  exact ⟨rfl, FIN2.out⟩
end
end Go.Proofs.Qxb6500574aGreatDoor
