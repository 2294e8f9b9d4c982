/-
  THE WALK of the parser layer: the parser: nodes of two trees, calls.
-/
import Derived.Test.Qxb6500574aGreatDoorWPa6
namespace Go.Proofs.Qxb6500574aGreatDoor
open Go Go.RowKit
set_option linter.unusedVariables false
set_option linter.unusedSimpArgs false
open Go.Lib
section
variable {w : World} {o : Nat → Nat} {bp : Nat} {sl : Sl} {T : List Tok} {s : PSt} {n room : Nat}
theorem EF.from {s t s' : PSt} {v : Nat} (h : EF s s' v) (a : Alike s t) : EF t s' v := ⟨h.kp.alike a (Alike.refl _), h.ve, h.ok, by rw [a.n]; exact h.lt, by rw [a.n]; exact h.n1, h.nx⟩
theorem LF.from {s t s' : PSt} (h : LF s s') (a : Alike s t) : LF t s' := ⟨h.kp.alike a (Alike.refl _), h.ok, by rw [a.a]; exact h.al⟩
theorem EF.to {s t s' : PSt} {v : Nat} (h : EF s s' v) (a : Alike s' t) : EF s t v := ⟨h.kp.alike (Alike.refl _) a, by rw [a.n]; exact h.ve, a.sok h.ok, h.lt, h.n1, by rw [a.n]; exact h.nx⟩
theorem Alike.tr {s t u : PSt} (a : Alike s t) (b : Alike t u) : Alike s u := ⟨b.n.trans a.n, b.f.trans a.f, b.l.trans a.l, b.a.trans a.a⟩
theorem ExS.drew {w' : World} {s' : PSt} {v : Nat} {V : Value} (h : ExS w o bp T sl s s' v w' V) : ExS w o bp T sl s s' v w'.drew V :=
  ⟨h.r.st (Q := fun _ => False) (Stp.fresh _ o ((Fr.refl _ _).drew)) (fun x => x) (fun x => x), h.f, h.t.up (fun _ hk => ⟨hk, rfl⟩) (fun _ _ _ => rfl) rfl⟩
/-- a success stays -/
theorem ExS.stp {w' w2 : World} {s' s2 : PSt} {v : Nat} {V : Value} (h : ExS w o bp T sl s s' v w' V) (hw : Stp (fun l => l = 1043) w o w' o) (t : Stp (fun l => l = 1043) w' o w2 o) (ow : Ow w o) (r : PRep w2 o bp T sl s2) (a : Alike s' s2) : ExS w o bp T sl s s2 v w2 V := by
  refine ⟨r, h.f.to a, ?_⟩
  rw [a.n]
  exact h.t.stp t ow (Nat.le_refl _) (Nat.le_refl _) (Nat.le_refl _) t.fr.size
/-- a node of two trees -/
theorem two_fin {w1 w4 w5 : World} {s1 sx s5 : PSt} {a b : Nat} {V V5 : Value} {d : Nd} {tt TT : TypeId} {cs : Array Value} (h1 : Stp (fun l => l = 1043) w o w1 o) (h4 : Stp (fun l => l = 1043) w1 o w4 o) (h5 : Stp (fun l => l = 1043) w4 o w5 o) (ow : Ow w o) (X : ExS w o bp T sl s s1 a w1 V) (Y : ExS w4 o bp T sl sx s5 b w5 V5) (al : Alike s1 sx) (hc : d.cut = d)
    (sh : Shp d (s.nodes.length - 1) (b + 1) (.iface tt (.pointer (some ⟨w5.heap.size, 0, none⟩))) [(s.nodes.length - 1, a, V), (a, b, V5)] [(w5.heap.size, cs, TT)] []) :
    ExS w o bp T sl s (s5.add d) s5.nodes.length (w5.alloc (.cells cs TT)) (.iface tt (.pointer (some ⟨w5.heap.size, 0, none⟩))) := by
  have f1 := X.f
  have f5 := Y.f.from al.symm
  have v1 := f1.ve
  have v5 := f5.ve
  have l1 := f1.lt
  have l5 := f5.lt
  have z1 := h1.fr.size
  have z4 := h4.fr.size
  have z5 := h5.fr.size
  have st := h4.trans h5
  refine ExS.root (kids := [(s.nodes.length - 1, a, V), (a, b, V5)]) (ls := []) (m := []) (h1.trans st) ow Y.r ((f1.trans f5).add hc) hc (fun x hx => ?_) (fun L hL => by cases hL) (Mm.nil _ _) ?_
  · simp only [List.mem_cons, List.not_mem_nil, or_false] at hx
    rcases hx with rfl | rfl
    · refine ⟨?_, Nat.le_refl _, by dsimp only; omega, .inl (by dsimp only; rw [f5.kp.old _ (by omega)]; exact f1.nx)⟩
      exact (X.t.stp st ow (Nat.le_refl _) (Nat.le_refl _) (Nat.le_refl _) (by omega)).grow (by omega) f5.kp.old
    · refine ⟨?_, by dsimp only; omega, by dsimp only; omega, .inl f5.nx⟩
      have := Y.t.wide (a' := w.heap.size) (b' := w5.heap.size) (by omega) (Nat.le_refl _)
      rw [al.n, show s1.nodes.length - 1 = a by omega] at this
      exact this
  · rw [← v5]
    exact sh
theorem EF.addL {s s1 s5 : PSt} {a : Nat} (f : EF s s1 a) (g : LF s1 s5) {d : Nd} (hc : d.cut = d) : EF s (s5.add d) s5.nodes.length :=
  ⟨(f.kp.trans g.kp).trans (Kpt.add g.ok d), by rw [add_len], ⟨by rw [add_len]; omega, g.ok.fu, g.ok.al⟩, by have := f.kp.le; have := g.kp.le; omega, f.n1, add_next s5 hc⟩
/-- a tree and a list -/
theorem one_list_fin {w1 w4 w5 : World} {s1 sx s5 : PSt} {a b : Nat} {V V5 : Value} {d : Nd} {tt TT : TypeId} {cs : Array Value} {ms : List Mb} {m : Bks} (h1 : Stp (fun l => l = 1043) w o w1 o) (h4 : Stp (fun l => l = 1043) w1 o w4 o) (h5 : Stp (fun l => l = 1043) w4 o w5 o) (ow : Ow w o) (X : ExS w o bp T sl s s1 a w1 V) (Y : LsS w4 o bp T sl sx s5 b w5 V5 ms m) (al : Alike s1 sx) (hc : d.cut = d)
    (sh : Shp d (s.nodes.length - 1) (s5.nodes.length - 1 + 1) (.iface tt (.pointer (some ⟨w5.heap.size, 0, none⟩))) ((s.nodes.length - 1, a, V) :: ms) ((w5.heap.size, cs, TT) :: m) [(a, s5.nodes.length - 1, b, ms)]) :
    ExS w o bp T sl s (s5.add d) s5.nodes.length (w5.alloc (.cells cs TT)) (.iface tt (.pointer (some ⟨w5.heap.size, 0, none⟩))) := by
  have f1 := X.f
  have g5 := Y.f.from al.symm
  have v1 := f1.ve
  have l1 := f1.lt
  have z1 := h1.fr.size
  have z4 := h4.fr.size
  have z5 := h5.fr.size
  have k5 := g5.kp.le
  have n5 := g5.ok.n1
  have st := h4.trans h5
  have hl := Y.l
  rw [al.n, show s1.nodes.length - 1 = a by omega] at hl
  refine ExS.root (kids := (s.nodes.length - 1, a, V) :: ms) (ls := [(a, s5.nodes.length - 1, b, ms)]) (m := m) (h1.trans st) ow Y.r (f1.addL g5 hc) hc (fun x hx => ?_) (fun L hL => ?_) (Y.m.wide (by omega) (Nat.le_refl _)) ?_
  · rcases List.mem_cons.1 hx with rfl | hx
    · refine ⟨?_, Nat.le_refl _, by dsimp only; omega, .inl (by dsimp only; rw [g5.kp.old _ (by omega)]; exact f1.nx)⟩
      exact (X.t.stp st ow (Nat.le_refl _) (Nat.le_refl _) (Nat.le_refl _) (by omega)).grow (by omega) g5.kp.old
    · have hb := hl.mem x hx
      exact ⟨(Y.t x hx).wide (by omega) (Nat.le_refl _), by omega, by omega, .inr ⟨_, List.mem_singleton.2 rfl, hx⟩⟩
  · rcases List.mem_singleton.1 hL with rfl
    exact ⟨hl, by dsimp only; omega, by dsimp only; omega⟩
  · rw [show s5.nodes.length - 1 + 1 = s5.nodes.length by omega] at sh
    exact sh
/-- a list alone -/
theorem list_fin {w5 : World} {sx s5 : PSt} {b : Nat} {w4 : World} {V5 : Value} {d : Nd} {tt TT : TypeId} {cs : Array Value} {ms : List Mb} {m : Bks} (h1 : Stp (fun l => l = 1043) w o w4 o) (h5 : Stp (fun l => l = 1043) w4 o w5 o) (ow : Ow w o) (n1 : 1 ≤ s.nodes.length) (Y : LsS w4 o bp T sl sx s5 b w5 V5 ms m) (al : Alike s sx) (hc : d.cut = d)
    (sh : Shp d (s.nodes.length - 1) (s5.nodes.length - 1 + 1) (.iface tt (.pointer (some ⟨w5.heap.size, 0, none⟩))) ms ((w5.heap.size, cs, TT) :: m) [(s.nodes.length - 1, s5.nodes.length - 1, b, ms)]) :
    ExS w o bp T sl s (s5.add d) s5.nodes.length (w5.alloc (.cells cs TT)) (.iface tt (.pointer (some ⟨w5.heap.size, 0, none⟩))) := by
  have g5 := Y.f.from al.symm
  have z1 := h1.fr.size
  have z5 := h5.fr.size
  have k5 := g5.kp.le
  have n5 := g5.ok.n1
  have hl := Y.l
  rw [al.n] at hl
  refine ExS.root (kids := ms) (ls := [(s.nodes.length - 1, s5.nodes.length - 1, b, ms)]) (m := m) (h1.trans h5) ow Y.r ⟨g5.kp.trans (Kpt.add g5.ok d), by rw [add_len], ⟨by rw [add_len]; omega, g5.ok.fu, g5.ok.al⟩, k5, n1, add_next s5 hc⟩ hc (fun x hx => ?_) (fun L hL => ?_) (Y.m.wide (by omega) (Nat.le_refl _)) ?_
  · have hb := hl.mem x hx
    exact ⟨(Y.t x hx).wide (by omega) (Nat.le_refl _), by omega, by omega, .inr ⟨_, List.mem_singleton.2 rfl, hx⟩⟩
  · rcases List.mem_singleton.1 hL with rfl
    exact ⟨hl, Nat.le_refl _, by dsimp only; omega⟩
  · rw [show s5.nodes.length - 1 + 1 = s5.nodes.length by omega] at sh
    exact sh
/-- a leaf -/
theorem leaf_fin {w2 : World} {sx : PSt} {d : Nd} {tt TT : TypeId} {cs : Array Value} (h1 : Stp (fun l => l = 1043) w o w2 o) (ow : Ow w o) (r : PRep w2 o bp T sl sx) (k : SOk s) (al : Alike s sx) (hc : d.cut = d)
    (sh : Shp d (s.nodes.length - 1) (s.nodes.length - 1 + 1) (.iface tt (.pointer (some ⟨w2.heap.size, 0, none⟩))) [] [(w2.heap.size, cs, TT)] []) :
    ExS w o bp T sl s (sx.add d) sx.nodes.length (w2.alloc (.cells cs TT)) (.iface tt (.pointer (some ⟨w2.heap.size, 0, none⟩))) := by
  have k1 := k.n1
  have kx := al.sok k
  refine ExS.root (kids := []) (ls := []) (m := []) h1 ow r ⟨(Kpt.add kx d).alike al.symm (Alike.refl _), by rw [add_len], ⟨by rw [add_len]; omega, kx.fu, kx.al⟩, by rw [al.n]; exact Nat.le_refl _, k1, add_next sx hc⟩ hc (fun x hx => by cases hx) (fun L hL => by cases hL) (Mm.nil _ _) ?_
  rw [al.n]
  rw [show s.nodes.length - 1 + 1 = s.nodes.length by omega] at sh
  exact sh
end
end Go.Proofs.Qxb6500574aGreatDoor
