/-
  TWO MACHINES IN ONE HEAP: what Keeps carries along. No walk.
-/
import Derived.Test.Qxb6500579aGreatULawT
import Derived.Test.Qxb6500579aGreatUNew
namespace Go.Proofs.Qxb6500579aGreat
open Go Go.RowKit
set_option linter.unusedVariables false
set_option linter.unusedSimpArgs false
abbrev sideC (A : VL) : Array Value := #[.pointer (some ⟨A.b, 0, none⟩), .pointer (some ⟨A.bn, 0, none⟩), .pointer (some ⟨A.bt, 0, none⟩)]
/-- what one machine does leaves the other alone -/
theorem VRep.apart {W W1 : World} {Ax Ay : VL} {m : VMD} {f e : Nat} (R : VRep W Ay m f e) (F : Fr (fun k => isVM (Ax.o k)) W W1) (ap : ∀ k, Ax.o k = 0 ∨ Ay.o k = 0) : VRep W1 Ay m f e := by
  refine R.zero ⟨F.weaken (fun k _ h => ?_), fun _ _ => rfl, fun h k hk => h k (Nat.le_trans F.size hk)⟩
  rcases ap k with e | e
  · exact absurd e h
  · exact e
/-- a block of neither machine -/
structure Loc (W : World) (Ax Ay : VL) (b : Nat) (cs : Array Value) (T : TypeId) : Prop where
  h : Has W b cs T
  x : Ax.o b = 0
  y : Ay.o b = 0
/-- the two machines -/
structure Two (w : World) (Ax Ay : VL) (σx σy : St) (W : World) : Prop where
  fr : Fr (fun _ => False) w W
  rx : VRep W Ax σx.m σx.f σx.e
  ry : VRep W Ay σy.m σy.f σy.e
  ap : ∀ k, Ax.o k = 0 ∨ Ay.o k = 0
  ox : ∀ k, k < w.heap.size → Ax.o k = 0
  oy : ∀ k, k < w.heap.size → Ay.o k = 0
section
variable {w W W1 : World} {Ax Ay A' : VL} {σx σy σ' : St} {b c : Nat} {cs ds : Array Value} {T T' : TypeId}
theorem Two.fresh (h : Two w Ax Ay σx σy W) (f : Fr (fun _ => False) W W1) : Two w Ax Ay σx σy W1 :=
  ⟨h.fr.trans f (fun _ _ x => x), h.rx.fresh f, h.ry.fresh f, h.ap, h.ox, h.oy⟩
theorem Loc.fresh (h : Loc W Ax Ay b cs T) (f : Fr (fun _ => False) W W1) : Loc W1 Ax Ay b cs T := ⟨h.h.fr f (fun x => x), h.x, h.y⟩
theorem Two.loc (h : Two w Ax Ay σx σy W) (cs : Array Value) (T : TypeId) {b : Nat} (hb : b = W.heap.size) : Loc (W.alloc (.cells cs T)) Ax Ay b cs T :=
  ⟨Has.newC _ _ _ hb, h.rx.own _ (by omega), h.ry.own _ (by omega)⟩
theorem Two.stepX (h : Two w Ax Ay σx σy W) (S : VSt isVM W Ax W1 A') (R : VRep W1 A' σ'.m σ'.f σ'.e) : Two w A' Ay σ' σy W1 := by
  have hs : w.heap.size ≤ W.heap.size := h.fr.size
  refine ⟨h.fr.trans S.st.fr (fun j hj x => x (h.ox j hj)), R, h.ry.apart S.st.fr h.ap, fun k => ?_, fun k hk => ?_, h.oy⟩
  · by_cases hk : k < W.heap.size
    · rw [S.st.ext k hk]; exact h.ap k
    · exact .inr (h.ry.own k (by omega))
  · rw [S.st.ext k (by omega)]; exact h.ox k hk
theorem Two.stepY (h : Two w Ax Ay σx σy W) (S : VSt isVM W Ay W1 A') (R : VRep W1 A' σ'.m σ'.f σ'.e) : Two w Ax A' σx σ' W1 := by
  have hs : w.heap.size ≤ W.heap.size := h.fr.size
  refine ⟨h.fr.trans S.st.fr (fun j hj x => x (h.oy j hj)), h.rx.apart S.st.fr (fun k => (h.ap k).symm), R, fun k => ?_, h.ox, fun k hk => ?_⟩
  · by_cases hk : k < W.heap.size
    · rw [S.st.ext k hk]; exact h.ap k
    · exact .inl (h.rx.own k (by omega))
  · rw [S.st.ext k (by omega)]; exact h.oy k hk
theorem Loc.stepX (h : Loc W Ax Ay b cs T) (S : VSt isVM W Ax W1 A') : Loc W1 A' Ay b cs T := ⟨(S.keep h.x h.h).2, (S.keep h.x h.h).1, h.y⟩
theorem Loc.stepY (h : Loc W Ax Ay b cs T) (S : VSt isVM W Ay W1 A') : Loc W1 Ax A' b cs T := ⟨(S.keep h.y h.h).2, h.x, (S.keep h.y h.h).1⟩
/-- the second machine made anew -/
theorem Two.newY (h : Two w Ax Ay σx σy W) (B : Born W A' W1) : Two w Ax A' σx st0 W1 := by
  have hs : w.heap.size ≤ W.heap.size := h.fr.size
  refine ⟨h.fr.trans B.fr (fun _ _ x => x), h.rx.fresh B.fr, B.rep, fun k => ?_, h.ox, fun k hk => B.old k (by omega)⟩
  by_cases hk : k < W.heap.size
  · exact .inr (B.old k hk)
  · exact .inl (h.rx.own k (by omega))
theorem Loc.newY (h : Loc W Ax Ay b cs T) (B : Born W A' W1) : Loc W1 Ax A' b cs T := ⟨h.h.fr B.fr (fun x => x), h.x, B.old b h.h.lt⟩
/-- a cell of a block of neither is turned -/
theorem Two.set (h : Two w Ax Ay σx σy W) (l : Loc W Ax Ay b cs T) (hb : w.heap.size ≤ b) (i : Nat) (u : Value) : Two w Ax Ay σx σy (W.setCell ⟨b, i, none⟩ u) :=
  ⟨h.fr.setCell (p := ⟨b, i, none⟩) (.inr hb) u, h.rx.zero ((Stp.refl _ _ _).setCell (p := ⟨b, i, none⟩) l.x u), h.ry.zero ((Stp.refl _ _ _).setCell (p := ⟨b, i, none⟩) l.y u), h.ap, h.ox, h.oy⟩
theorem Loc.set (l : Loc W Ax Ay b cs T) (i : Nat) (u : Value) : Loc (W.setCell ⟨b, i, none⟩ u) Ax Ay b (cs.setIfInBounds i u) T := ⟨l.h.put i u, l.x, l.y⟩
theorem Loc.other (l : Loc W Ax Ay b cs T) (hne : b ≠ c) (i : Nat) (u : Value) : Loc (W.setCell ⟨c, i, none⟩ u) Ax Ay b cs T :=
  ⟨l.h.fr (Fr.setCell (S := fun k => k = c) (Fr.refl _ _) (p := ⟨c, i, none⟩) (.inl rfl) u) hne, l.x, l.y⟩
theorem Two.set3 (h : Two w Ax Ay σx σy W) (l : Loc W Ax Ay b cs T) (hb : w.heap.size ≤ b) (u0 u1 u2 : Value) : Two w Ax Ay σx σy (((W.setCell ⟨b, 0, none⟩ u0).setCell ⟨b, 1, none⟩ u1).setCell ⟨b, 2, none⟩ u2) :=
  ((h.set l hb 0 u0).set (l.set 0 u0) hb 1 u1).set ((l.set 0 u0).set 1 u1) hb 2 u2
theorem Loc.set3 {a0 a1 a2 : Value} (l : Loc W Ax Ay b #[a0, a1, a2] T) (u0 u1 u2 : Value) : Loc (((W.setCell ⟨b, 0, none⟩ u0).setCell ⟨b, 1, none⟩ u1).setCell ⟨b, 2, none⟩ u2) Ax Ay b #[u0, u1, u2] T := by
  have := ((l.set 0 u0).set 1 u1).set 2 u2
  simpa using this
theorem Loc.other3 (l : Loc W Ax Ay b cs T) (hne : b ≠ c) (u0 u1 u2 : Value) : Loc (((W.setCell ⟨c, 0, none⟩ u0).setCell ⟨c, 1, none⟩ u1).setCell ⟨c, 2, none⟩ u2) Ax Ay b cs T :=
  ((l.other hne 0 u0).other hne 1 u1).other hne 2 u2
theorem Two.set6 (h : Two w Ax Ay σx σy W) (l : Loc W Ax Ay b cs T) (hb : w.heap.size ≤ b) (u0 u1 u2 u3 u4 u5 : Value) : Two w Ax Ay σx σy ((((((W.setCell ⟨b, 0, none⟩ u0).setCell ⟨b, 1, none⟩ u1).setCell ⟨b, 2, none⟩ u2).setCell ⟨b, 3, none⟩ u3).setCell ⟨b, 4, none⟩ u4).setCell ⟨b, 5, none⟩ u5) :=
  (((h.set3 l hb u0 u1 u2).set (((l.set 0 u0).set 1 u1).set 2 u2) hb 3 u3).set ((((l.set 0 u0).set 1 u1).set 2 u2).set 3 u3) hb 4 u4).set (((((l.set 0 u0).set 1 u1).set 2 u2).set 3 u3).set 4 u4) hb 5 u5
theorem Loc.set6 {a0 a1 a2 a3 a4 a5 : Value} (l : Loc W Ax Ay b #[a0, a1, a2, a3, a4, a5] T) (u0 u1 u2 u3 u4 u5 : Value) : Loc ((((((W.setCell ⟨b, 0, none⟩ u0).setCell ⟨b, 1, none⟩ u1).setCell ⟨b, 2, none⟩ u2).setCell ⟨b, 3, none⟩ u3).setCell ⟨b, 4, none⟩ u4).setCell ⟨b, 5, none⟩ u5) Ax Ay b #[u0, u1, u2, u3, u4, u5] T := by
  have := (((((l.set 0 u0).set 1 u1).set 2 u2).set 3 u3).set 4 u4).set 5 u5
  simpa using this
theorem Loc.other6 (l : Loc W Ax Ay b cs T) (hne : b ≠ c) (u0 u1 u2 u3 u4 u5 : Value) : Loc ((((((W.setCell ⟨c, 0, none⟩ u0).setCell ⟨c, 1, none⟩ u1).setCell ⟨c, 2, none⟩ u2).setCell ⟨c, 3, none⟩ u3).setCell ⟨c, 4, none⟩ u4).setCell ⟨c, 5, none⟩ u5) Ax Ay b cs T :=
  ((((((l.other hne 0 u0).other hne 1 u1).other hne 2 u2).other hne 3 u3).other hne 4 u4).other hne 5 u5)
end
end Go.Proofs.Qxb6500579aGreat
