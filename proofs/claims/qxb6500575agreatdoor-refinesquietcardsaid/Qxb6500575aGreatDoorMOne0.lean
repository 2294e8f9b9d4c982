/-
  THE STATE within prepm.Prog.one: the checker, the functions' row, the body's source and flat code. No walk.
-/
import Derived.Test.Qxb6500575aGreatDoorMJump
import Derived.Test.Qxb6500575aGreatDoorHole
import Derived.Test.Qxb6500575aGreatDoorProgRep
namespace Go.Proofs.Qxb6500575aGreatDoor
open Go Go.RowKit
set_option linter.unusedVariables false
set_option linter.unusedSimpArgs false

def mfunCells (x : FunD × Value × Value) : List Value := [sv x.1.params, sv x.1.results, sv x.1.locals, x.2.1, x.2.2]
theorem mfunCells_len (x : FunD × Value × Value) : (mfunCells x).length = 5 := rfl
/-- what does not turn while one instruction is typed -/
structure OneP where
  w0 : World
  S0 : Nat → Prop
  bp : Nat
  bk : Nat
  g : Nat
  f : Nat
  n1 : Value
  n2 : Value
  n3 : Value
  n4 : Value
  fc : Nat
  funs : List FunD
  vs0 : List (Value × Value)
  src : List Ins
  srcv : Value
  bc : Nat
  bo : Nat
  c : Ins
structure OneP.Ok (X : OneP) : Prop where
  ff : X.f < X.funs.length
  vl : X.vs0.length = X.funs.length
  gS : X.S0 X.g
  bcn : X.w0.heap.size ≤ X.bc
  bon : X.w0.heap.size ≤ X.bo
structure OneL (X : OneP) (w : World) (L : MkL) (cv : Value) (s : Mk) (o : Flat) : Prop where
  k : MkRep w X.bk L s
  here : Has w X.bp #[X.n1, X.n2, X.n3, X.n4, .slice (some ⟨X.g, 0, none⟩) X.funs.length X.fc] 120
  row : w.ownsRow 0 125 5 (.slice (some ⟨X.g, 0, none⟩) X.funs.length X.fc) X.funs.length ((X.funs.zip (X.vs0.set X.f (X.srcv, cv))).flatMap mfunCells)
  src : w.ownsRow 0 67 3 X.srcv X.src.length (insCells X.src)
  code : w.ownsRow 0 176 4 cv s.code.length (flatCells s.code)
  ci : Has w X.bc #[.int .i64 X.c.op, .int .i64 X.c.imm, sv X.c.tab] 67
  bo : Has w X.bo #[.int .i64 o.op, .int .i64 o.imm, .int .i64 o.keep, .int .i64 o.cut] 176
  fr : Fr X.S0 X.w0 w
  subK : ∀ k, k < X.w0.heap.size → MkS X.bk L k → X.S0 k
  subC : ∀ k, k < X.w0.heap.size → cv.ownBlock = some k → X.S0 k
  nb : cv.ownBlock ≠ some X.bo

section
variable {X : OneP} {w w' : World} {L L' : MkL} {cv : Value} {s s' : Mk} {o o' : Flat}
theorem OneL.fresh (h : OneL X w L cv s o) (hf : Fr (fun _ => False) w w') : OneL X w' L cv s o :=
  { h with
    k := h.k.fr hf (fun _ _ h => h), here := h.here.fr hf id, row := owns_fr h.row hf (fun _ _ h => h), src := owns_fr h.src hf (fun _ _ h => h), code := owns_fr h.code hf (fun _ _ h => h), ci := h.ci.fr hf id, bo := h.bo.fr hf id
    fr := h.fr.trans hf (fun _ _ h => h.elim) }
theorem OneL.drewN (h : OneL X w L cv s o) (n : Nat) : OneL X (w.drewN n) L cv s o := h.fresh ((Fr.refl _ w).drewN n)
theorem OneL.drew (h : OneL X w L cv s o) : OneL X w.drew L cv s o := h.fresh ((Fr.refl _ w).drew)
theorem OneL.notK (h : OneL X w L cv s o) {b : Nat} {cs : Array Value} {T : TypeId} (hb : Has w b cs T) (h1 : T ≠ 136) (h2 : T ≠ 5) (h3 : T ≠ 132) : ¬ MkS X.bk L b := by
  rintro (rfl | h | h)
  · exact h1 (by have := hb.symm.trans ‹OneL X w L cv s o›.k.here; simp at this; exact this.2)
  · exact owns_ne ‹OneL X w L cv s o›.k.st hb h2 (by rw [ownBlock_any]; exact h)
  · exact owns_ne ‹OneL X w L cv s o›.k.cs hb h3 (by rw [ownBlock_any]; exact h)
theorem OneL.rowK (h : OneL X w L cv s o) {e : TypeId} {size n : Nat} {v : Value} {xs : List Value} (hv : w.ownsRow 0 e size v n xs) (h1 : 136 ≠ e) (h2 : 5 ≠ e) (h3 : 132 ≠ e) : ∀ g, v.ownBlock = some g → ¬ MkS X.bk L g := by
  rintro g hg (rfl | h | h)
  · exact owns_ne hv ‹OneL X w L cv s o›.k.here h1 hg
  · exact owns_apart ‹OneL X w L cv s o›.k.st hv h2 g (by rw [ownBlock_any]; exact h) hg
  · exact owns_apart ‹OneL X w L cv s o›.k.cs hv h3 g (by rw [ownBlock_any]; exact h) hg
/-- the checker has gone a step -/
theorem OneL.chk (h : OneL X w L cv s o) (hr : MkRep w' X.bk L' s') (hs : MkStep w w' X.bk L L') (hc : s'.code = s.code) : OneL X w' L' cv s' o := by
  have hf := hs.fr
  refine { k := hr, here := h.here.fr hf (h.notK h.here (by decide) (by decide) (by decide)), row := owns_fr h.row hf (h.rowK h.row (by decide) (by decide) (by decide)), src := owns_fr h.src hf (h.rowK h.src (by decide) (by decide) (by decide)), code := ?_, ci := h.ci.fr hf (h.notK h.ci (by decide) (by decide) (by decide)), bo := h.bo.fr hf (h.notK h.bo (by decide) (by decide) (by decide)), fr := ?_, subK := ?_, subC := h.subC, nb := h.nb }
  · rw [hc]; exact owns_fr h.code hf (h.rowK h.code (by decide) (by decide) (by decide))
  · exact h.fr.trans hf (fun k hk hS => h.subK k hk hS)
  · intro k hk hS
    exact h.subK k hk (hs.sub k (Nat.lt_of_lt_of_le hk h.fr.size) hS)
/-- what 'out' holds -/
theorem OneL.putO (h : OneL X w L cv s o) (hX : X.Ok) (hf : Fr (fun k => k = X.bo) w w') (hb : Has w' X.bo #[.int .i64 o'.op, .int .i64 o'.imm, .int .i64 o'.keep, .int .i64 o'.cut] 176) : OneL X w' L cv s o' := by
  refine { k := h.k.fr hf (fun k hk e => by subst e; exact h.notK h.bo (by decide) (by decide) (by decide) hk), here := h.here.fr hf (h.here.ne h.bo (by decide)), row := owns_fr h.row hf (fun g hg e => by subst e; exact owns_ne h.row h.bo (by decide) hg), src := owns_fr h.src hf (fun g hg e => by subst e; exact owns_ne h.src h.bo (by decide) hg), code := owns_fr h.code hf (fun g hg e => by subst e; exact h.nb hg), ci := h.ci.fr hf (h.ci.ne h.bo (by decide)), bo := hb, fr := ?_, subK := h.subK, subC := h.subC, nb := h.nb }
  exact h.fr.trans hf (fun j hj e => by have := hX.bon; omega)
theorem OneL.zAt (h : OneL X w L cv s o) (hX : X.Ok) : ∃ u, X.funs[X.f]? = some u ∧ (X.funs.zip (X.vs0.set X.f (X.srcv, cv)))[X.f]? = some (u, (X.srcv, cv)) := by
  have hff := hX.ff
  have hvl := hX.vl
  refine ⟨X.funs[X.f], List.getElem?_eq_getElem hff, ?_⟩
  rw [List.getElem?_zip_eq_some]
  exact ⟨List.getElem?_eq_getElem hff, List.getElem?_set_self (by omega)⟩
/-- the body's own function, cell by cell -/
theorem OneL.me (h : OneL X w L cv s o) (hX : X.Ok) {u : FunD} (hu : X.funs[X.f]? = some u) : ∀ j, j < 5 → w.cell? ⟨X.g, X.f * 5 + j, none⟩ = (mfunCells (u, (X.srcv, cv)))[j]? := by
  intro j hj
  obtain ⟨u', h1, h2⟩ := h.zAt hX
  obtain rfl : u = u' := by rw [hu] at h1; exact Option.some.inj h1
  have hff := hX.ff
  have hc := (owns_some h.row (by omega))
  obtain ⟨g, hg, hc⟩ := hc
  obtain rfl : X.g = g := by simpa using hg
  rw [hc (X.f * 5 + j) (by omega), flatMap_at mfunCells 5 mfunCells_len _ X.f j _ h2 hj]
/-- any function's signature -/
theorem OneL.sig (h : OneL X w L cv s o) (hX : X.Ok) {i : Nat} {u : FunD} (hu : X.funs[i]? = some u) : w.cell? ⟨X.g, i * 5, none⟩ = some (sv u.params) ∧ w.cell? ⟨X.g, i * 5 + 1, none⟩ = some (sv u.results) := by
  have hi : i < X.funs.length := (List.getElem?_eq_some_iff.1 hu).1
  have hvl := hX.vl
  obtain ⟨g, hg, hc⟩ := owns_some h.row (by omega)
  obtain rfl : X.g = g := by simpa using hg
  have hil : i < (X.vs0.set X.f (X.srcv, cv)).length := by simp; omega
  have hz : (X.funs.zip (X.vs0.set X.f (X.srcv, cv)))[i]? = some (u, (X.vs0.set X.f (X.srcv, cv))[i]) := by
    rw [List.getElem?_zip_eq_some]; exact ⟨hu, List.getElem?_eq_getElem hil⟩
  have a0 := hc (i * 5 + 0) (by omega)
  have a1 := hc (i * 5 + 1) (by omega)
  rw [flatMap_at mfunCells 5 mfunCells_len _ i _ _ hz (by omega)] at a0 a1
  exact ⟨by simpa [mfunCells] using a0, by simpa [mfunCells] using a1⟩
/-- 'u.code = append(u.code, out)' -/
theorem OneL.app (h : OneL X w L cv s o) (hX : X.Ok) {ob : Obj} {g2 cap : Nat} {w1 : World} (hfr : Fr (fun k => cv.ownBlock = some k) (w.alloc ob) w1)
    (hown : w1.ownsRow 0 176 4 (.slice (some ⟨g2, 0, none⟩) (s.code.length + 1) cap) (s.code.length + 1) (flatCells s.code ++ o.cells)) (hat : cv.ownBlock = some g2 ∨ g2 = w.heap.size + 1) :
    OneL X (w1.setCell ⟨X.g, X.f * 5 + 4, none⟩ (.slice (some ⟨g2, 0, none⟩) (s.code.length + 1) cap)) L (.slice (some ⟨g2, 0, none⟩) (s.code.length + 1) cap) { s with code := s.code ++ [o] } o := by
  have ha := h.fresh ((Fr.refl _ w).alloc ob)
  have hrow1 := owns_fr ha.row hfr (fun g hg e => owns_apart ha.row ha.code (by decide) g hg e)
  have hst := (hrow1.stored (X.f * 5 + 4) (.slice (some ⟨g2, 0, none⟩) (s.code.length + 1) cap)).1
  obtain ⟨u, hu, hz⟩ := h.zAt hX
  have hvl := hX.vl
  have hff := hX.ff
  have hfm := flatMap_set mfunCells 5 mfunCells_len _ X.f 4 (u, (X.srcv, cv)) (u, (X.srcv, .slice (some ⟨g2, 0, none⟩) (s.code.length + 1) cap)) (.slice (some ⟨g2, 0, none⟩) (s.code.length + 1) cap) hz (by decide) rfl
  have hzs : (X.funs.zip (X.vs0.set X.f (X.srcv, cv))).set X.f (u, (X.srcv, Value.slice (some ⟨g2, 0, none⟩) (s.code.length + 1) cap)) = X.funs.zip (X.vs0.set X.f (X.srcv, .slice (some ⟨g2, 0, none⟩) (s.code.length + 1) cap)) := by
    rw [← zip_set]
    have e1 : X.funs.set X.f u = X.funs := by
      apply List.ext_getElem?
      intro j
      by_cases hj : X.f = j
      · subst hj; rw [List.getElem?_set_self hff, hu]
      · rw [List.getElem?_set_ne hj]
    rw [e1, List.set_set]
  have hgne : ∀ {b : Nat} {cs : Array Value} {T : TypeId}, Has w1 b cs T → T ≠ 125 → b ≠ X.g := fun hb hT e => owns_ne hrow1 hb hT (by rw [e]; rfl)
  have hF : Fr (fun k => cv.ownBlock = some k ∨ k = X.g) w (w1.setCell ⟨X.g, X.f * 5 + 4, none⟩ (.slice (some ⟨g2, 0, none⟩) (s.code.length + 1) cap)) := by
    have h0 : Fr (fun k => cv.ownBlock = some k ∨ k = X.g) w w1 := Fr.trans (S := fun k => cv.ownBlock = some k ∨ k = X.g) ((Fr.refl _ w).alloc ob) hfr (fun j _ hj => .inl hj)
    exact h0.setCell (.inl (.inr rfl)) _
  have hS : ∀ k, MkS X.bk L k → ¬ (cv.ownBlock = some k ∨ k = X.g) := by
    rintro k hk (h1 | rfl)
    · exact h.rowK h.code (by decide) (by decide) (by decide) k h1 hk
    · exact h.rowK h.row (by decide) (by decide) (by decide) X.g rfl hk
  have hH : ∀ {b : Nat} {cs : Array Value} {T : TypeId}, Has w b cs T → T ≠ 176 → T ≠ 125 → Has (w1.setCell ⟨X.g, X.f * 5 + 4, none⟩ (.slice (some ⟨g2, 0, none⟩) (s.code.length + 1) cap)) b cs T := fun hb h1 h2 => hb.fr hF (by
    rintro (h3 | rfl)
    · exact owns_ne h.code hb h1 h3
    · exact owns_ne h.row hb h2 rfl)
  have hbo1 : Has w1 X.bo _ _ := (h.bo.alloc ob).fr hfr (fun e => h.nb e)
  refine { k := (h.k.fr hF hS).code _, here := hH h.here (by decide) (by decide), row := ?_, src := ?_, code := ?_, ci := hH h.ci (by decide) (by decide), bo := ?_, fr := ?_, subK := h.subK, subC := ?_, nb := ?_ }
  · rw [← hzs, hfm]; exact hst
  · refine owns_fr h.src hF (fun g hg e => ?_)
    rcases e with e | rfl
    · exact owns_apart h.src h.code (by decide) g hg e
    · exact owns_apart h.src h.row (by decide) X.g hg rfl
  · have : (s.code ++ [o]).length = s.code.length + 1 := by simp
    simp only [this, flatCells_snoc]
    exact owns_other hown (p := ⟨X.g, X.f * 5 + 4, none⟩) (fun e => owns_apart hown hrow1 (by decide) X.g e rfl) _
  · exact hbo1.other (p := ⟨X.g, X.f * 5 + 4, none⟩) (hgne hbo1 (by decide)) _
  · refine h.fr.trans hF (fun k hk hS => ?_)
    rcases hS with hS | rfl
    · exact h.subC k hk hS
    · exact hX.gS
  · intro k hk he
    rcases hat with h1 | h1
    · exact h.subC k hk (by rw [h1]; exact he)
    · simp [Value.ownBlock] at he
      have := h.fr.size
      omega
  · intro e
    simp [Value.ownBlock] at e
    rcases hat with h1 | h1
    · exact h.nb (by rw [h1, e])
    · have := h.bo.lt
      omega
end
end Go.Proofs.Qxb6500575aGreatDoor
