/-
  run.Call: its own cells, and the world that it runs in. No walk.
-/
import Derived.Test.Qxb6500575aGreatDoorSRec
import Derived.Test.Qxb6500575aGreatDoorSLoopT
namespace Go.Proofs.Qxb6500575aGreatDoor
open Go Go.RowKit
set_option linter.unusedVariables false
set_option linter.unusedSimpArgs false

variable {σ : Type}
section
variable {R : RP σ} {w W w' : World} {L L' : InL} {K K' : KL} {x x' : InD} {n n' : Int} {d d' : KD} {s s' : σ}
/-- the same call, seen from here on -/
abbrev RP.from (R : RP σ) (W : World) (L : InL) (K : KL) (s : σ) : RP σ := { R with w0 := W, L0 := L, K0 := K, s0 := s }
theorem RunW.base (h : RunW R W L K x n d s) : RunW (R.from W L K s) W L K x n d s :=
  { inst := h.inst, prog := h.prog, mach := h.mach, host := h.host, fr := Fr.refl _ _, subI := fun _ _ h => h, subK := fun _ _ h => h, subH := fun _ _ h => h }
theorem RunW.back (h : RunW R W L K x n d s) (h1 : RunW (R.from W L K s) w' L' K' x' n' d' s') : RunW R w' L' K' x' n' d' s' :=
  { inst := h1.inst
    prog := h1.prog
    mach := h1.mach
    host := h1.host
    fr := h.fr.trans h1.fr (fun j hj hS => by
      rcases hS with hS | hS | hS | hS
      · exact .inl (h.subI j hj hS)
      · exact .inr (.inl hS)
      · exact .inr (.inr (.inl (h.subK j hj hS)))
      · exact .inr (.inr (.inr (h.subH j hj hS))))
    subI := fun j hj hS => h.subI j hj (h1.subI j (Nat.lt_of_lt_of_le hj h.fr.size) hS)
    subK := fun j hj hS => h.subK j hj (h1.subK j (Nat.lt_of_lt_of_le hj h.fr.size) hS)
    subH := fun j hj hS => h.subH j hj (h1.subH j (Nat.lt_of_lt_of_le hj h.fr.size) hS) }
/-- a block that was there at the start, and is none of the call's, stands -/
theorem RunW.still (h1 : RunW (R.from W L K s) w' L' K' x' n' d' s') (h : RunW R W L K x n d s) {b : Nat} {cs : Array Value} {t : TypeId} (hb : Has W b cs t) (hI : t ∉ tsI) (hP : t ∉ tsP) (hK : t ∉ tsK) (hS : ¬ R.H.S s b) : Has w' b cs t := by
  refine hb.fr h1.fr ?_
  rintro (hk | hk | hk | hk)
  · exact h.inst.typed.has hb hI hk
  · exact h.prog.typed.has hb hP (.inl hk)
  · exact h.mach.typed.has hb hK hk
  · exact hS hk
/-- the call's three result variables are written -/
theorem RunW.cells (h : RunW R w L K x n d s) {b10 b11 b12 : Nat} {c10 c11 c12 : Array Value} (h10 : Has w b10 c10 37) (h11 : Has w b11 c11 3) (h12 : Has w b12 c12 74) (hS : ¬ R.H.S s b10) (g10 : R.w0.heap.size ≤ b10) (g11 : R.w0.heap.size ≤ b11) (g12 : R.w0.heap.size ≤ b12)
    (hF : Fr (fun k => k = b10 ∨ k = b11 ∨ k = b12) w w') : RunW R w' L K x n d s :=
  { inst := h.inst.fr' hF (fun j hj e => by
      rcases e with rfl | rfl | rfl
      · exact h.inst.typed.has h10 (by decide) hj
      · exact h.inst.typed.has h11 (by decide) hj
      · exact h.inst.typed.has h12 (by decide) hj)
    prog := h.prog.kept hF (fun j hj e => by
      rcases e with rfl | rfl | rfl
      · exact h.prog.typed.has h10 (by decide) hj
      · exact h.prog.typed.has h11 (by decide) hj
      · exact h.prog.typed.has h12 (by decide) hj)
    mach := h.mach.fr hF (fun j hj e => by
      rcases e with rfl | rfl | rfl
      · exact h.mach.typed.has h10 (by decide) hj
      · exact h.mach.typed.has h11 (by decide) hj
      · exact h.mach.typed.has h12 (by decide) hj)
    host := R.H.fr h.host hF (fun j hj e => by
      rcases e with rfl | rfl | rfl
      · exact hS hj
      · exact (R.H.typed h.host).has h11 (by decide) hj
      · exact (R.H.typed h.host).has h12 (by decide) hj)
    fr := h.fr.trans hF (fun j hj e => by omega)
    subI := h.subI
    subK := h.subK
    subH := h.subH }
/-- the machine is emptied -/
theorem RunW.cleared (h : RunW R w L K x n d s) : RunW R (clear3 w R.bx) ⟨none, none, 0, 0⟩ K ⟨[], [], 0, x.high⟩ n d s := by
  have h1 : Has (clear3 w R.bx) R.bx _ _ := ((h.inst.here.put 2 (.slice none 0 0)).put 3 (.slice none 0 0)).put 4 (.int .i64 0)
  have hF : Fr (fun k => k = R.bx) w (clear3 w R.bx) :=
    Fr.setCell (S := fun k => k = R.bx) (Fr.setCell (S := fun k => k = R.bx) (Fr.setCell (S := fun k => k = R.bx) (Fr.refl _ _) (p := ⟨R.bx, 2, none⟩) (.inl rfl) _) (p := ⟨R.bx, 3, none⟩) (.inl rfl) _) (p := ⟨R.bx, 4, none⟩) (.inl rfl) _
  refine h.step ⟨by simpa using h1, World.ownsRow_nil _ _ _ _, World.ownsRow_nil _ _ _ _⟩ ⟨hF.weaken (fun k _ e => .inl e), ?_⟩
  rintro k _ (rfl | hk | hk)
  · exact .inl rfl
  · cases hk
  · cases hk
end
/-- the cells that a Call makes for itself -/
abbrev callW (w : World) (bx : Nat) (v10 v11 v12 : Value) : World := ((((w.setCell ⟨bx, 5, none⟩ (.int .i64 0)).alloc (.cells #[.pointer (some ⟨bx, 0, none⟩)] 27)).alloc (.cells #[v10] 37)).alloc (.cells #[v11] 3)).alloc (.cells #[v12] 74)
theorem RunW.begun {R : RP σ} {w : World} {L : InL} {K : KL} {x : InD} {n : Int} {d : KD} {s : σ} (h : RunW R w L K x n d s) (v10 v11 v12 : Value) : RunW R (callW w R.bx v10 v11 v12) L K { x with high := 0 } n d s := by
  have h1 := h.inst.setHigh 0
  exact ((((h.step h1.1 h1.2).alloc _).alloc _).alloc _).alloc _
theorem callW_has (w : World) (bx : Nat) (v10 v11 v12 : Value) : Has (callW w bx v10 v11 v12) w.heap.size #[.pointer (some ⟨bx, 0, none⟩)] 27 ∧ Has (callW w bx v10 v11 v12) (w.heap.size + 1) #[v10] 37 ∧ Has (callW w bx v10 v11 v12) (w.heap.size + 1 + 1) #[v11] 3 ∧ Has (callW w bx v10 v11 v12) (w.heap.size + 1 + 1 + 1) #[v12] 74 := by
  have hs : (w.setCell ⟨bx, 5, none⟩ (.int .i64 0)).heap.size = w.heap.size := by simp [World.setCell]
  refine ⟨?_, ?_, ?_, ?_⟩
  · have := (((Has.new (w.setCell ⟨bx, 5, none⟩ (.int .i64 0)) #[.pointer (some ⟨bx, 0, none⟩)] 27).alloc (.cells #[v10] 37)).alloc (.cells #[v11] 3)).alloc (.cells #[v12] 74)
    rw [hs] at this
    exact this
  · have := ((Has.new ((w.setCell ⟨bx, 5, none⟩ (.int .i64 0)).alloc (.cells #[.pointer (some ⟨bx, 0, none⟩)] 27)) #[v10] 37).alloc (.cells #[v11] 3)).alloc (.cells #[v12] 74)
    simpa [hs] using this
  · have := (Has.new (((w.setCell ⟨bx, 5, none⟩ (.int .i64 0)).alloc (.cells #[.pointer (some ⟨bx, 0, none⟩)] 27)).alloc (.cells #[v10] 37)) #[v11] 3).alloc (.cells #[v12] 74)
    simpa [hs] using this
  · have := Has.new ((((w.setCell ⟨bx, 5, none⟩ (.int .i64 0)).alloc (.cells #[.pointer (some ⟨bx, 0, none⟩)] 27)).alloc (.cells #[v10] 37)).alloc (.cells #[v11] 3)) #[v12] 74
    simpa [hs] using this
theorem call_res (tmps : Array Value) (w : World) (b10 b11 b12 : Nat) (v10 v11 v12 : Value) (p10 : tmps.getD 10 undef = .pointer (some ⟨b10, 0, none⟩)) (p11 : tmps.getD 11 undef = .pointer (some ⟨b11, 0, none⟩)) (p12 : tmps.getD 12 undef = .pointer (some ⟨b12, 0, none⟩))
    (h10 : w.cell? ⟨b10, 0, none⟩ = some v10) (h11 : w.cell? ⟨b11, 0, none⟩ = some v11) (h12 : w.cell? ⟨b12, 0, none⟩ = some v12) :
    (results Tryz.f38 tmps).run Tryz.prog w = .ok (.tuple #[v10, v11, v12]) w := by
  have hr : Tryz.f38.results = #[.cell 10 37, .cell 11 3, .cell 12 74] := by kernel_rfl
  have q10 : tmps[10]?.getD undef = .pointer (some ⟨b10, 0, none⟩) := by simpa using p10
  have q11 : tmps[11]?.getD undef = .pointer (some ⟨b11, 0, none⟩) := by simpa using p11
  have q12 : tmps[12]?.getD undef = .pointer (some ⟨b12, 0, none⟩) := by simpa using p12
  have key : ∀ (ty : TypeId) (p : Addr) (v : Value), (isAgg ty).run Tryz.prog = (fun w => .ok false w) → w.cell? p = some v → (loadVar ty p).run Tryz.prog w = .ok v w := by
    intro ty p v hT hc
    simp [loadVar, Sem.run_bind, hT, load, Sem.run, hc]
  simp [results, hr, q10, q11, q12, asAddr, key 37 _ _ (by kernel_rfl) h10, key 3 _ _ (by kernel_rfl) h11, key 74 _ _ (by kernel_rfl) h12]
theorem Has.put3 {V : World} {b10 b11 b12 : Nat} {x y z : Value} (h10 : Has V b10 #[x] 37) (h11 : Has V b11 #[y] 3) (h12 : Has V b12 #[z] 74) (v10 v11 v12 : Value) :
    Has (((V.setCell ⟨b10, 0, none⟩ v10).setCell ⟨b11, 0, none⟩ v11).setCell ⟨b12, 0, none⟩ v12) b10 #[v10] 37 ∧ Has (((V.setCell ⟨b10, 0, none⟩ v10).setCell ⟨b11, 0, none⟩ v11).setCell ⟨b12, 0, none⟩ v12) b11 #[v11] 3 ∧
    Has (((V.setCell ⟨b10, 0, none⟩ v10).setCell ⟨b11, 0, none⟩ v11).setCell ⟨b12, 0, none⟩ v12) b12 #[v12] 74 ∧ Fr (fun k => k = b10 ∨ k = b11 ∨ k = b12) V (((V.setCell ⟨b10, 0, none⟩ v10).setCell ⟨b11, 0, none⟩ v11).setCell ⟨b12, 0, none⟩ v12) := by
  have n1 := h10.ne h11 (by decide)
  have n2 := h10.ne h12 (by decide)
  have n3 := h11.ne h12 (by decide)
  refine ⟨?_, ?_, ?_, ?_⟩
  · have := ((h10.put 0 v10).other (p := ⟨b11, 0, none⟩) n1 v11).other (p := ⟨b12, 0, none⟩) n2 v12
    simpa using this
  · have := (((h11.other (p := ⟨b10, 0, none⟩) (Ne.symm n1) v10)).put 0 v11).other (p := ⟨b12, 0, none⟩) n3 v12
    simpa using this
  · have := (((h12.other (p := ⟨b10, 0, none⟩) (Ne.symm n2) v10)).other (p := ⟨b11, 0, none⟩) (Ne.symm n3) v11).put 0 v12
    simpa using this
  · exact Fr.setCell (S := fun k => k = b10 ∨ k = b11 ∨ k = b12) (Fr.setCell (S := fun k => k = b10 ∨ k = b11 ∨ k = b12) (Fr.setCell (S := fun k => k = b10 ∨ k = b11 ∨ k = b12) (Fr.refl _ _) (p := ⟨b10, 0, none⟩) (.inl (.inl rfl)) _) (p := ⟨b11, 0, none⟩) (.inl (.inr (.inl rfl))) _) (p := ⟨b12, 0, none⟩) (.inl (.inr (.inr rfl))) _
/-- the first frame -/
theorem Good.start {p : ProgD} {T : Nat → Typing} (hp : ProgT p T) {g : Nat} {u : FunD} (hg : p.nimp ≤ g) (hu : p.funs[g]? = some u) {vs : List V} (hv : vs.map V.ty = u.params.reverse) (hf : ∀ v ∈ vs, v.Fits) :
    Good p T (zeros u.locals ++ vs) [{ f := g, pc := 0, base := 0, floor := (zeros u.locals ++ vs).length, res := u.results }] := by
  have hlt : g < p.codes.length := by rw [hp.clen]; exact (List.getElem?_eq_some_iff.1 hu).1
  have hty := (hp.ps u (List.mem_of_getElem? hu)).2.2.2
  refine ⟨fun v hv' => ?_, ?_, by simp⟩
  · rcases List.mem_append.1 hv' with h | h
    · exact zeros_fits _ v h
    · exact hf v h
  · unfold Chain
    refine ⟨g, u, p.codes[g], 0, [], [], zeros u.locals ++ vs, [], ⟨rfl, hg, hu, List.getElem?_eq_getElem hlt, rfl, ?_, ?_, rfl, ?_, rfl, ?_, rfl⟩, ?_⟩
    · exact (hp.fin g u _ hg hu (List.getElem?_eq_getElem hlt)).1.zero
    · simp
    · rw [List.map_append, zeros_ty hty.2.2, hv]; simp
    · simp
    · unfold Chain
      rfl
/-- a part that does not panic -/
def calm (Q : Exit → Act → World → Prop) : Exit → Act → World → Prop
  | .panic _, _, _ => False
  | e, a, w => Q e a w
theorem calm_normal {Q : Exit → Act → World → Prop} {a : Act} {w : World} (h : Q .normal a w) : calm Q .normal a w := h
theorem wp_calm {P : Program} {c : Code} {Q : Exit → Act → World → Prop} {a : Act} {w : World} (h : c.wp P (calm Q) a w) : c.wp P Q a w := by
  intro b k cs
  obtain ⟨e, a', w', q, r⟩ := h b k cs
  refine ⟨e, a', w', ?_, r⟩
  cases e <;> first | exact q | exact q.elim
end Go.Proofs.Qxb6500575aGreatDoor
