/-
  prepm.Prog.one: what it is handed, what it leaves. No walk.
-/
import Derived.Test.Qxb6500575aGreatDoorMOne0
namespace Go.Proofs.Qxb6500575aGreatDoor
open Go Go.RowKit
set_option linter.unusedVariables false
set_option linter.unusedSimpArgs false

abbrev insObj (c : Ins) : Obj := .cells #[.int .i64 c.op, .int .i64 c.imm, sv c.tab] 67
abbrev flatObj (o : Flat) : Obj := .cells #[.int .i64 o.op, .int .i64 o.imm, .int .i64 o.keep, .int .i64 o.cut] 176
structure OneIn (X : OneP) (L : MkL) (cv : Value) (s : Mk) : Prop where
  k : MkRep X.w0 X.bk L s
  here : Has X.w0 X.bp #[X.n1, X.n2, X.n3, X.n4, .slice (some ⟨X.g, 0, none⟩) X.funs.length X.fc] 120
  row : X.w0.ownsRow 0 125 5 (.slice (some ⟨X.g, 0, none⟩) X.funs.length X.fc) X.funs.length ((X.funs.zip (X.vs0.set X.f (X.srcv, cv))).flatMap mfunCells)
  src : X.w0.ownsRow 0 67 3 X.srcv X.src.length (insCells X.src)
  code : X.w0.ownsRow 0 176 4 cv s.code.length (flatCells s.code)
  ff : X.f < X.funs.length
  vl : X.vs0.length = X.funs.length
  gS : X.S0 X.g
  kS : ∀ k, MkS X.bk L k → X.S0 k
  cS : ∀ k, cv.ownBlock = some k → X.S0 k
  hbc : X.bc = X.w0.heap.size
  hbo : X.bo = X.w0.heap.size + 1
theorem OneIn.ok {X : OneP} {L : MkL} {cv : Value} {s : Mk} (h : OneIn X L cv s) : X.Ok := ⟨h.ff, h.vl, h.gS, by rw [h.hbc]; exact Nat.le_refl _, by rw [h.hbo]; exact Nat.le_succ _⟩
theorem OneIn.start {X : OneP} {L : MkL} {cv : Value} {s : Mk} (h : OneIn X L cv s) (n : Nat) : OneL X (((X.w0.alloc (insObj X.c)).alloc (flatObj ⟨X.c.op, X.c.imm, 0, 0⟩)).drewN n) L cv s ⟨X.c.op, X.c.imm, 0, 0⟩ := by
  have F : Fr (fun _ => False) X.w0 (((X.w0.alloc (insObj X.c)).alloc (flatObj ⟨X.c.op, X.c.imm, 0, 0⟩)).drewN n) := ((Fr.refl _ X.w0).alloc _ |>.alloc _).drewN n
  refine { k := h.k.fr F (fun _ _ h => h), here := h.here.fr F id, row := owns_fr h.row F (fun _ _ h => h), src := owns_fr h.src F (fun _ _ h => h), code := owns_fr h.code F (fun _ _ h => h), ci := ?_, bo := ?_, fr := F.weaken (fun _ _ h => h.elim), subK := fun k _ hk => h.kS k hk, subC := fun k _ hk => h.cS k hk, nb := ?_ }
  · rw [h.hbc]; exact ((Has.new X.w0 _ _).alloc _).drewN n
  · rw [h.hbo]
    have := Has.new (X.w0.alloc (insObj X.c)) #[.int .i64 X.c.op, .int .i64 X.c.imm, .int .i64 0, .int .i64 0] 176
    simp at this
    exact this.drewN n
  · rw [h.hbo]
    intro e
    have := owns_lt h.code _ e
    omega
structure OneF (X : OneP) (w : World) (L : MkL) (cv : Value) (s : Mk) (o : Flat) (u : FunD) : Prop where
  i0 : w.cell? ⟨X.bc, 0, none⟩ = some (.int .i64 X.c.op)
  i1 : w.cell? ⟨X.bc, 1, none⟩ = some (.int .i64 X.c.imm)
  i2 : w.cell? ⟨X.bc, 2, none⟩ = some (sv X.c.tab)
  o0 : w.cell? ⟨X.bo, 0, none⟩ = some (.int .i64 o.op)
  o1 : w.cell? ⟨X.bo, 1, none⟩ = some (.int .i64 o.imm)
  o2 : w.cell? ⟨X.bo, 2, none⟩ = some (.int .i64 o.keep)
  o3 : w.cell? ⟨X.bo, 3, none⟩ = some (.int .i64 o.cut)
  of : ∀ j, w.frozen? ⟨X.bo, j, none⟩ = false
  p4 : w.cell? ⟨X.bp, 4, none⟩ = some (.slice (some ⟨X.g, 0, none⟩) X.funs.length X.fc)
  k0 : w.cell? ⟨X.bk, 0, none⟩ = some (.slice L.sa s.st.length L.sc)
  k1 : w.cell? ⟨X.bk, 1, none⟩ = some (.slice L.ca s.cs.length L.cc)
  kf : ∀ j, w.frozen? ⟨X.bk, j, none⟩ = false
  m0 : w.cell? ⟨X.g, X.f * 5, none⟩ = some (sv u.params)
  m1 : w.cell? ⟨X.g, X.f * 5 + 1, none⟩ = some (sv u.results)
  m2 : w.cell? ⟨X.g, X.f * 5 + 2, none⟩ = some (sv u.locals)
  m3 : w.cell? ⟨X.g, X.f * 5 + 3, none⟩ = some X.srcv
  m4 : w.cell? ⟨X.g, X.f * 5 + 4, none⟩ = some cv
  gf : ∀ j, w.frozen? ⟨X.g, j, none⟩ = false
  lc : X.bc < w.heap.size
  lo : X.bo < w.heap.size
  lp : X.bp < w.heap.size
  lk : X.bk < w.heap.size
  lg : X.g < w.heap.size
theorem OneL.facts {X : OneP} {w : World} {L : MkL} {cv : Value} {s : Mk} {o : Flat} (h : OneL X w L cv s o) (hX : X.Ok) {u : FunD} (hu : X.funs[X.f]? = some u) : OneF X w L cv s o u := by
  have me := h.me hX hu
  refine { i0 := ?_, i1 := ?_, i2 := ?_, o0 := ?_, o1 := ?_, o2 := ?_, o3 := ?_, of := fun j => h.bo.frozen j, p4 := ?_, k0 := ?_, k1 := ?_, kf := fun j => h.k.here.frozen j, m0 := ?_, m1 := ?_, m2 := ?_, m3 := ?_, m4 := ?_, gf := fun j => h.row.frozenAt j, lc := h.ci.lt, lo := h.bo.lt, lp := h.here.lt, lk := h.k.here.lt, lg := owns_lt h.row X.g rfl }
  · simpa using h.ci.cell 0
  · simpa using h.ci.cell 1
  · simpa using h.ci.cell 2
  · simpa using h.bo.cell 0
  · simpa using h.bo.cell 1
  · simpa using h.bo.cell 2
  · simpa using h.bo.cell 3
  · simpa using h.here.cell 4
  · simpa using h.k.here.cell 0
  · simpa using h.k.here.cell 1
  · simpa [mfunCells] using me 0 (by decide)
  · simpa [mfunCells] using me 1 (by decide)
  · simpa [mfunCells] using me 2 (by decide)
  · simpa [mfunCells] using me 3 (by decide)
  · simpa [mfunCells] using me 4 (by decide)
/-- the body's own function, ahead of the call -/
theorem OneIn.pre {X : OneP} {L : MkL} {cv : Value} {s : Mk} (h : OneIn X L cv s) {u : FunD} (hu : X.funs[X.f]? = some u) :
    X.w0.cell? ⟨X.g, X.f * 5, none⟩ = some (sv u.params) ∧ X.w0.cell? ⟨X.g, X.f * 5 + 2, none⟩ = some (sv u.locals) ∧ X.w0.cell? ⟨X.g, X.f * 5 + 3, none⟩ = some X.srcv ∧ X.g < X.w0.heap.size := by
  have hff := h.ff
  have hvl := h.vl
  have hz : (X.funs.zip (X.vs0.set X.f (X.srcv, cv)))[X.f]? = some (u, (X.srcv, cv)) := by
    rw [List.getElem?_zip_eq_some]
    exact ⟨hu, List.getElem?_set_self (by omega)⟩
  obtain ⟨g, hg, hc⟩ := owns_some h.row (by omega)
  obtain rfl : X.g = g := by simpa using hg
  have a0 := hc (X.f * 5 + 0) (by omega)
  have a2 := hc (X.f * 5 + 2) (by omega)
  have a3 := hc (X.f * 5 + 3) (by omega)
  rw [flatMap_at mfunCells 5 mfunCells_len _ X.f _ _ hz (by omega)] at a0 a2 a3
  exact ⟨by simpa [mfunCells] using a0, by simpa [mfunCells] using a2, by simpa [mfunCells] using a3, owns_lt h.row X.g rfl⟩
/-- 'out.Imm = v' -/
theorem OneL.setImm {X : OneP} {w : World} {L : MkL} {cv : Value} {s : Mk} {o : Flat} (h : OneL X w L cv s o) (hX : X.Ok) (v : Int) : OneL X (w.setCell ⟨X.bo, 1, none⟩ (.int .i64 v)) L cv s { o with imm := v } :=
  h.putO hX (Fr.setCell (S := fun k => k = X.bo) (Fr.refl _ w) (p := ⟨X.bo, 1, none⟩) (.inl rfl) _) (by simpa using h.bo.put 1 (.int .i64 v))
/-- 'out.Op = v' -/
theorem OneL.setOp {X : OneP} {w : World} {L : MkL} {cv : Value} {s : Mk} {o : Flat} (h : OneL X w L cv s o) (hX : X.Ok) (v : Int) : OneL X (w.setCell ⟨X.bo, 0, none⟩ (.int .i64 v)) L cv s { o with op := v } :=
  h.putO hX (Fr.setCell (S := fun k => k = X.bo) (Fr.refl _ w) (p := ⟨X.bo, 0, none⟩) (.inl rfl) _) (by simpa using h.bo.put 0 (.int .i64 v))
/-- 'out = o2' -/
theorem OneL.setAll {X : OneP} {w : World} {L : MkL} {cv : Value} {s : Mk} {o : Flat} (h : OneL X w L cv s o) (hX : X.Ok) (o2 : Flat) : OneL X ((((w.setCell ⟨X.bo, 0, none⟩ (.int .i64 o2.op)).setCell ⟨X.bo, 1, none⟩ (.int .i64 o2.imm)).setCell ⟨X.bo, 2, none⟩ (.int .i64 o2.keep)).setCell ⟨X.bo, 3, none⟩ (.int .i64 o2.cut)) L cv s o2 :=
  h.putO hX (h.bo.put4 _ _ _ _).2 (h.bo.put4 _ _ _ _).1
theorem endsR_els : ∀ (l : List Ins) (j e : Int) (d : Nat), (endsR l j e d).1 = e ∨ (j ≤ (endsR l j e d).1 ∧ (endsR l j e d).1 < j + l.length)
  | [], j, e, d => .inl rfl
  | c :: cs, j, e, d => by
    unfold endsR
    simp only [List.length_cons]
    split
    · have := endsR_els cs (j + 1) e (d + 1); omega
    split
    · have := endsR_els cs (j + 1) (if d = 0 then j else e) d
      split at this <;> split <;> first | omega | (rename_i a b; omega)
    split
    · split
      · exact .inl rfl
      · have := endsR_els cs (j + 1) e (d - 1); omega
    · have := endsR_els cs (j + 1) e d; omega
theorem endsM_range {src : List Ins} {i : Nat} (h : i < src.length) : (-1 ≤ (endsM src i).1 ∧ (endsM src i).1 < src.length) ∧ (0 ≤ (endsM src i).2 ∧ (endsM src i).2 < src.length) := by
  unfold endsM
  have h1 := endsR_els (src.drop (i + 1)) ((i : Int) + 1) (-1) 0
  have h2 := (endsR_range (src.drop (i + 1)) ((i : Int) + 1) (-1) 0 (by omega) (by omega) (by omega))
  have hl : (src.drop (i + 1)).length = src.length - (i + 1) := by simp
  rw [hl] at h1 h2
  omega
/-- behind the append, ahead of the store -/
theorem OneL.mid {X : OneP} {w w1 : World} {L : MkL} {cv : Value} {s : Mk} {o : Flat} (h : OneL X w L cv s o) (hX : X.Ok) {u : FunD} (hu : X.funs[X.f]? = some u) {ob : Obj} (hfr : Fr (fun k => cv.ownBlock = some k) (w.alloc ob) w1) :
    w1.cell? ⟨X.bo, 0, none⟩ = some (.int .i64 o.op) ∧ w1.cell? ⟨X.bo, 1, none⟩ = some (.int .i64 o.imm) ∧ w1.cell? ⟨X.bo, 2, none⟩ = some (.int .i64 o.keep) ∧ w1.cell? ⟨X.bo, 3, none⟩ = some (.int .i64 o.cut) ∧ w1.cell? ⟨X.g, X.f * 5 + 4, none⟩ = some cv ∧ w1.frozen? ⟨X.g, X.f * 5 + 4, none⟩ = false := by
  have hb : Has w1 X.bo _ _ := (h.bo.alloc ob).fr hfr (fun e => h.nb e)
  have ha := h.fresh ((Fr.refl _ w).alloc ob)
  have hrow1 := owns_fr ha.row hfr (fun g hg e => owns_apart ha.row ha.code (by decide) g hg e)
  have hff := hX.ff
  have hvl := hX.vl
  have hz : (X.funs.zip (X.vs0.set X.f (X.srcv, cv)))[X.f]? = some (u, (X.srcv, cv)) := by
    rw [List.getElem?_zip_eq_some]
    exact ⟨hu, List.getElem?_set_self (by omega)⟩
  obtain ⟨g, hg, hc⟩ := owns_some hrow1 (by omega)
  obtain rfl : X.g = g := by simpa using hg
  have a4 := hc (X.f * 5 + 4) (by omega)
  rw [flatMap_at mfunCells 5 mfunCells_len _ X.f _ _ hz (by omega)] at a4
  exact ⟨by simpa using hb.cell 0, by simpa using hb.cell 1, by simpa using hb.cell 2, by simpa using hb.cell 3, by simpa [mfunCells] using a4, hrow1.frozenAt _⟩
/-- what one leaves behind -/
structure OnePost (X : OneP) (r : Mk × Int) (e : Ending) (w' : World) : Prop where
  e : e = .returned (.int .i64 r.2)
  fr : Fr X.S0 X.w0 w'
  ok : r.2 = 0 → ∃ L cv o, OneL X w' L cv r.1 o
/-- what the walk of one instruction is handed -/
structure OneCtx (X : OneP) (L : MkL) (cv : Value) (s : Mk) (E : Env) (i : Nat) (c0 : Ctl) (r0 : List Ctl) : Prop where
  inn : OneIn X L cv s
  ef : E.funs = X.funs
  me : X.funs[X.f]? = some E.me
  hi : X.src[i]? = some X.c
  top : s.Top c0 r0
  sl : X.src.length ≤ 100
  tab : ∀ c ∈ X.src, c.tab.length ≤ 100
  st : s.st.length ≤ 500
  cs : s.cs.length ≤ 500
  code : s.code.length ≤ 500
  fit : ∀ c ∈ s.cs, c.Fit X.src.length
  fl : X.funs.length ≤ 500
  ps : ∀ u ∈ X.funs, u.params.length ≤ 400 ∧ u.results.length ≤ 400 ∧ u.locals.length ≤ 400
/-- where the source instruction lies -/
theorem OneCtx.at {X : OneP} {L : MkL} {cv : Value} {s : Mk} {E : Env} {i : Nat} {c0 : Ctl} {r0 : List Ctl} (h : OneCtx X L cv s E i c0 r0) :
    ∃ gs cap, X.srcv = .slice (some ⟨gs, 0, none⟩) X.src.length cap ∧ gs < X.w0.heap.size ∧ X.w0.cell? ⟨gs, i * 3, none⟩ = some (.int .i64 X.c.op) ∧ X.w0.cell? ⟨gs, i * 3 + 1, none⟩ = some (.int .i64 X.c.imm) ∧ X.w0.cell? ⟨gs, i * 3 + 2, none⟩ = some (sv X.c.tab) ∧ i < X.src.length := by
  have hi : i < X.src.length := (List.getElem?_eq_some_iff.1 h.hi).1
  obtain ⟨a, cap, hsv⟩ : ∃ a cap, X.srcv = .slice a X.src.length cap := by
    rcases h.inn.src.2 with ⟨h1, h2⟩ | ⟨g, cap, cur, h1, _⟩
    · exact ⟨none, 0, by rw [h1, h2]⟩
    · exact ⟨_, _, h1⟩
  have hs := h.inn.src
  rw [hsv] at hs
  obtain ⟨gs, ha, hc⟩ := owns_some hs (by omega)
  subst ha
  have q0 := hc (i * 3 + 0) (by omega)
  have q1 := hc (i * 3 + 1) (by omega)
  have q2 := hc (i * 3 + 2) (by omega)
  rw [insCells_at _ _ _ X.c h.hi (by omega)] at q0 q1 q2
  simp [Ins.cells] at q0 q1 q2
  exact ⟨gs, cap, hsv, owns_lt hs gs rfl, q0, q1, q2, hi⟩
theorem mall_ix (ps ls : List UInt8) (j : Nat) (t : UInt8) (h : (ps ++ ls)[j]? = some t) (hh : j < ((⟨ps.toArray⟩ : ByteArray) ++ (⟨ls.toArray⟩ : ByteArray)).size) : ((⟨ps.toArray⟩ : ByteArray) ++ (⟨ls.toArray⟩ : ByteArray))[j]'hh = t := by
  have e : ((⟨ps.toArray⟩ : ByteArray) ++ (⟨ls.toArray⟩ : ByteArray)) = ⟨(ps ++ ls).toArray⟩ := by
    apply ByteArray.ext
    rw [ByteArray.data_append]
    simp
  have h2 : ∀ (b : ByteArray), b = ⟨(ps ++ ls).toArray⟩ → ∀ hb : j < b.size, b[j]'hb = t := by
    rintro b rfl hb
    have hj : j < (ps ++ ls).length := (List.getElem?_eq_some_iff.1 h).1
    have : (ps ++ ls)[j] = t := (List.getElem?_eq_some_iff.1 h).2
    exact this
  exact h2 _ e hh
theorem rowCtl : IsRow Tryz.prog 133 132 (.agg #[.int .i64 0, .int .i64 0, .int .i64 0, .int .i64 0, .bool false]) 5 40 := ⟨by kernel_rfl, by kernel_rfl, rfl, by decide⟩
theorem Mk.kill_code (s : Mk) : s.kill.code = s.code := by unfold Mk.kill; split <;> rfl
theorem Mk.Top.fit {s : Mk} {c0 : Ctl} {r0 : List Ctl} (h : s.Top c0 r0) {n : Nat} (hf : ∀ c ∈ s.cs, c.Fit n) : c0.Fit n := hf c0 (by rw [h.cs]; simp)
end Go.Proofs.Qxb6500575aGreatDoor
