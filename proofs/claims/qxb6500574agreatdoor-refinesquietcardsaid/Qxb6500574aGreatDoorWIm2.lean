/-
  moon: THE IMAGE OF A SOUND TEXT LOADS, and its code is typed. Plain; no memory, no walk.
-/
import Derived.Test.Qxb6500574aGreatDoorWIm
import Derived.Test.Qxb6500574aGreatDoorWTy10
namespace Go.Proofs.Qxb6500574aGreatDoor
set_option linter.unusedVariables false
set_option linter.unusedSimpArgs false
section
variable {N : List Nd} {D : CmD} {b : Nat}
theorem DI2.one (h : DI2 N D b) (hN : N.length ≤ 301) {g : Nat} (hg : g ≤ b) : FnR1 (D.fn g) ∧ (D.fn g).ups.length ≤ 144 := by
  have hu := h.ups g hg
  have hb := h.b12
  have hnp := h.np
  by_cases e : g = 0
  · subst e
    obtain ⟨f1, f2, f3, f4, f5, f6, f7, f8, f9, f10, f11⟩ := h.f0
    refine ⟨⟨by omega, by omega, f6, by omega, (by rw [f2]; intro d hd; cases hd), by omega, f7.ok, by omega, fun i hi => ?_⟩, by omega⟩
    have := (f8 i hi).room (by omega) f6 (by omega) (by omega) (by omega)
    omega
  · have F := h.fn g (by omega) hg
    have c1 := F.cl
    have c2 := F.kl
    obtain ⟨f, L, p1, p2, p3, p4, p5⟩ := F.par
    have hf := h.ups f (by omega)
    have n12 : (D.fn f).nslots ≤ 12 := by
      by_cases e : f = 0
      · subst e; exact h.f0.2.2.2.2.2.1
      · exact (h.fn f (by omega) (by omega)).n12
    refine ⟨⟨F.np3, F.npn, F.n12, by omega, fun d hd => ?_, by omega, F.cn.ok, by omega, fun i hi => ?_⟩, by omega⟩
    · rcases p5 d hd with ⟨x, s, _, y⟩ | x
      · have := (List.getElem?_eq_some_iff.1 y).1
        omega
      · omega
    · have := (F.ft i hi).room (by omega) F.n12 (by omega) (by omega) (by omega)
      omega
theorem DI2.at (h : DI2 N D b) {p : Nat} (hp : p < D.np) : (D.fns.take D.np)[p]? = some (D.fn p) := by
  have := h.len
  have := h.np
  have := h.b12
  rw [List.getElem?_take_of_lt hp]
  unfold CmD.fn
  rw [List.getD_eq_getElem?_getD, List.getElem?_eq_getElem (by omega)]
  rfl
theorem DI2.tlen (h : DI2 N D b) : (D.fns.take D.np).length = D.np := by
  have := h.len
  have := h.np
  have := h.b12
  rw [List.length_take]
  omega
theorem DI2.mem (h : DI2 N D b) {f : FnD} (hf : f ∈ D.fns.take D.np) : ∃ p, p ≤ b ∧ D.fn p = f := by
  obtain ⟨p, hp⟩ := List.getElem?_of_mem hf
  have hl := (List.getElem?_eq_some_iff.1 hp).1
  rw [h.tlen] at hl
  have hnp := h.np
  rw [h.at hl] at hp
  exact ⟨p, by omega, by cases hp; rfl⟩
theorem layC_len {v : Vl} (h : v.ok) : (layC v).length ≤ 42 := by
  rcases h with ⟨e, _⟩ | ⟨e, h1⟩
  · rw [e]
    have : layC (numV v.n) = 1 :: put64 v.n := rfl
    rw [this, List.length_cons, put64_len]
    decide
  · rw [e]
    have : layC (strV v.s) = 2 :: byteN v.s.length :: v.s := rfl
    rw [this, List.length_cons, List.length_cons]
    omega
theorem flatm_len {α : Type} (u : α → Bs) (k : Nat) : ∀ l : List α, (∀ x ∈ l, (u x).length ≤ k) → (l.flatMap u).length ≤ k * l.length := by
  intro l
  induction l with
  | nil => intro _; simp
  | cons x l ih =>
    intro h
    have := ih fun y hy => h y (by simp [hy])
    have := h x (by simp)
    simp only [List.flatMap_cons, List.length_append, List.length_cons, Nat.mul_add, Nat.mul_one]
    omega
theorem layF_len {f : FnD} (h : FnR1 f) (hu : f.ups.length ≤ 144) : (layF f).length ≤ 295 + wtF f := by
  unfold layF wtF
  simp only [List.length_append, List.length_cons, List.length_nil]
  have h1 := flatm_len (fun d : Nat × Nat => [byteN d.1, byteN d.2]) 2 f.ups (fun _ _ => by simp)
  have h2 := flatm_len layC 42 f.consts (fun v hv => layC_len (h.ks v hv))
  have h3 := flatm_len (fun i : Nat × Nat => byteN i.1 :: put16 i.2) 3 f.code (fun _ _ => by simp [put16])
  simp only [put16, List.length_cons, List.length_nil] at *
  omega
theorem lay_len : ∀ l : List FnD, (∀ f ∈ l, FnR1 f ∧ f.ups.length ≤ 144) → (l.flatMap layF).length ≤ 295 * l.length + (l.map wtF).sum := by
  intro l
  induction l with
  | nil => intro _; simp
  | cons f l ih =>
    intro h
    have h1 := ih fun y hy => h y (by simp [hy])
    obtain ⟨a, c⟩ := h f (by simp)
    have h2 := layF_len a c
    simp only [List.flatMap_cons, List.length_append, List.length_cons, Nat.mul_add, Nat.mul_one, List.map_cons, List.sum_cons]
    omega
/-- the image is read back -/
theorem DI2.image (h : DI2 N D b) (hN : N.length ≤ 301) (hw : wtC D ≤ 93 * (N.length - 1) + 12) : (layP D).length ≤ 31748 ∧ decodeP (layP D) = some ((D.fns.take D.np).foldl addF ⟨[], [], [], []⟩) := by
  have hnp := h.np
  have hb := h.b12
  have hall : ∀ f ∈ D.fns.take D.np, FnR1 f ∧ f.ups.length ≤ 144 := fun f hf => by
    obtain ⟨p, h1, rfl⟩ := h.mem hf
    exact h.one hN h1
  constructor
  · have h1 := lay_len _ hall
    rw [h.tlen] at h1
    have h2 : ((D.fns.take D.np).map wtF).sum ≤ wtC D := by
      unfold wtC
      conv => rhs; rw [← List.take_append_drop D.np D.fns]
      rw [List.map_append, List.sum_append]
      omega
    unfold layP
    rw [List.length_cons]
    omega
  · unfold layP decodeP
    simp only
    have e1 : (byteN D.np).toNat = D.np := by rw [byteN_nat]; omega
    rw [e1, if_neg (by omega)]
    have := protos_back (D.fns.take D.np) ⟨[], [], [], []⟩ [] (fun f hf => (hall f hf).1)
    rw [h.tlen, List.append_nil] at this
    rw [this]
    simp only
    obtain ⟨q, q1, q2, q3, q4, _⟩ := fold_at (D.fns.take D.np) ⟨[], [], [], []⟩ 0 (D.fn 0) (h.at (by omega))
    have e2 : ((D.fns.take D.np).foldl addF ⟨[], [], [], []⟩).protos.getD 0 pr0 = q := by
      rw [List.getD_eq_getElem?_getD]
      simp only [List.length_nil, Nat.zero_add] at q1
      rw [q1]
      rfl
    rw [e2, if_neg (by simp), if_pos ⟨by rw [q2]; exact h.f0.1, by rw [q4, h.f0.2.1]; rfl⟩]
/-- the loaded machine sees the compiler's functions -/
theorem DI2.fx (h : DI2 N D b) {p : Nat} (hp : p < D.np) : fxOf (loadM ((D.fns.take D.np).foldl addF ⟨[], [], [], []⟩)) p = fxD D p ∧ ((loadM ((D.fns.take D.np).foldl addF ⟨[], [], [], []⟩)).protos.getD p pr0).np = (D.fn p).np := by
  have key : ∀ x, x < D.np → ∃ q, ((D.fns.take D.np).foldl addF ⟨[], [], [], []⟩).protos[x]? = some q ∧ q.np = (D.fn x).np ∧ q.ns = (D.fn x).nslots ∧ q.nup = (D.fn x).ups.length ∧ (((D.fns.take D.np).foldl addF ⟨[], [], [], []⟩).descs.drop q.up).take q.nup = (D.fn x).ups ∧ (((D.fns.take D.np).foldl addF ⟨[], [], [], []⟩).consts.drop q.k).take q.nk = (D.fn x).consts ∧ (((D.fns.take D.np).foldl addF ⟨[], [], [], []⟩).code.drop q.code).take q.nc = (D.fn x).code := by
    intro x hx
    have := fold_at (D.fns.take D.np) ⟨[], [], [], []⟩ x (D.fn x) (h.at hx)
    simpa using this
  have hlen := (fold_pre (D.fns.take D.np) ⟨[], [], [], []⟩).2.2.2.2
  rw [h.tlen] at hlen
  simp only [List.length_nil, Nat.zero_add] at hlen
  generalize (D.fns.take D.np).foldl addF ⟨[], [], [], []⟩ = im at *
  obtain ⟨q, q1, q2, q3, q4, q5, q6, q7⟩ := key p hp
  have e : (loadM im).protos.getD p pr0 = q := by
    show im.protos.getD p pr0 = q
    rw [List.getD_eq_getElem?_getD, q1]
    rfl
  refine ⟨?_, by rw [e]; exact q2⟩
  unfold fxOf fxD
  rw [e]
  have ech : (fun x => ((loadM im).protos[x]?).map fun r => ((loadM im).descs.drop r.up).take r.nup) = fun x => if x < D.np then some (D.fn x).ups else none := by
    funext x
    show (im.protos[x]?).map (fun r => (im.descs.drop r.up).take r.nup) = _
    by_cases hx : x < D.np
    · obtain ⟨q', r1, _, _, _, r5, _⟩ := key x hx
      rw [if_pos hx, r1]
      simp only [Option.map_some]
      rw [r5]
    · rw [if_neg hx, List.getElem?_eq_none (by omega)]
      rfl
  simp only
  rw [ech, q3, q4, show ((loadM im).consts.drop q.k).take q.nk = (D.fn p).consts from q6, show ((loadM im).code.drop q.code).take q.nc = (D.fn p).code from q7]
end
theorem tree_zero {src : Bs} {N : List Nd} {root : Nat} (h : treeP src = .inr (N, root)) : (N.getD 0 nd0).k = 0 ∧ src.length ≤ 2048 := by
  unfold treeP at h
  split at h
  · cases h
  · rename_i hl
    dsimp only at h
    split at h
    · cases h
    · rename_i x hx
      have ok : SOk ⟨0, 0, 0, 0, [nd0]⟩ := ⟨by decide, by decide, by decide⟩
      have B := (PA.all (scan_tok src) _).p9 _ _ _ _ ok hx (by decide)
      split at h
      · cases h
      · split at h
        · cases h
        · cases h
          have := B.kp.old 0 (by decide)
          rw [this]
          exact ⟨rfl, by omega⟩
/-- THE IMAGE OF A SOUND TEXT -/
theorem image_ok {src img : Bs} (h : imageP src = .inr img) : ∃ im S, 1 ≤ img.length ∧ img.length ≤ 31748 ∧ decodeP img = some im ∧ TC S (loadM im) := by
  unfold imageP at h
  split at h
  · cases h
  · rename_i x hx
    obtain ⟨N, root⟩ := x
    cases h
    have T := tree_shape hx
    obtain ⟨h0, hl⟩ := tree_zero hx
    obtain ⟨b, l, al', C, hc, hs⟩ := com_ok T h0
    have F := com_fits T.le h0 C hc hs
    obtain ⟨i1, i2⟩ := F.image T.le (com_wt T h0)
    have ty := com_typed h0 C hc hs
    have hnp := F.np
    simp only at *
    generalize comP N root = D at *
    refine ⟨_, fun p pc a => p < D.np ∧ Gd (fxD D p) (fun _ _ => False) pc a, by simp [layP], i1, i2, ⟨fun p pc a hS => ?_, fun p hp => ?_⟩⟩
    · obtain ⟨e1, _⟩ := F.fx hS.1
      rw [e1]
      exact hS.2.out.mono fun q c x => ⟨hS.1, x⟩
    · have hp' : p < D.np := by
        have := (fold_pre (D.fns.take D.np) ⟨[], [], [], []⟩).2.2.2.2
        rw [F.tlen] at this
        have hp : p < ((D.fns.take D.np).foldl addF ⟨[], [], [], []⟩).protos.length := hp
        simp only [List.length_nil, Nat.zero_add] at this
        omega
      obtain ⟨_, e2⟩ := F.fx hp'
      rw [e2]
      exact Goes.mono (fun q c x => ⟨hp', x⟩) (ty p hp').out
/-- it never ends with ErrCode -/
theorem image_run {src img : Bs} (h : imageP src = .inr img) {n : Nat} {A : Int} {an : AnD} (hr : runN n img A = some an) : an.e ≠ 11 := by
  obtain ⟨im, S, h1, h2, h3, h4⟩ := image_ok h
  exact run_ty (by omega) h3 h4 hr
end Go.Proofs.Qxb6500574aGreatDoor
