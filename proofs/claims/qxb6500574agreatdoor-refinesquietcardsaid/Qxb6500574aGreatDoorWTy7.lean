/-
  moon: typed frames through an instruction, a round, all rounds, the driver: COMPILED CODE NEVER TRAPS BY ITSELF. Plain; no memory, no walk.
-/
import Derived.Test.Qxb6500574aGreatDoorWTy6
namespace Go.Proofs.Qxb6500574aGreatDoor
set_option linter.unusedVariables false
set_option linter.unusedSimpArgs false
section
variable {S : Nat → Nat → Ty → Prop} {K K' : Cx} {m m' m1 : VMD} {i : Nat} {t t1 : ThD} {f : FmD} {a b : Ty}
def InTy (S : Nat → Nat → Ty → Prop) (i : Nat) (r : RR EvD) : Prop :=
  (∀ e, r.1 = .inl (.inr e) → e ≠ 11) ∧ (∀ v, r.1 = .inl (.inl v) → TIl S r.2 i) ∧ (∀ ev, r.1 = .inr ev → TI S r.2)
theorem InTy.thr {v : Vl} (h : TIl S m1 i) : InTy S i (.inl (.inl v), m1) := ⟨(fun e' he => by cases he), fun v _ => h, (fun ev he => by cases he)⟩
theorem InTy.ok {ev : EvD} (h : TI S m1) : InTy S i (.inr ev, m1) := ⟨(fun e' he => by cases he), (fun v he => by cases he), fun _ _ => h⟩
/-- what a builtin does to a machine -/
structure BuS (m m1 : VMD) : Prop where
  tx : TxtT m m1
  ce : m1.cells = m.cells
  old : ∀ (j : Nat) (u : ThD), m.ths[j]? = some u → m1.ths[j]? = some u
  new : ∀ (j : Nat) (u : ThD), m1.ths[j]? = some u → m.ths[j]? = some u ∨ u.frames = []
theorem BuS.refl (m : VMD) : BuS m m := ⟨TxtT.refl m, rfl, fun _ _ h => h, fun _ _ h => .inl h⟩
structure BuT (m : VMD) (r : RR (Vl × Vl)) : Prop where
  tr : ∀ e, r.1 = .inl (.inr e) → e ≠ 11
  fl : ∀ v, r.1 = .inl (.inl v) → r.2 = m
  bu : BuS m r.2
theorem BuT.trap (m : VMD) {e : Nat} (h : e ≠ 11) : BuT m (trapR e m) := ⟨(fun e' he => by cases he; exact h), (fun v he => by cases he), BuS.refl m⟩
theorem BuT.thr (m : VMD) (s : Bs) : BuT m (thrR s m) := ⟨(fun e' he => by cases he), (fun v he => rfl), BuS.refl m⟩
theorem BuT.fly (m : VMD) (v : Vl) : BuT m (.inl (.inl v), m) := ⟨(fun e' he => by cases he), (fun v he => rfl), BuS.refl m⟩
theorem BuT.ok (m : VMD) (v : Vl × Vl) : BuT m (.inr v, m) := ⟨(fun e' he => by cases he), (fun v he => by cases he), BuS.refl m⟩
theorem BuT.out (m : VMD) (v : Vl × Vl) (o : Bs) : BuT m (.inr v, { m with out := o }) := ⟨(fun e he => by cases he), (fun v he => by cases he), ⟨rfl, rfl, rfl, rfl, fun _ _ => rfl, Nat.le_refl _⟩, rfl, fun _ _ h => h, fun _ _ h => .inl h⟩
theorem BuT.spawn (m : VMD) (v : Vl × Vl) (n : Nat) : BuT m (.inr v, spawn m n) := by
  refine ⟨(fun e he => by cases he), (fun v he => by cases he), ⟨rfl, rfl, rfl, rfl, fun _ _ => rfl, Nat.le_refl _⟩, rfl, fun j u h => ?_, fun j u h => ?_⟩
  · simp only [Go.Proofs.Qxb6500574aGreatDoor.spawn]
    rw [List.getElem?_append_left (List.getElem?_eq_some_iff.1 h).1]
    exact h
  · simp only [Go.Proofs.Qxb6500574aGreatDoor.spawn] at h
    by_cases hl : j < m.ths.length
    · rw [List.getElem?_append_left hl] at h
      exact .inl h
    · rw [List.getElem?_append_right (by omega)] at h
      have := (List.getElem?_eq_some_iff.1 h).1
      simp at this
      rw [show j - m.ths.length = 0 by omega] at h
      simp at h
      rw [← h]
      exact .inr rfl
theorem builtin_bus (m : VMD) (b : Nat) (a0 a1 : Vl) : BuT m (builtinP m b a0 a1) := by
  unfold builtinP
  dsimp only
  repeat' (first | with_reducible exact BuT.thr _ _ | with_reducible exact BuT.ok _ _ | with_reducible exact BuT.fly _ _ | with_reducible exact BuT.trap _ (by decide) | with_reducible exact BuT.out _ _ _ | with_reducible exact BuT.spawn _ _ _ | split)
theorem Run.call (h : Run S K m i t f a) {x : Nat} (hx : x ≤ 3) (h1 : x + 1 ≤ a.h) (g : Goes (S (m.clos.getD f.clo cl0).p) (f.pc + 1) { a with h := a.h + 1 - x, t := false }) : InTy S i (callP m i x) := by
  have hh := h.hh
  have hlt := (List.getElem?_eq_some_iff.1 h.at_.hf).1
  unfold callP
  dsimp only
  rw [h.at_.topF]
  have hi2 : (setPc m i (f.pc + 1)).ths[i]? = some { t with frames := t.frames.set (t.frames.length - 1) { f with pc := f.pc + 1 } } := setPc_get h.at_.hi h.at_.hf _
  have st2 : Stay m (setPc m i (f.pc + 1)) i := Stay.setPc m i _
  generalize hm2 : setPc m i (f.pc + 1) = m2 at hi2 st2 ⊢
  rw [th_get hi2]
  generalize hpos : t.stack.length - x - 1 = pos
  have T := h.at_.ok
  have vargs : ∀ v ∈ t.stack.drop (pos + 1), VOk K v := fun v hv => T.sv v (List.mem_of_mem_drop hv)
  have vfn : VOk K (t.stack.getD pos nilV) := getD_ok T.sv _
  have va0 : VOk K ((t.stack.drop (pos + 1)).getD 0 nilV) := getD_ok vargs 0
  dsimp only
  generalize t.stack.getD pos nilV = fn at vfn ⊢
  generalize t.stack.drop (pos + 1) = args at vargs va0 ⊢
  generalize args.getD 0 nilV = a0 at va0 ⊢
  generalize args.getD 1 nilV = a1
  have fl : ∀ v : Vl, InTy S i (.inl (.inl v), m2) := fun v => InTy.thr (h.at_.thr h.tc h.ti h.ot st2 hi2 (by simp) (fun j hj => by simp only; rw [List.getElem?_set_ne (by omega)]) (fun g hg => by simp only at hg; rw [List.getElem?_set_self hlt] at hg; cases hg; rfl) (fun q hq => rfl))
  have two : ∀ (m3 : VMD) (v w : Vl), BuS m2 m3 → InTy S i (.inr ev0, Go.Proofs.Qxb6500574aGreatDoor.push (cut m3 i pos) i [v, w]) := by
    intro m3 v w B
    have hi3 := B.old i _ hi2
    have se3 : SeenT m m3 i := ⟨st2.tx.trans B.tx, fun c ce j _ k1 k2 => ⟨c, ce, by rw [← st2.ce, ← B.ce]; exact k1, k2, rfl⟩, fun j u hj hu => by
      rcases B.new j u hu with e | e
      · rw [st2.ot j hj] at e
        exact .inr ⟨u, e, rfl, rfl, rfl, h.ot j u hj e, fun _ _ => rfl⟩
      · exact .inl e⟩
    refine InTy.ok ?_
    rw [cut_is hi3, push_is (setTh_get hi3), setTh_setTh]
    have s4 := Stay.setTh m3 i { t with stack := t.stack.take pos ++ [v, w], frames := t.frames.set (t.frames.length - 1) { f with pc := f.pc + 1 } }
    refine h.aft (m' := m3.setTh i { t with stack := t.stack.take pos ++ [v, w], frames := t.frames.set (t.frames.length - 1) { f with pc := f.pc + 1 } }) ⟨se3.tx.trans s4.tx, se3.ce, fun j u hj hu => se3.ot j u hj (by rw [← s4.ot j hj]; exact hu)⟩ (B.ce.trans st2.ce) (setTh_get hi3) rfl (fun q hq => ?_) g ⟨rfl, rfl, rfl⟩ ?_
    · simp only
      rw [gd_app (by rw [List.length_take]; omega), gd_take (by omega)]
    · simp only [h.at_.st, if_true, List.length_append, List.length_take, List.length_cons, List.length_nil]
      omega
  have en : ∀ (c : Nat) (as : List Vl) (p : Bool), c < K.nc → InTy S i (.inr ev0, Go.Proofs.Qxb6500574aGreatDoor.enter m2 i c as pos p) := fun c as p hc => InTy.ok (h.enter (b := { a with h := a.h + 1 - x, t := false }) (t2 := t) hc as hm2.symm (by simp only; omega) g ⟨rfl, rfl, rfl⟩)
  have sl : ∀ (ev : EvD) (s : Nat), s ≠ 4 → InTy S i (.inr ev, m2.setTh i { t with st := s, stack := t.stack.take pos, frames := t.frames.set (t.frames.length - 1) { f with pc := f.pc + 1 } }) := by
    intro ev s hs
    refine InTy.ok ?_
    have s3 := st2.trans (Stay.setTh m2 i { t with st := s, stack := t.stack.take pos, frames := t.frames.set (t.frames.length - 1) { f with pc := f.pc + 1 } })
    refine h.aft (s3.seen h.ot) s3.ce (setTh_get hi2) rfl (fun q hq => ?_) g ⟨rfl, rfl, rfl⟩ ?_
    · simp only
      rw [gd_take (by omega)]
    · simp only [hs, if_false, List.length_take]
      omega
  have tr : ∀ (e : Nat) (m3 : VMD), e ≠ 11 → InTy S i (.inl (.inr e), m3) := fun e m3 he => ⟨(fun e' h => by cases h; exact he), (fun v h => by cases h), (fun v h => by cases h)⟩
  split
  · rename_i h5
    split
    · exact fl _
    · exact en _ _ _ (vfn.c h5)
  · split
    · exact fl _
    · split
      · split
        · rename_i hq
          exact en _ _ _ (va0.c hq.1)
        · exact two _ _ _ (BuS.refl _)
      · split
        · split
          · exact fl _
          · split
            · exact sl _ 3 (by decide)
            · exact two _ _ _ (BuS.refl _)
        · split
          · split
            · exact fl _
            · exact sl _ 2 (by decide)
          · obtain ⟨b1, b0, b2⟩ := builtin_bus m2 fn.n a0 a1
            generalize hr : builtinP m2 fn.n a0 a1 = r at b1 b0 b2 ⊢
            obtain ⟨r1, m3⟩ := r
            cases r1 with
            | inl x =>
              cases x with
              | inl v =>
                dsimp only
                have e3 : m3 = m2 := b0 v rfl
                rw [e3]
                exact fl v
              | inr e => exact tr e m3 (b1 e rfl)
            | inr p => exact two m3 p.1 p.2 b2
end
end Go.Proofs.Qxb6500574aGreatDoor
