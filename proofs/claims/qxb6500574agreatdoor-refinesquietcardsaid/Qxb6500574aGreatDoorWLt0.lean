/-
  moon: CODE THAT IS LAID OUT IS TYPED: the ground. Plain; no memory, no walk.
-/
import Derived.Test.Qxb6500574aGreatDoorWCo11
import Derived.Test.Qxb6500574aGreatDoorWTy
namespace Go.Proofs.Qxb6500574aGreatDoor
set_option linter.unusedVariables false
set_option linter.unusedSimpArgs false
theorem ite_mono {p : Prop} [Decidable p] {a b a' b' : Prop} (h : a → a') (g : b → b') (x : if p then a else b) : if p then a' else b' := by
  split at x
  · rename_i hp; rw [if_pos hp]; exact h x
  · rename_i hp; rw [if_neg hp]; exact g x
theorem opOk_mono {X : Fx} {pc op x : Nat} {a : Ty} {K K' : Nat → Ty → Prop} (h : ∀ p b, K p b → K' p b) (g : opOk X pc op x a K) : opOk X pc op x a K' := by
  unfold opOk at *
  refine ite_mono (fun z => ⟨z.1, z.2.1, h _ _ z.2.2⟩) ?_ g
  refine ite_mono (fun z => ⟨z.1, h _ _ z.2⟩) ?_
  refine ite_mono (fun z => ⟨z.1, z.2.1, h _ _ z.2.2⟩) ?_
  refine ite_mono (fun z => ⟨z.1, z.2.1, z.2.2.1, h _ _ z.2.2.2⟩) ?_
  refine ite_mono (fun z => ⟨z.1, z.2.1, h _ _ z.2.2⟩) ?_
  refine ite_mono (fun z => ⟨z.1, z.2.1, h _ _ z.2.2⟩) ?_
  refine ite_mono (fun z => ⟨z.1, z.2.1, z.2.2.1, h _ _ z.2.2.2⟩) ?_
  refine ite_mono (fun z => ⟨z.1, z.2.1, z.2.2.1, h _ _ z.2.2.2⟩) ?_
  refine ite_mono (fun z => ⟨z.1, h _ _ z.2⟩) ?_
  refine ite_mono (fun z => ⟨z.1, h _ _ z.2⟩) ?_
  refine ite_mono (fun z => ⟨z.1, z.2.1, z.2.2.1, h _ _ z.2.2.2⟩) ?_
  refine ite_mono (fun z => ⟨z.1, z.2.1, z.2.2.1, h _ _ z.2.2.2⟩) ?_
  refine ite_mono (fun z => ⟨z.1, h _ _ z.2⟩) ?_
  refine ite_mono (fun z => ⟨z.1, h _ _ z.2⟩) ?_
  refine ite_mono (fun z => ⟨z.1, z.2.1, h _ _ z.2.2.1, h _ _ z.2.2.2⟩) ?_
  refine ite_mono (fun z => ⟨z.1, z.2.1, h _ _ z.2.2.1, h _ _ z.2.2.2⟩) ?_
  refine ite_mono (fun z => ⟨z.1, h _ _ z.2⟩) ?_
  refine ite_mono (fun z => ⟨z.1, z.2.1, z.2.2.1, h _ _ z.2.2.2⟩) ?_
  refine ite_mono (fun z => z) ?_
  refine ite_mono (fun z => ⟨z.1, z.2.1, h _ _ z.2.2⟩) ?_
  refine ite_mono (fun z => ⟨z.1, h _ _ z.2⟩) ?_
  refine ite_mono (fun z => ⟨z.1, z.2.1, h _ _ z.2.2⟩) ?_
  refine ite_mono (fun z => ⟨z.1, z.2.1, z.2.2.1, h _ _ z.2.2.2⟩) ?_
  refine ite_mono (fun z => ⟨z.1, z.2.1, z.2.2.1, h _ _ z.2.2.2⟩) ?_
  exact fun z => z
theorem Goes.mono {S S' : Nat → Ty → Prop} (h : ∀ p b, S p b → S' p b) {p : Nat} {a : Ty} (g : Goes S p a) : Goes S' p a := by
  obtain ⟨b, h1, h2⟩ := g; exact ⟨b, h1, h _ _ h2⟩
theorem OkI.mono {X : Fx} {pc : Nat} {a : Ty} {S S' : Nat → Ty → Prop} (h : ∀ p b, S p b → S' p b) (g : OkI X pc a S) : OkI X pc a S' := ⟨g.wf, g.hl, g.lt, opOk_mono (fun p b x => x.mono h) g.ok⟩
/-- typed from here on, given that R is -/
def Gd (X : Fx) (R : Nat → Ty → Prop) (pc : Nat) (a : Ty) : Prop := ∃ S : Nat → Ty → Prop, S pc a ∧ ∀ p b, S p b → OkI X p b (fun p b => S p b ∨ R p b)
def Kt (X : Fx) (R : Nat → Ty → Prop) (pc : Nat) (a : Ty) : Prop := Goes (fun p b => Gd X R p b ∨ R p b) pc a
section
variable {X : Fx} {R R' : Nat → Ty → Prop} {pc : Nat} {a b : Ty}
theorem Gd.mono (h : ∀ p b, R p b → R' p b) (g : Gd X R pc a) : Gd X R' pc a := by
  obtain ⟨S, h1, h2⟩ := g
  exact ⟨S, h1, fun p b hs => (h2 p b hs).mono fun p b x => x.imp id (h p b)⟩
theorem Kt.mono (h : ∀ p b, R p b → R' p b) (g : Kt X R pc a) : Kt X R' pc a := Goes.mono (fun p b x => x.imp (fun y => y.mono h) (h p b)) g
theorem Kt.sub (s : Sub a b) (g : Kt X R pc b) : Kt X R pc a := by
  obtain ⟨c, h1, h2⟩ := g; exact ⟨c, s.trans h1, h2⟩
theorem Gd.step (h : OkI X pc a (fun p b => Gd X R p b ∨ R p b)) : Gd X R pc a := by
  refine ⟨fun p b => Gd X R p b ∨ (p = pc ∧ b = a), .inr ⟨rfl, rfl⟩, fun p b hs => ?_⟩
  rcases hs with hs | ⟨rfl, rfl⟩
  · obtain ⟨S, h1, h2⟩ := hs
    exact (h2 p b h1).mono fun p b x => x.imp (fun y => .inl ⟨S, y, h2⟩) id
  · exact h.mono fun p b x => x.imp .inl id
theorem Gd.out (h : Gd X (fun _ _ => False) pc a) : OkI X pc a (Gd X (fun _ _ => False)) := by
  obtain ⟨S, h1, h2⟩ := h
  exact (h2 _ _ h1).mono fun p b x => x.elim (fun y => ⟨S, y, h2⟩) (fun y => y.elim)
theorem Kt.out (h : Kt X (fun _ _ => False) pc a) : Goes (Gd X (fun _ _ => False)) pc a := Goes.mono (fun p b x => x.elim id (fun y => y.elim)) h
/-- a loop's head -/
theorem Kt.loop (h : OkI X pc a (fun p b => Gd X (fun p b => R p b ∨ (p = pc ∧ b = a)) p b ∨ (R p b ∨ (p = pc ∧ b = a)))) : Kt X R pc a := by
  have g : Gd X (fun p b => R p b ∨ (p = pc ∧ b = a)) pc a := Gd.step h
  obtain ⟨S, h1, h2⟩ := g
  refine ⟨a, Sub.refl a, .inl ⟨S, h1, fun p b hs => (h2 p b hs).mono fun p b x => ?_⟩⟩
  rcases x with x | x | ⟨rfl, rfl⟩
  · exact .inl x
  · exact .inr x
  · exact .inl h1
/-- types that fit a function -/
structure Wf (X : Fx) (hid : List Bool) (F : List Nat) : Prop where
  F : ∀ b ∈ F, ∀ e, e < 3 → hid[b + e]? = some true
  l : hid.length ≤ X.ns
def ty (h : Nat) (hid : List Bool) (F : List Nat) : Ty := ⟨h, hid, F, false⟩
variable {hid hid' : List Bool} {F : List Nat} {h op x : Nat} {t : Bool}
theorem Wf.le (w : Wf X hid F) {b : Nat} (hb : b ∈ F) : b + 3 ≤ hid.length := by
  have := (List.getElem?_eq_some_iff.1 (w.F b hb 2 (by omega))).1
  omega
theorem Kt.go (w : Wf X hid F) (hh : h ≤ 128) (hc : X.code[pc]? = some (op, x)) (ok : opOk X pc op x ⟨h, hid, F, t⟩ (Kt X R)) : Kt X R pc ⟨h, hid, F, t⟩ := by
  refine ⟨_, Sub.refl _, .inl (Gd.step ⟨⟨hh, w.F⟩, w.l, (List.getElem?_eq_some_iff.1 hc).1, ?_⟩)⟩
  have e : X.code.getD pc (0, 0) = (op, x) := by rw [List.getD_eq_getElem?_getD, hc]; rfl
  rw [e]
  exact ok
theorem Kt.goL (w : Wf X hid F) (hh : h ≤ 128) (hc : X.code[pc]? = some (op, x)) (ok : opOk X pc op x ⟨h, hid, F, t⟩ (Kt X (fun p b => R p b ∨ (p = pc ∧ b = ⟨h, hid, F, t⟩)))) : Kt X R pc ⟨h, hid, F, t⟩ := by
  refine Kt.loop ⟨⟨hh, w.F⟩, w.l, (List.getElem?_eq_some_iff.1 hc).1, ?_⟩
  have e : X.code.getD pc (0, 0) = (op, x) := by rw [List.getD_eq_getElem?_getD, hc]; rfl
  rw [e]
  exact ok
theorem sub_ty (h : Nat) (hp : hid <+: hid') (F : List Nat) (t : Bool) : Sub ⟨h, hid, F, t⟩ (ty h hid' F) := ⟨rfl, hp, fun _ z => z, fun z => by cases z⟩
/-! ### one instruction each -/
theorem k_push (w : Wf X hid F) (hh : h + 1 ≤ 128) (hc : X.code[pc]? = some (op, x)) (ho : op = 2 ∨ op = 3 ∨ op = 4 ∨ op = 14) (k : Kt X R (pc + 1) (ty (h + 1) hid F)) : Kt X R pc (ty h hid F) := by
  refine Kt.go w (by omega) hc ?_
  have : opOk X pc op x ⟨h, hid, F, false⟩ (Kt X R) = (h + 1 ≤ 128 ∧ Kt X R (pc + 1) (ty (h + 1) hid F)) := by
    rcases ho with rfl | rfl | rfl | rfl <;> rfl
  rw [this]
  exact ⟨hh, k⟩
theorem k_const {v : Vl} (w : Wf X hid F) (hh : h + 1 ≤ 128) (hc : X.code[pc]? = some (1, x)) (hx : X.consts[x]? = some v) (k : Kt X R (pc + 1) (ty (h + 1) hid F)) : Kt X R pc (ty h hid F) :=
  Kt.go w (by omega) hc ⟨(List.getElem?_eq_some_iff.1 hx).1, hh, k⟩
theorem k_getl (w : Wf X hid F) (hh : h + 1 ≤ 128) (hc : X.code[pc]? = some (5, x)) (hx : x < X.ns) (k : Kt X R (pc + 1) (ty (h + 1) hid F)) : Kt X R pc (ty h hid F) :=
  Kt.go w (by omega) hc ⟨hx, hh, k⟩
theorem k_setl (w : Wf X hid F) (hh : h + 1 ≤ 128) (hc : X.code[pc]? = some (6, x)) (hx : x < X.ns) (ht : t = true ∨ ∀ b ∈ F, x < b ∨ b + 3 ≤ x) (k : Kt X R (pc + 1) (ty h hid F)) : Kt X R pc ⟨h + 1, hid, F, t⟩ :=
  Kt.go w (by omega) hc ⟨hx, by show 1 ≤ h + 1; omega, ht, k⟩
theorem k_getu (w : Wf X hid F) (hh : h + 1 ≤ 128) (hc : X.code[pc]? = some (7, x)) (hx : x < X.nup) (k : Kt X R (pc + 1) (ty (h + 1) hid F)) : Kt X R pc (ty h hid F) :=
  Kt.go w (by omega) hc ⟨hx, hh, k⟩
theorem k_setu (w : Wf X hid F) (hh : h + 1 ≤ 128) (hc : X.code[pc]? = some (8, x)) (hx : x < X.nup) (k : Kt X R (pc + 1) (ty h hid F)) : Kt X R pc (ty (h + 1) hid F) :=
  Kt.go w (by omega) hc ⟨hx, by show 1 ≤ h + 1; omega, k⟩
theorem getD_some {l : List Vl} {x : Nat} {v : Vl} (h : l[x]? = some v) : l.getD x nilV = v := by rw [List.getD_eq_getElem?_getD, h]; rfl
theorem k_getg {s : Bs} (w : Wf X hid F) (hh : h + 1 ≤ 128) (hc : X.code[pc]? = some (9, x)) (hx : X.consts[x]? = some (strV s)) (k : Kt X R (pc + 1) (ty (h + 1) hid F)) : Kt X R pc (ty h hid F) :=
  Kt.go w (by omega) hc ⟨(List.getElem?_eq_some_iff.1 hx).1, by rw [getD_some hx]; rfl, hh, k⟩
theorem k_setg {s : Bs} (w : Wf X hid F) (hh : h + 1 ≤ 128) (hc : X.code[pc]? = some (10, x)) (hx : X.consts[x]? = some (strV s)) (k : Kt X R (pc + 1) (ty h hid F)) : Kt X R pc (ty (h + 1) hid F) :=
  Kt.go w (by omega) hc ⟨(List.getElem?_eq_some_iff.1 hx).1, by rw [getD_some hx]; rfl, by show 1 ≤ h + 1; omega, k⟩
theorem k_two (w : Wf X hid F) (hh : h + 2 ≤ 128) (hc : X.code[pc]? = some (op, x)) (ho : op = 11 ∨ op = 13 ∨ op = 17) (k : Kt X R (pc + 1) (ty (h + 1) hid F)) : Kt X R pc (ty (h + 2) hid F) := by
  refine Kt.go w (by omega) hc ?_
  have : opOk X pc op x ⟨h + 2, hid, F, false⟩ (Kt X R) = (2 ≤ h + 2 ∧ Kt X R (pc + 1) (ty (h + 1) hid F)) := by
    rcases ho with rfl | rfl | rfl <;> rfl
  rw [this]
  exact ⟨by omega, k⟩
theorem k_seti (w : Wf X hid F) (hh : h + 3 ≤ 128) (hc : X.code[pc]? = some (12, x)) (k : Kt X R (pc + 1) (ty h hid F)) : Kt X R pc (ty (h + 3) hid F) :=
  Kt.go w (by omega) hc ⟨by show 3 ≤ h + 3; omega, k⟩
theorem k_arith (w : Wf X hid F) (hh : h + 2 ≤ 128) (hc : X.code[pc]? = some (15, x)) (h1 : 1 ≤ x) (h6 : x ≤ 6) (k : Kt X R (pc + 1) ⟨h + 1, hid, F, true⟩) : Kt X R pc (ty (h + 2) hid F) :=
  Kt.go w (by omega) hc ⟨h1, h6, by show 2 ≤ h + 2; omega, k⟩
theorem k_cmp (w : Wf X hid F) (hh : h + 2 ≤ 128) (hc : X.code[pc]? = some (16, x)) (h1 : 1 ≤ x) (h6 : x ≤ 6) (k : Kt X R (pc + 1) (ty (h + 1) hid F)) : Kt X R pc (ty (h + 2) hid F) :=
  Kt.go w (by omega) hc ⟨h1, h6, by show 2 ≤ h + 2; omega, k⟩
theorem k_un (w : Wf X hid F) (hh : h + 1 ≤ 128) (hc : X.code[pc]? = some (op, x)) (ho : op = 18 ∨ op = 19 ∨ op = 20) (k : Kt X R (pc + 1) (ty (h + 1) hid F)) : Kt X R pc (ty (h + 1) hid F) := by
  refine Kt.go w (by omega) hc ?_
  have : opOk X pc op x ⟨h + 1, hid, F, false⟩ (Kt X R) = (1 ≤ h + 1 ∧ Kt X R (pc + 1) (ty (h + 1) hid F)) := by
    rcases ho with rfl | rfl | rfl <;> rfl
  rw [this]
  exact ⟨by omega, k⟩
theorem k_jmp (w : Wf X hid F) (hh : h ≤ 128) (hc : X.code[pc]? = some (21, x)) (hx : x < X.code.length) (k : Kt X R x (ty h hid F)) : Kt X R pc ⟨h, hid, F, t⟩ :=
  Kt.go w hh hc ⟨hx, k⟩
theorem k_jf (w : Wf X hid F) (hh : h + 1 ≤ 128) (hc : X.code[pc]? = some (22, x)) (hx : x < X.code.length) (k1 : Kt X R x (ty h hid F)) (k : Kt X R (pc + 1) (ty h hid F)) : Kt X R pc (ty (h + 1) hid F) :=
  Kt.go w (by omega) hc ⟨hx, by show 1 ≤ h + 1; omega, k1, k⟩
theorem k_jk (w : Wf X hid F) (hh : h + 1 ≤ 128) (hc : X.code[pc]? = some (op, x)) (ho : op = 23 ∨ op = 24) (hx : x < X.code.length) (k1 : Kt X R x (ty (h + 1) hid F)) (k : Kt X R (pc + 1) (ty h hid F)) : Kt X R pc (ty (h + 1) hid F) := by
  refine Kt.go w (by omega) hc ?_
  have : opOk X pc op x ⟨h + 1, hid, F, false⟩ (Kt X R) = (x < X.code.length ∧ 1 ≤ h + 1 ∧ Kt X R x (ty (h + 1) hid F) ∧ Kt X R (pc + 1) (ty h hid F)) := by
    rcases ho with rfl | rfl <;> rfl
  rw [this]
  exact ⟨hx, by omega, k1, k⟩
theorem k_pop (w : Wf X hid F) (hh : h + 1 ≤ 128) (hc : X.code[pc]? = some (25, x)) (k : Kt X R (pc + 1) (ty h hid F)) : Kt X R pc (ty (h + 1) hid F) :=
  Kt.go w (by omega) hc ⟨by show 1 ≤ h + 1; omega, k⟩
theorem k_call (w : Wf X hid F) (hx : x ≤ 3) (hh : h + 1 + x ≤ 128) (h2 : h + 2 ≤ 128) (hc : X.code[pc]? = some (26, x)) (k : Kt X R (pc + 1) (ty (h + 2) hid F)) : Kt X R pc (ty (h + 1 + x) hid F) := by
  refine Kt.go w (by omega) hc ⟨hx, by show x + 1 ≤ h + 1 + x; omega, by show h + 1 + x + 1 ≤ 128 + x; omega, ?_⟩
  have e : h + 1 + x + 1 - x = h + 2 := by omega
  show Kt X R (pc + 1) ⟨h + 1 + x + 1 - x, hid, F, false⟩
  rw [e]
  exact k
theorem k_ret (w : Wf X hid F) (hh : h ≤ 128) (h2 : 2 ≤ h) (hc : X.code[pc]? = some (27, x)) : Kt X R pc (ty h hid F) :=
  Kt.go w hh hc h2
theorem k_clo {ds : List (Nat × Nat)} (w : Wf X hid F) (hh : h + 1 ≤ 128) (hc : X.code[pc]? = some (28, x)) (hd : X.ch x = some ds) (hv : ∀ d ∈ ds, (d.1 = 1 ∧ hid[d.2]? = some false) ∨ (d.1 = 0 ∧ d.2 < X.nup)) (k : Kt X R (pc + 1) (ty (h + 1) hid F)) : Kt X R pc (ty h hid F) :=
  Kt.go w (by omega) hc ⟨hh, ⟨ds, hd, hv⟩, k⟩
theorem k_close (w : Wf X hid F) (hh : h ≤ 128) (hc : X.code[pc]? = some (29, x)) (hx : x ≤ X.ns) (k : Kt X R (pc + 1) (ty h (hid.take x) (F.filter (fun b => decide (b + 3 ≤ x))))) : Kt X R pc (ty h hid F) :=
  Kt.go w hh hc ⟨hx, k⟩
theorem k_chk (w : Wf X hid F) (hh : h ≤ 128) (hc : X.code[pc]? = some (30, x)) (hx : x + 3 < X.ns) (ht : ∀ e, e < 3 → hid[x + e]? = some true) (k : Kt X R (pc + 1) (ty h hid (x :: F))) : Kt X R pc (ty h hid F) :=
  Kt.go w hh hc ⟨hx, ht, k⟩
theorem k_next (w : Wf X hid F) (hh : h + 1 ≤ 128) (hc : X.code[pc]? = some (32, x)) (hx : x + 3 < X.ns) (hf : ∀ b ∈ F, b + 3 ≤ x + 1) (k : Kt X R (pc + 1) (ty (h + 1) hid F)) : Kt X R pc (ty h hid F) :=
  Kt.go w (by omega) hc ⟨hx, hf, hh, k⟩
end
end Go.Proofs.Qxb6500574aGreatDoor
