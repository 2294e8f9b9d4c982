/-
  moon: typed frames through an instruction, a round, all rounds. Plain; no memory, no walk.
-/
import Derived.Test.Qxb6500574aGreatDoorWTy7
namespace Go.Proofs.Qxb6500574aGreatDoor
set_option linter.unusedVariables false
set_option linter.unusedSimpArgs false
section
variable {S : Nat → Nat → Ty → Prop} {K K' : Cx} {m m' m1 : VMD} {i : Nat} {t t1 : ThD} {f : FmD} {a b : Ty}
theorem Run.ret (h : Run S K m i t f a) (h2 : 2 ≤ a.h) : InTy S i (retP m i) := by
  have hh := h.hh
  have C := h.at_.cur.po h.at_.il h.at_.hf (k := 2) (by omega)
  have L := h.at_.plthr h.tc h.ti h.ot h.fi (h.pops 2).1 h2 (h.pops 2).2
  have st := (h.pops 2).1
  have e := pops_is h.at_.hi 2
  unfold retP
  dsimp only
  rw [e] at C L st ⊢
  generalize topV m i 0 = w
  generalize topV m i 1 = v
  have T2 := h.tc.txt st.tx
  have O2 := h.ot.rest C.re
  have hth : (m.setTh i { t with stack := t.stack.take (t.stack.length - 2) }).th i = { t with stack := t.stack.take (t.stack.length - 2) } := th_get C.hi
  rw [hth]
  have hlt := (List.getElem?_eq_some_iff.1 h.at_.hf).1
  split
  · exact InTy.ok (kill_ty C.vi T2 L O2 C.hi)
  · rename_i hne
    have htf : topF (m.setTh i { t with stack := t.stack.take (t.stack.length - 2) }) i = f := topF_get C.hi h.at_.hf
    rw [htf]
    have a2 : ∀ b : Bool, ∃ a c, (if b = true then [boolV true, v] else [v, w]) = [a, c] := by
      intro b
      cases b
      · exact ⟨v, w, rfl⟩
      · exact ⟨boolV true, v, rfl⟩
    obtain ⟨x, y, eac⟩ := a2 f.prot
    rw [eac]
    obtain ⟨k, ho⟩ := (closeFrom_inv C.vi C.hi f.base).th
    have D := drop_ty C.vi T2 L O2 C.hi (n := t.frames.length - 1) (f := f) h.at_.hf (v := x) (w := y) h.at_.st ho
    have hcut : Go.Proofs.Qxb6500574aGreatDoor.push (cut (closeFrom (m.setTh i { t with stack := t.stack.take (t.stack.length - 2) }) i f.base) i f.ret) i [x, y] = (closeFrom (m.setTh i { t with stack := t.stack.take (t.stack.length - 2) }) i f.base).setTh i { t with opn := t.opn.take k, stack := (t.stack.take (t.stack.length - 2)).take f.ret ++ [x, y] } := by
      rw [cut_is ho, push_is (setTh_get ho), setTh_setTh]
    refine InTy.ok ?_
    rw [hcut, th_get (setTh_get ho), setTh_setTh]
    exact D
theorem Run.jump (h : Run S K m i t f a) {y : Nat} (g : Goes (S (m.clos.getD f.clo cl0).p) y (a.pop 0)) : InTy S i (.inr ev0, setPc m i y) := by
  refine InTy.ok (h.at_.plg h.tc h.ti h.ot h.ty h.fi (Stay.refl m i) (k := 0) (vs := []) (Nat.zero_le _) (by rw [h.at_.hi]; simp) g ⟨rfl, rfl⟩ (by simp [Ty.pop]) (fun e => by cases e))
theorem Run.popj (h : Run S K m i t f a) {y : Nat} (h1 : 1 ≤ a.h) (g : Goes (S (m.clos.getD f.clo cl0).p) y (a.pop 1)) : InTy S i (.inr ev0, setPc (Go.Proofs.Qxb6500574aGreatDoor.pops m i 1) i y) := by
  refine InTy.ok (h.at_.plg h.tc h.ti h.ot h.ty h.fi (h.pops 1).1 (k := 1) (vs := []) h1 (by rw [List.append_nil]; exact (h.pops 1).2) g ⟨rfl, rfl⟩ (by simp [Ty.pop]) (fun e => by cases e))
theorem Run.instr (h : Run S K m i t f a) : InTy S i (instrP m i).2 := by
  have X := h.fx
  have G := h.G
  have hh := h.hh
  have ah := G.wf.h
  have ht := h.at_.top
  unfold instrP
  dsimp only
  rw [h.at_.topF, th_get h.at_.hi]
  have hpc : f.pc < (m.proto f.clo).nc := by rw [← X.nc]; exact G.lt
  rw [if_neg (by omega)]
  have ok := G.ok
  rw [X.cd f.pc hpc] at ok
  generalize m.code.getD ((m.proto f.clo).code + f.pc) (0, 0) = cx at ok
  obtain ⟨op, x⟩ := cx
  dsimp only at ok ⊢
  rw [h.at_.ns]
  have hn : (t.stack.length : Int) - f.base - K.ns f.clo = a.h := by omega
  rw [hn]
  have skip : soundP m i op x = true → needX op x ≤ a.h → (a.h : Int) + growX op x ≤ 128 → ∀ (A B C : Bool × RR EvD), InTy S i C.2 → InTy S i (if (!soundP m i op x) = true then A else if (a.h : Int) < needX op x ∨ (a.h : Int) + growX op x > 128 then B else C).2 := by
    intro s1 s2 s3 A B C hC
    rw [s1, if_neg (by simp), if_neg (by omega)]
    exact hC
  by_cases e21 : op = 21
  · subst e21
    unfold opOk at ok
    simp (config := { decide := true }) only [if_true, if_false] at ok
    refine skip ?_ (by simp [needX, need]) (by simp [growX, grow]; omega) _ _ _ ?_
    · unfold soundP; rw [h.at_.topF]; simp (config := { decide := true }) only [if_true, if_false]; rw [decide_eq_true_eq, ← X.nc]; exact ok.1
    · simp only [if_true]; exact h.jump ok.2
  by_cases e22 : op = 22
  · subst e22
    unfold opOk at ok
    simp (config := { decide := true }) only [if_true, if_false] at ok
    refine skip ?_ (by simp [needX, need]; omega) (by simp [growX, grow]; omega) _ _ _ ?_
    · unfold soundP; rw [h.at_.topF]; simp (config := { decide := true }) only [if_true, if_false]; rw [decide_eq_true_eq, ← X.nc]; exact ok.1
    · simp (config := { decide := true }) only [if_true, if_false]
      split
      · exact h.popj ok.2.1 ok.2.2.2
      · exact h.popj ok.2.1 ok.2.2.1
  by_cases e23 : op = 23 ∨ op = 24
  · have ok2 : x < (fxOf m (m.clos.getD f.clo cl0).p).code.length ∧ 1 ≤ a.h ∧ Goes (S (m.clos.getD f.clo cl0).p) x (a.pop 0) ∧ Goes (S (m.clos.getD f.clo cl0).p) (f.pc + 1) (a.pop 1) := by
      unfold opOk at ok
      rcases e23 with rfl | rfl <;> simp (config := { decide := true }) only [if_true, if_false] at ok <;> exact ok
    refine skip ?_ ?_ ?_ _ _ _ ?_
    · unfold soundP; rw [h.at_.topF]
      rcases e23 with rfl | rfl <;> simp (config := { decide := true }) only [if_true, if_false] <;> rw [decide_eq_true_eq, ← X.nc] <;> exact ok2.1
    · rcases e23 with rfl | rfl <;> simp [needX, need] <;> omega
    · rcases e23 with rfl | rfl <;> simp [growX, grow] <;> omega
    · rw [if_neg e21, if_neg e22, if_pos e23]
      split
      · exact h.jump ok2.2.2.1
      · exact h.popj ok2.2.1 ok2.2.2.2
  by_cases e26 : op = 26
  · subst e26
    unfold opOk at ok
    simp (config := { decide := true }) only [if_true, if_false] at ok
    refine skip ?_ (by simp [needX]; omega) (by simp [growX]; omega) _ _ _ ?_
    · unfold soundP; simp (config := { decide := true }) only [if_true, if_false]; rw [decide_eq_true_eq]; exact ok.1
    · simp (config := { decide := true }) only [if_true, if_false]
      exact h.call ok.1 ok.2.1 ok.2.2.2
  by_cases e27 : op = 27
  · subst e27
    unfold opOk at ok
    simp (config := { decide := true }) only [if_true, if_false] at ok
    refine skip ?_ (by simp [needX, need]; omega) (by simp [growX, grow]; omega) _ _ _ ?_
    · unfold soundP; simp (config := { decide := true }) only [if_true, if_false]
    · simp (config := { decide := true }) only [if_true, if_false]
      exact h.ret ok
  have e23' := e23
  simp only [not_or] at e23'
  obtain ⟨p1, p2, p3, p4⟩ := h.plain ⟨e21, e22, e23'.1, e23'.2, e26, e27⟩ ok
  refine skip p1 (by simp only [needX, e26, if_false]; exact p2) (by simp only [growX, e26, if_false]; exact p3) _ _ _ ?_
  rw [if_neg e21, if_neg e22, if_neg e23, if_neg e26, if_neg e27]
  dsimp only
  obtain ⟨q1, q2, q3⟩ := p4
  generalize plainP m i op x = r at q1 q2 q3 ⊢
  obtain ⟨r1, m1⟩ := r
  cases r1 with
  | inl fl =>
    cases fl with
    | inl v => exact InTy.thr (q2 v rfl)
    | inr e => exact ⟨(fun e' h => by cases h; exact q1 e rfl), (fun v h => by cases h), (fun v h => by cases h)⟩
  | inr u => exact InTy.ok (q3 rfl)
/-- thread i runs, and all is typed -/
structure RunT (S : Nat → Nat → Ty → Prop) (K : Cx) (m : VMD) (i : Nat) (t : ThD) (f : FmD) : Prop where
  at_ : At K m i t f
  tc : TC S m
  ti : TI S m
  ot : Oth m i
theorem RunT.run (h : RunT S K m i t f) : ∃ a, Run S K m i t f a := by
  obtain ⟨a, a1, a2⟩ := h.at_.ty h.ti
  exact ⟨a, h.at_, h.tc, h.ti, h.ot, a1, a2⟩
theorem RunT.instr (h : RunT S K m i t f) : InTy S i (instrP m i).2 := by
  obtain ⟨a, r⟩ := h.run
  exact r.instr
theorem unwindN_ty (V : VI K m) (T : TC S m) (I : TIl S m i) (o : Oth m i) (hi : m.ths[i]? = some t) (hst : t.st = 4) {v : Vl} : ∀ (n : Nat) (m2 : VMD), n < t.frames.length → unwindN n m i v = some m2 → TI S m2 := by
  intro n
  induction n with
  | zero => intro m2 _ e; cases e
  | succ n ih =>
    intro m2 hn e
    obtain ⟨f, hf⟩ : ∃ f, t.frames[n + 1]? = some f := ⟨_, List.getElem?_eq_getElem hn⟩
    unfold unwindN at e
    dsimp only at e
    rw [th_get hi, show t.frames.getD (n + 1) fm0 = f by simp [hf]] at e
    split at e
    · obtain ⟨k, ho⟩ := (closeFrom_inv V hi f.base).th
      have D := drop_ty V T I o hi (n := n + 1) (f := f) hf (v := boolV false) (w := v) hst ho
      cases e
      have hcut : cut (closeFrom m i f.base) i f.ret = (closeFrom m i f.base).setTh i { t with opn := t.opn.take k, stack := t.stack.take f.ret } := cut_is ho f.ret
      rw [hcut, th_get (setTh_get ho), setTh_setTh, push_is (setTh_get ho), setTh_setTh]
      exact D
    · exact ih m2 (by omega) e
end
end Go.Proofs.Qxb6500574aGreatDoor
