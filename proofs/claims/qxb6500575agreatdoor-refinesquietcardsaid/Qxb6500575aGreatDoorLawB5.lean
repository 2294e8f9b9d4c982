/-
  ONE PLAIN INSTRUCTION on typed operands: both machines. No program.
-/
import Derived.Test.Qxb6500575aGreatDoorLawB4
import Derived.Test.Qxb6500575aGreatDoorPStr
namespace Go.Proofs.Qxb6500575aGreatDoor
open Go Go.RowKit
set_option linter.unusedVariables false
set_option linter.unusedSimpArgs false

def MemOk (mem : List UInt8) (max : Nat) : Prop := mem.length % 8 = 0 ∧ mem.length ≤ max * 8 ∧ max ≤ 4
def FitL (l : List V) : Prop := ∀ v ∈ l, v.Fits
theorem FitL.app {a b : List V} : FitL (a ++ b) ↔ FitL a ∧ FitL b :=
  ⟨fun h => ⟨fun x hx => h x (by simp [hx]), fun x hx => h x (by simp [hx])⟩, fun h x hx => by
    rcases List.mem_append.1 hx with h1 | h1
    · exact h.1 x h1
    · exact h.2 x h1⟩
theorem FitL.cons {v : V} {l : List V} : FitL (v :: l) ↔ v.Fits ∧ FitL l := FitL.app (a := [v]) (b := l) |>.trans ⟨fun h => ⟨h.1 v (by simp), h.2⟩, fun h => ⟨fun x hx => by simp at hx; subst hx; exact h.1, h.2⟩⟩
theorem FitL.all {l : List V} (h : FitL l) : l.all fitV = true := by
  rw [List.all_eq_true]
  exact fun v hv => (fitV_iff v).2 (h v hv)
theorem fits_w (n : Int) : (V.w (wrap32 n)).Fits := by unfold V.Fits wrap32; simp only; omega
theorem fits_num {v : V} (h : v.Fits) : I64 v.num := by
  cases v using V.on with
  | w n => simp [V.Fits] at h; simp [V.num, I64]; omega
  | d n => simp [V.Fits] at h; simpa [V.num, I64] using h
theorem fits_push {to : UInt8} {n : Int} (h : I64 n) : (pushV to n).Fits := by
  unfold pushV
  split
  · exact fits_w n
  · unfold V.Fits; exact h
theorem ty_push {to : UInt8} (h : Ty to) (n : Int) : (pushV to n).ty = to := by
  unfold pushV
  rcases h with rfl | rfl <;> rfl
theorem growP_ok {mem : List UInt8} {max : Nat} (h : MemOk mem max) (n : Int) : MemOk (growP mem max n).1 max := by
  unfold growP
  split
  · exact h
  · rename_i hx
    obtain ⟨h1, h2, h3⟩ := h
    refine ⟨?_, ?_, h3⟩
    · simp only [List.length_append, List.length_replicate]; omega
    · simp only [List.length_append, List.length_replicate]; omega
theorem storeP_ok {mem : List UInt8} {max : Nat} (h : MemOk mem max) (op a off v : Int) : MemOk (storeP mem op a off v).1 max := by
  unfold storeP
  split
  · exact h
  · rename_i ea he
    have := placeP_le he
    obtain ⟨h1, h2, h3⟩ := h
    refine ⟨?_, ?_, h3⟩ <;> (simp only; rw [putB_len _ _ _ (by rw [storeB_len]; omega)]; assumption)
theorem ops1 {ops : List V} {t : UInt8} {y : List UInt8} (h : ops.map V.ty = t :: y) : ∃ a r, ops = a :: r ∧ a.ty = t ∧ r.map V.ty = y := by
  cases ops with
  | nil => simp at h
  | cons a r => simp at h; exact ⟨a, r, rfl, h.1, h.2⟩
theorem ops2 {ops : List V} {t u : UInt8} {y : List UInt8} (h : ops.map V.ty = t :: u :: y) : ∃ a b r, ops = a :: b :: r ∧ a.ty = t ∧ b.ty = u ∧ r.map V.ty = y := by
  obtain ⟨a, r, rfl, h1, h2⟩ := ops1 h
  obtain ⟨b, r, rfl, h3, h4⟩ := ops1 h2
  exact ⟨a, b, r, rfl, h1, h3, h4⟩
theorem opsN {ops : List V} {x y : List UInt8} (h : ops.map V.ty = x ++ y) : ∃ a r, ops = a ++ r ∧ a.map V.ty = x ∧ r.map V.ty = y ∧ a.length = x.length := by
  obtain ⟨a, r, h1, h2, h3⟩ := List.map_eq_append_iff.1 h
  exact ⟨a, r, h1, h2, h3, by rw [← h2]; simp⟩
theorem sig_load {op : Int} (h : 19 ≤ op ∧ op ≤ 24) : sigM op = ([105], if op = 20 then [108] else [105]) := by
  obtain h | h | h | h | h | h : op = 19 ∨ op = 20 ∨ op = 21 ∨ op = 22 ∨ op = 23 ∨ op = 24 := by omega
  all_goals subst h; rfl
theorem sig_store {op : Int} (h : 25 ≤ op ∧ op ≤ 28) : sigM op = (if op = 26 then [105, 108] else [105, 105], []) := by
  obtain h | h | h | h : op = 25 ∨ op = 26 ∨ op = 27 ∨ op = 28 := by omega
  all_goals subst h; rfl
theorem sig_alu1 {op : Int} (h : 29 ≤ op ∧ op ≤ 33) : sigM op = ([if op = 30 ∨ op = 31 then 108 else 105], [aTo op]) := by
  obtain h | h | h | h | h : op = 29 ∨ op = 30 ∨ op = 31 ∨ op = 32 ∨ op = 33 := by omega
  all_goals subst h; rfl
theorem sig_alu2 {op : Int} (h : (40 ≤ op ∧ op < 56) ∨ (60 ≤ op ∧ op < 76)) : sigM op = ([if op < 60 then 105 else 108, if op < 60 then 105 else 108], [aTo op]) := by
  unfold sigM aTo
  rw [if_neg (by omega), if_neg (by omega), if_neg (by omega), if_neg (by omega), if_neg (by omega), if_neg (by omega), if_neg (by omega)]
  by_cases h1 : 40 ≤ op ∧ op < 56
  · have a : ¬ ((60 ≤ op ∧ op < 73) ∨ op = 32 ∨ op = 33) := by omega
    have b : op < 60 := by omega
    simp only [if_pos h1, if_neg a, if_pos b]
  · by_cases h2 : 60 ≤ op ∧ op < 73
    · have a : (60 ≤ op ∧ op < 73) ∨ op = 32 ∨ op = 33 := by omega
      have b : ¬ op < 60 := by omega
      simp only [if_neg h1, if_pos h2, if_pos a, if_neg b]
    · have a : ¬ ((60 ≤ op ∧ op < 73) ∨ op = 32 ∨ op = 33) := by omega
      have b : ¬ op < 60 := by omega
      simp only [if_neg h1, if_neg h2, if_neg a, if_neg b]
theorem aTo_ty (op : Int) : Ty (aTo op) := by unfold aTo; split; exact .inr rfl; exact .inl rfl
theorem well_ops {c : Ins} (hw : well c = true) (h : 15 ≤ c.op) : (15 ≤ c.op ∧ c.op ≤ 33) ∨ (40 ≤ c.op ∧ c.op < 56) ∨ (60 ≤ c.op ∧ c.op < 76) := by
  unfold well at hw
  rw [if_neg (by omega)] at hw
  split at hw
  · cases hw
  rw [if_neg (by omega), if_neg (by omega)] at hw
  split at hw
  · omega
  split at hw
  · omega
  split at hw
  · omega
  split at hw
  · cases hw
  split at hw
  · omega
  split at hw
  · omega
  · simp at hw; omega
/-- what one plain instruction comes to -/
structure LOk (E : Env) (c : Ins) (next : List UInt8) (ops loc low : List V) (mem : List UInt8) (max : Nat) (lo : LO) : Prop where
  at_ : lstep ⟨c.op, c.imm, 0, 0⟩ ops loc mem max = lo
  lowAt : lstep ⟨c.op, c.imm, 0, 0⟩ (ops ++ low) loc mem max = { lo with ops := lo.ops ++ low }
  t : lo.t = 0 ∨ (11 ≤ lo.t ∧ lo.t ≤ 13)
  op0 : c.op = 0 → lo.t ≠ 0
  opsAt : lo.t = 0 → lo.ops.map V.ty = next ∧ FitL lo.ops
  locAt : lo.loc.reverse.map V.ty = E.me.params ++ E.me.locals ∧ FitL lo.loc
  memAt : MemOk lo.mem max
  ty : tyS c (ops ++ low) loc = true
section
variable {E : Env} {src : List Ins} {C : List Flat} {i : Nat} {s : Mk} {c : Ins} {ops loc : List V} {mem : List UInt8} {max : Nat}
theorem sig_tyS (h15 : 15 ≤ c.op) {y : List UInt8} {st : List UInt8} (e : st = (sigM c.op).1.reverse ++ y) (hty : ops.map V.ty = st) (low : List V) : tyS c (ops ++ low) loc = true := by
  unfold tyS
  rw [if_neg (by omega), if_neg (by omega), if_neg (by omega), if_neg (by omega), if_neg (by omega), if_pos h15]
  rw [e] at hty
  obtain ⟨a, r, rfl, h1, h2, h3⟩ := opsN hty
  rw [List.length_reverse] at h3
  simp only [decide_eq_true_eq]
  refine ⟨by simp; omega, ?_⟩
  rw [List.append_assoc, List.take_left' h3, h1]
theorem lstep_sig (h : SF E src i s c) (hl : Live s) (h15 : 15 ≤ c.op) (himm : I64 c.imm) (hty : ops.map V.ty = s.st) (hf : FitL ops) (hloc : loc.reverse.map V.ty = E.me.params ++ E.me.locals ∧ FitL loc) (hm : MemOk mem max) (low : List V) : ∃ lo, LOk E c (s.one E src i c).1.st ops loc low mem max lo := by
  obtain ⟨y, e1, e2, _, _⟩ := live_sig h hl h15
  have hts : tyS c (ops ++ low) loc = true := sig_tyS h15 e1 hty low
  have hn0 : c.op = 0 → False := fun h => by omega
  rw [e1] at hty
  rw [e2]
  have L : ∀ ops, lstep ⟨c.op, c.imm, 0, 0⟩ ops loc mem max =
      (if c.op = 15 then ⟨0, V.w (wrap32 (mem.length / 8 : Nat)) :: ops, loc, mem⟩
       else if c.op = 16 then (match ops with | a :: r => ⟨0, V.w (wrap32 (growP mem max a.num).2) :: r, loc, (growP mem max a.num).1⟩ | _ => stuckL ops loc mem)
       else if c.op = 17 then ⟨0, V.w (wrap32 c.imm) :: ops, loc, mem⟩
       else if c.op = 18 then ⟨0, V.d c.imm :: ops, loc, mem⟩
       else if 19 ≤ c.op ∧ c.op ≤ 24 then (match ops with
         | a :: r => if (loadP mem c.op a.num c.imm).2 = 0 then ⟨0, (if c.op = 20 then V.d (loadP mem c.op a.num c.imm).1 else V.w (wrap32 (loadP mem c.op a.num c.imm).1)) :: r, loc, mem⟩ else ⟨(loadP mem c.op a.num c.imm).2, r, loc, mem⟩
         | _ => stuckL ops loc mem)
       else if 25 ≤ c.op ∧ c.op ≤ 28 then (match ops with
         | v :: a :: r => if (storeP mem c.op a.num c.imm v.num).2 = 0 then ⟨0, r, loc, (storeP mem c.op a.num c.imm v.num).1⟩ else ⟨(storeP mem c.op a.num c.imm v.num).2, r, loc, (storeP mem c.op a.num c.imm v.num).1⟩
         | _ => stuckL ops loc mem)
       else if aTwo c.op then (match ops with | b :: a :: r => aluL c.op a.num b.num r loc mem | _ => stuckL ops loc mem)
       else (match ops with | a :: r => aluL c.op a.num 0 r loc mem | _ => stuckL ops loc mem)) := by
    intro ops
    unfold lstep
    rw [if_neg (by simp only; omega), if_neg (by simp only; omega), if_neg (by simp only; omega), if_neg (by simp only; omega), if_neg (by simp only; omega)]
    rfl
  by_cases h1 : c.op = 15
  · have hs : sigM c.op = ([], [105]) := by rw [h1]; rfl
    rw [hs] at hty ⊢
    have e : ∀ r', lstep ⟨c.op, c.imm, 0, 0⟩ r' loc mem max = ⟨0, V.w (wrap32 (mem.length / 8 : Nat)) :: r', loc, mem⟩ := fun r' => by rw [L, if_pos h1]
    exact ⟨_, e ops, by rw [e]; rfl, .inl rfl, fun h => (hn0 h).elim, fun _ => ⟨by simpa [V.ty] using hty, FitL.cons.2 ⟨fits_w _, hf⟩⟩, hloc, hm, hts⟩
  by_cases h2 : c.op = 16
  · have hs : sigM c.op = ([105], [105]) := by rw [h2]; rfl
    rw [hs] at hty ⊢
    obtain ⟨a, r, rfl, t1, t2⟩ := ops1 hty
    have e : ∀ r', lstep ⟨c.op, c.imm, 0, 0⟩ (a :: r') loc mem max = ⟨0, V.w (wrap32 (growP mem max a.num).2) :: r', loc, (growP mem max a.num).1⟩ := fun r' => by rw [L, if_neg h1, if_pos h2]
    exact ⟨_, e r, by rw [List.cons_append, e]; rfl, .inl rfl, fun h => (hn0 h).elim, fun _ => ⟨by simpa [V.ty] using t2, FitL.cons.2 ⟨fits_w _, (FitL.cons.1 hf).2⟩⟩, hloc, growP_ok hm _, hts⟩
  by_cases h3 : c.op = 17
  · have hs : sigM c.op = ([], [105]) := by rw [h3]; rfl
    rw [hs] at hty ⊢
    have e : ∀ r', lstep ⟨c.op, c.imm, 0, 0⟩ r' loc mem max = ⟨0, V.w (wrap32 c.imm) :: r', loc, mem⟩ := fun r' => by rw [L, if_neg h1, if_neg h2, if_pos h3]
    exact ⟨_, e ops, by rw [e]; rfl, .inl rfl, fun h => (hn0 h).elim, fun _ => ⟨by simpa [V.ty] using hty, FitL.cons.2 ⟨fits_w _, hf⟩⟩, hloc, hm, hts⟩
  by_cases h4 : c.op = 18
  · have hs : sigM c.op = ([], [108]) := by rw [h4]; rfl
    rw [hs] at hty ⊢
    have e : ∀ r', lstep ⟨c.op, c.imm, 0, 0⟩ r' loc mem max = ⟨0, V.d c.imm :: r', loc, mem⟩ := fun r' => by rw [L, if_neg h1, if_neg h2, if_neg h3, if_pos h4]
    exact ⟨_, e ops, by rw [e]; rfl, .inl rfl, fun h => (hn0 h).elim, fun _ => ⟨by simpa [V.ty] using hty, FitL.cons.2 ⟨by unfold V.Fits; exact himm, hf⟩⟩, hloc, hm, hts⟩
  by_cases h5 : 19 ≤ c.op ∧ c.op ≤ 24
  · rw [sig_load h5] at hty ⊢
    obtain ⟨a, r, rfl, t1, t2⟩ := ops1 hty
    have e : ∀ r', lstep ⟨c.op, c.imm, 0, 0⟩ (a :: r') loc mem max = if (loadP mem c.op a.num c.imm).2 = 0 then ⟨0, (if c.op = 20 then V.d (loadP mem c.op a.num c.imm).1 else V.w (wrap32 (loadP mem c.op a.num c.imm).1)) :: r', loc, mem⟩ else ⟨(loadP mem c.op a.num c.imm).2, r', loc, mem⟩ := fun r' => by rw [L, if_neg h1, if_neg h2, if_neg h3, if_neg h4, if_pos h5]
    by_cases hz : (loadP mem c.op a.num c.imm).2 = 0
    · have e' : ∀ r', lstep ⟨c.op, c.imm, 0, 0⟩ (a :: r') loc mem max = ⟨0, (if c.op = 20 then V.d (loadP mem c.op a.num c.imm).1 else V.w (wrap32 (loadP mem c.op a.num c.imm).1)) :: r', loc, mem⟩ := fun r' => by rw [e, if_pos hz]
      refine ⟨_, e' r, by rw [List.cons_append, e']; rfl, .inl rfl, fun h => (hn0 h).elim, fun _ => ⟨?_, FitL.cons.2 ⟨?_, (FitL.cons.1 hf).2⟩⟩, hloc, hm, hts⟩
      · by_cases h20 : c.op = 20
        · simpa [h20, V.ty] using t2
        · simpa [h20, V.ty] using t2
      · split
        · unfold V.Fits; exact loadP_i64 _ _ _ _ h5.1 h5.2
        · exact fits_w _
    · have e' : ∀ r', lstep ⟨c.op, c.imm, 0, 0⟩ (a :: r') loc mem max = ⟨(loadP mem c.op a.num c.imm).2, r', loc, mem⟩ := fun r' => by rw [e, if_neg hz]
      have he := loadP_err mem c.op a.num c.imm
      exact ⟨_, e' r, by rw [List.cons_append, e'], by simp only; omega, fun h => (hn0 h).elim, fun h => absurd h hz, hloc, hm, hts⟩
  by_cases h6 : 25 ≤ c.op ∧ c.op ≤ 28
  · rw [sig_store h6] at hty ⊢
    have hty' : ∃ t, ops.map V.ty = t :: 105 :: y := by
      by_cases h26 : c.op = 26
      · exact ⟨108, by simpa [h26] using hty⟩
      · exact ⟨105, by simpa [h26] using hty⟩
    obtain ⟨t, hty'⟩ := hty'
    obtain ⟨v, a, r, rfl, t1, t2, t3⟩ := ops2 hty'
    have e : ∀ r', lstep ⟨c.op, c.imm, 0, 0⟩ (v :: a :: r') loc mem max = if (storeP mem c.op a.num c.imm v.num).2 = 0 then ⟨0, r', loc, (storeP mem c.op a.num c.imm v.num).1⟩ else ⟨(storeP mem c.op a.num c.imm v.num).2, r', loc, (storeP mem c.op a.num c.imm v.num).1⟩ := fun r' => by rw [L, if_neg h1, if_neg h2, if_neg h3, if_neg h4, if_neg h5, if_pos h6]
    have hfr := (FitL.cons.1 (FitL.cons.1 hf).2).2
    by_cases hz : (storeP mem c.op a.num c.imm v.num).2 = 0
    · have e' : ∀ r', lstep ⟨c.op, c.imm, 0, 0⟩ (v :: a :: r') loc mem max = ⟨0, r', loc, (storeP mem c.op a.num c.imm v.num).1⟩ := fun r' => by rw [e, if_pos hz]
      exact ⟨_, e' r, by rw [List.cons_append, List.cons_append, e'], .inl rfl, fun h => (hn0 h).elim, fun _ => ⟨by simpa using t3, hfr⟩, hloc, storeP_ok hm _ _ _ _, hts⟩
    · have e' : ∀ r', lstep ⟨c.op, c.imm, 0, 0⟩ (v :: a :: r') loc mem max = ⟨(storeP mem c.op a.num c.imm v.num).2, r', loc, (storeP mem c.op a.num c.imm v.num).1⟩ := fun r' => by rw [e, if_neg hz]
      have he := storeP_err mem c.op a.num c.imm v.num
      exact ⟨_, e' r, by rw [List.cons_append, List.cons_append, e'], by simp only; omega, fun h => (hn0 h).elim, fun h => absurd h hz, hloc, storeP_ok hm _ _ _ _, hts⟩
  have alu : ∀ (a b : Int) (r : List V), I64 a → r.map V.ty = y → FitL r → ((aluL c.op a b r loc mem).t = 0 ∨ (11 ≤ (aluL c.op a b r loc mem).t ∧ (aluL c.op a b r loc mem).t ≤ 13)) ∧ ((aluL c.op a b r loc mem).t = 0 → (aluL c.op a b r loc mem).ops.map V.ty = [aTo c.op].reverse ++ y ∧ FitL (aluL c.op a b r loc mem).ops) ∧ (aluL c.op a b r loc mem).loc = loc ∧ (aluL c.op a b r loc mem).mem = mem ∧ aluL c.op a b (r ++ low) loc mem = { aluL c.op a b r loc mem with ops := (aluL c.op a b r loc mem).ops ++ low } := by
    intro a b r ha hr hfr
    obtain ⟨a1, a2⟩ := aluP_ok (op := c.op) (b := b) ha
    rcases a2 with a2 | a2
    · rw [aluL_ok _ _ _ a2 rfl, aluL_ok _ _ _ a2 rfl]
      exact ⟨.inl rfl, fun _ => ⟨by simp [ty_push (aTo_ty c.op), hr], FitL.cons.2 ⟨fits_push a1, hfr⟩⟩, rfl, rfl, rfl⟩
    · rw [aluL_no _ _ _ a2, aluL_no _ _ _ a2]
      exact ⟨.inr (by simp), fun h => by simp at h, rfl, rfl, rfl⟩
  by_cases h7 : c.op ≤ 33
  · have hop : 29 ≤ c.op ∧ c.op ≤ 33 := by omega
    rw [sig_alu1 hop] at hty ⊢
    obtain ⟨a, r, rfl, t1, t2⟩ := ops1 hty
    obtain ⟨g1, g2, g3, g4, g5⟩ := alu a.num 0 r (fits_num (FitL.cons.1 hf).1) t2 (FitL.cons.1 hf).2
    exact ⟨_, lstep_alu1 (i := ⟨c.op, c.imm, 0, 0⟩) hop a r loc mem max, by rw [List.cons_append, lstep_alu1 (i := ⟨c.op, c.imm, 0, 0⟩) hop, g5], g1, fun h => (hn0 h).elim, g2, by rw [g3]; exact hloc, by rw [g4]; exact hm, hts⟩
  · have hop : (40 ≤ c.op ∧ c.op < 56) ∨ (60 ≤ c.op ∧ c.op < 76) := by
      have := well_ops h.wl h15
      omega
    rw [sig_alu2 hop] at hty ⊢
    obtain ⟨b, a, r, rfl, t1, t2, t3⟩ := ops2 hty
    have hf2 := FitL.cons.1 (FitL.cons.1 hf).2
    obtain ⟨g1, g2, g3, g4, g5⟩ := alu a.num b.num r (fits_num hf2.1) t3 hf2.2
    exact ⟨_, lstep_alu2 (i := ⟨c.op, c.imm, 0, 0⟩) hop a b r loc mem max, by rw [List.cons_append, List.cons_append, lstep_alu2 (i := ⟨c.op, c.imm, 0, 0⟩) hop, g5], g1, fun h => (hn0 h).elim, g2, by rw [g3]; exact hloc, by rw [g4]; exact hm, hts⟩
theorem lstep_ok (hb : Body E src C) (h : SF E src i s c) (hl : Live s) (hop : c.op = 0 ∨ 11 ≤ c.op) (himm : I64 c.imm) (hty : ops.map V.ty = s.st) (hf : FitL ops) (hloc : loc.reverse.map V.ty = E.me.params ++ E.me.locals ∧ FitL loc) (hm : MemOk mem max) (low : List V) : ∃ lo, LOk E c (s.one E src i c).1.st ops loc low mem max lo := by
  by_cases h15 : 15 ≤ c.op
  · exact lstep_sig h hl h15 himm hty hf hloc hm low
  obtain h0 | h1 | h2 | h3 | h4 : c.op = 0 ∨ c.op = 11 ∨ c.op = 12 ∨ c.op = 13 ∨ c.op = 14 := by omega
  · have e : ∀ r, lstep ⟨c.op, c.imm, 0, 0⟩ r loc mem max = ⟨13, r, loc, mem⟩ := fun r => by unfold lstep; rw [if_pos h0]
    exact ⟨_, e ops, by rw [e], .inr (by simp), fun _ => by simp, fun h => by simp at h, hloc, hm, by unfold tyS; simp [h0]⟩
  · obtain ⟨u, e1, _⟩ := live_drop h hl h1
    rw [e1] at hty
    obtain ⟨a, r, rfl, t1, t2⟩ := ops1 hty
    have e : ∀ r, lstep ⟨c.op, c.imm, 0, 0⟩ (a :: r) loc mem max = ⟨0, r, loc, mem⟩ := fun r => by unfold lstep; rw [if_neg (by simp only; omega), if_pos h1]; rfl
    exact ⟨_, e r, by rw [List.cons_append, e], .inl rfl, fun h => by omega, fun _ => ⟨t2, (FitL.cons.1 hf).2⟩, hloc, hm, by unfold tyS; simp [h1]⟩
  · obtain ⟨u, y, e1, e2, _⟩ := live_sel h hl h2
    rw [e1] at hty
    obtain ⟨k, b, r0, rfl, t1, t2, t3⟩ := ops2 hty
    obtain ⟨a, r, rfl, t4, t5⟩ := ops1 t3
    have e : ∀ r, lstep ⟨c.op, c.imm, 0, 0⟩ (k :: b :: a :: r) loc mem max = ⟨0, (if k.num = 0 then b else a) :: r, loc, mem⟩ := fun r => by unfold lstep; rw [if_neg (by simp only; omega), if_neg (by simp only; omega), if_pos h2]
    have hf1 := FitL.cons.1 (FitL.cons.1 hf).2
    have hf2 := FitL.cons.1 hf1.2
    refine ⟨_, e r, by rw [List.cons_append, List.cons_append, List.cons_append, e]; rfl, .inl rfl, fun h => by omega, fun _ => ⟨?_, ?_⟩, hloc, hm, by unfold tyS; simp [h2, t1, t2, t4]⟩
    · rw [e2]
      by_cases hk : k.num = 0
      · simp [hk, t2, t5]
      · simp [hk, t4, t5]
    · refine FitL.cons.2 ⟨?_, hf2.2⟩
      split
      · exact hf1.1
      · exact hf2.1
  · obtain ⟨t, e1, e2, _⟩ := live_get hb h hl h3
    rw [← hloc.1, List.getElem?_map, Option.map_eq_some_iff] at e1
    obtain ⟨v, hv, rfl⟩ := e1
    have e : ∀ r, lstep ⟨c.op, c.imm, 0, 0⟩ r loc mem max = ⟨0, v :: r, loc, mem⟩ := fun r => by unfold lstep; rw [if_neg (by simp only; omega), if_neg (by simp only; omega), if_neg (by simp only; omega), if_pos h3]; simp only [hv]
    refine ⟨_, e ops, by rw [e]; rfl, .inl rfl, fun h => by omega, fun _ => ⟨by rw [e2]; simp [hty], FitL.cons.2 ⟨hloc.2 v (by have := List.mem_of_getElem? hv; simpa using this), hf⟩⟩, hloc, hm, ?_⟩
    have := (List.getElem?_eq_some_iff.1 hv).1
    unfold tyS
    rw [if_neg (by omega), if_neg (by omega), if_neg (by omega), if_pos h3]
    simpa using this
  · obtain ⟨t, e1, e2, _⟩ := live_set hb h hl h4
    rw [e2] at hty
    obtain ⟨v, r, rfl, t1, t2⟩ := ops1 hty
    have hl1 := hloc.1
    rw [← hl1, List.getElem?_map, Option.map_eq_some_iff] at e1
    obtain ⟨u, hu, hut⟩ := e1
    have e : ∀ r, lstep ⟨c.op, c.imm, 0, 0⟩ (v :: r) loc mem max = ⟨0, r, (loc.reverse.set c.imm.toNat v).reverse, mem⟩ := fun r => by unfold lstep; rw [if_neg (by simp only; omega), if_neg (by simp only; omega), if_neg (by simp only; omega), if_neg (by simp only; omega), if_pos h4]
    refine ⟨_, e r, by rw [List.cons_append, e], .inl rfl, fun h => by omega, fun _ => ⟨t2, (FitL.cons.1 hf).2⟩, ⟨?_, ?_⟩, hm, ?_⟩
    · simp only [List.reverse_reverse]
      rw [List.map_set, ← hl1]
      apply List.ext_getElem?
      intro j
      rw [List.getElem?_set]
      split
      · rename_i hj
        subst hj
        split
        · rw [List.getElem?_map, hu]; simp [hut, t1]
        · rename_i hx
          have := (List.getElem?_eq_some_iff.1 hu).1
          simp at hx this
          omega
      · rfl
    · intro x hx
      simp only [List.mem_reverse] at hx
      rcases List.mem_or_eq_of_mem_set hx with hx | rfl
      · exact hloc.2 x (by simpa using hx)
      · exact (FitL.cons.1 hf).1
    · unfold tyS
      rw [if_neg (by omega), if_neg (by omega), if_neg (by omega), if_neg (by omega), if_pos h4]
      simp [hu, t1, hut]
end
end Go.Proofs.Qxb6500575aGreatDoor
