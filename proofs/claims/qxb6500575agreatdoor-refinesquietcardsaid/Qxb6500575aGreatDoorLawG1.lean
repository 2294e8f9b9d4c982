/-
  THE MODEL'S RUN never ends with error 1; the host; a loaded module is a program of the plain law. No program.
-/
import Derived.Test.Qxb6500575aGreatDoorLawB11
import Derived.Test.Qxb6500575aGreatDoorLawW
import Derived.Test.Qxb6500575aGreatDoorSAnsw
namespace Go.Proofs.Qxb6500575aGreatDoor
open Go Go.RowKit
set_option linter.unusedVariables false
set_option linter.unusedSimpArgs false

theorem aluP_e (op a b : Int) : (aluP op a b).2 = 0 ∨ (aluP op a b).2 = 11 := by
  unfold aluP u32P u64P
  repeat' split
  all_goals first | exact .inl rfl | exact .inr rfl
theorem aluL_t (op a b : Int) (r loc : List V) (mem : List UInt8) : (aluL op a b r loc mem).t ≠ 1 := by
  unfold aluL
  rcases aluP_e op a b with h | h
  · rw [if_pos h]; simp
  · rw [if_neg (by omega), h]; simp
theorem loadP_e (mem : List UInt8) (op a off : Int) : (loadP mem op a off).2 ≠ 1 := by
  unfold loadP
  split <;> simp
theorem storeP_e (mem : List UInt8) (op a off v : Int) : (storeP mem op a off v).2 ≠ 1 := by
  unfold storeP
  split <;> simp
theorem ite_t {c : Prop} [Decidable c] {a b : LO} (h1 : a.t ≠ 1) (h2 : b.t ≠ 1) : (if c then a else b).t ≠ 1 := by
  by_cases h : c
  · rw [if_pos h]; exact h1
  · rw [if_neg h]; exact h2
theorem lstep_t (i : Flat) (ops loc : List V) (mem : List UInt8) (max : Nat) : (lstep i ops loc mem max).t ≠ 1 := by
  have n0 : ∀ (a b : List V) (d : List UInt8), (LO.mk 0 a b d).t ≠ 1 := fun a b d => by show (0 : Int) ≠ 1; decide
  have ns : ∀ (a b : List V) (d : List UInt8), (stuckL a b d).t ≠ 1 := fun a b d => by show (10 : Int) ≠ 1; decide
  unfold lstep
  refine ite_t (by show (13 : Int) ≠ 1; decide) (ite_t (n0 _ _ _) (ite_t ?_ (ite_t ?_ (ite_t ?_ (ite_t (n0 _ _ _) (ite_t ?_ (ite_t (n0 _ _ _) (ite_t (n0 _ _ _) (ite_t ?_ (ite_t ?_ (ite_t ?_ ?_)))))))))))
  · rcases ops with _ | ⟨c, _ | ⟨b, _ | ⟨a, r⟩⟩⟩
    · exact ns _ _ _
    · exact ns _ _ _
    · exact ns _ _ _
    · exact n0 _ _ _
  · cases loc.reverse[i.imm.toNat]? with
    | none => exact ns _ _ _
    | some v => exact n0 _ _ _
  · rcases ops with _ | ⟨v, r⟩
    · exact ns _ _ _
    · exact n0 _ _ _
  · rcases ops with _ | ⟨v, r⟩
    · exact ns _ _ _
    · exact n0 _ _ _
  · rcases ops with _ | ⟨v, r⟩
    · exact ns _ _ _
    · exact ite_t (n0 _ _ _) (loadP_e _ _ _ _)
  · rcases ops with _ | ⟨v, _ | ⟨a, r⟩⟩
    · exact ns _ _ _
    · exact ns _ _ _
    · exact ite_t (n0 _ _ _) (storeP_e _ _ _ _ _)
  · rcases ops with _ | ⟨v, _ | ⟨a, r⟩⟩
    · exact ns _ _ _
    · exact ns _ _ _
    · exact aluL_t _ _ _ _ _ _
  · rcases ops with _ | ⟨v, r⟩
    · exact ns _ _ _
    · exact aluL_t _ _ _ _ _ _
section
variable {P : ProgD} {srcs : List (List Ins)} {H : HF HS} {max : Nat} {f : Tk → MS → Option Ot}
theorem askS_e (hH : ∀ s g a, (H s g a).2.1 ≠ 1) {g : Int} {loc : List V} {m : MS} {o : Ot} (h : askS P H g loc m = some o) : o.e ≠ 1 := by
  unfold askS at h
  split at h
  · cases h
  split at h
  · cases h
  simp only at h
  split at h
  · cases h; simp
  · cases h; exact hH _ _ _
theorem plainS_e {c : Ins} {loc : List V} {m : MS} {o : Ot} (h : plainS c loc max m = some o) : o.e ≠ 1 := by
  unfold plainS at h
  split at h
  · cases h; simp
  split at h
  · split at h
    · cases h; simp
    · cases h
  split at h
  · split at h
    · split at h
      · cases h; simp
      · cases h
    · cases h
  split at h
  · cases h; simp
  simp only at h
  split at h
  · cases h
  split at h
  · cases h; simp
  · cases h; exact lstep_t _ _ _ _ _
theorem pay_e (x : ND) : x.pay.2 ≠ 1 := by
  unfold ND.pay
  split <;> simp
theorem sins_e (hH : ∀ s g a, (H s g a).2.1 ≠ 1) (hf : ∀ t m o, f t m = some o → o.e ≠ 1) {t : Tk} {c : Ins} {m : MS} {o : Ot} (h : sins P H max f t c m = some o) : o.e ≠ 1 := by
  unfold sins at h
  split at h
  · exact hf _ _ _ h
  split at h
  · cases h; exact pay_e _
  split at h
  · split at h
    · split at h
      · split at h
        · cases h; simp
        · exact hf _ _ _ h
      · exact hf _ _ _ h
    · cases h
  split at h
  · split at h
    · exact askS_e hH h
    split at h
    · cases h; simp
    split at h
    · cases h
    · rename_i o' ho
      cases h
      exact hf _ _ o' ho
  · exact plainS_e h
theorem sseq_e (hH : ∀ s g a, (H s g a).2.1 ≠ 1) (hf : ∀ t m o, f t m = some o → o.e ≠ 1) {t : Tk} {m : MS} {o : Ot} (h : sseq P H max f t m = some o) : o.e ≠ 1 := by
  unfold sseq at h
  split at h
  · cases h
  split at h
  · cases h; simp
  split at h
  · cases h; simp
  split at h
  · cases h
  split at h
  · cases h
  · rename_i o' ho
    split at h
    · cases h; exact sins_e hH hf ho
    · exact hf _ _ _ h
theorem sround_e (hf : ∀ t m o, f t m = some o → o.e ≠ 1) {t : Tk} {m : MS} {o : Ot} (h : sround f t m = some o) : o.e ≠ 1 := by
  unfold sround at h
  split at h
  · cases h
  · rename_i o' ho
    split at h
    · cases h; exact hf _ _ o ho
    split at h
    · cases h; exact hf _ _ o' ho
    split at h
    · cases h
    split at h
    · cases h; simp
    · exact hf _ _ _ h
theorem sinvoke_e (hf : ∀ t m o, f t m = some o → o.e ≠ 1) {t : Tk} {m : MS} {o : Ot} (h : sinvoke P srcs f t m = some o) : o.e ≠ 1 := by
  unfold sinvoke at h
  split at h
  · split at h
    · cases h
    split at h
    · cases h
    · rename_i o' ho
      split at h
      · cases h; exact hf _ _ o' ho
      split at h
      · cases h
      split at h
      · cases h
      split at h
      · cases h; simp
      · cases h
  · cases h
theorem srun_e (hH : ∀ s g a, (H s g a).2.1 ≠ 1) : ∀ (n : Nat) (t : Tk) (m : MS) (o : Ot), srun P srcs H max n t m = some o → o.e ≠ 1
  | 0, t, m, o, h => by simp [srun] at h
  | n + 1, t, m, o, h => by
    rw [srun] at h
    split at h
    · exact sseq_e hH (srun_e hH n) h
    split at h
    · exact sround_e (srun_e hH n) h
    · exact sinvoke_e (srun_e hH n) h
theorem srun_one {n n' : Nat} {t : Tk} {m : MS} {o o' : Ot} (h : srun P srcs H max n t m = some o) (h' : srun P srcs H max n' t m = some o') : o = o' := by
  have a := srun_le (Nat.le_max_left n n') h
  have b := srun_le (Nat.le_max_right n n') h'
  rw [a] at b
  exact Option.some.inj b
end
/-! ### the host -/
theorem ite_e {α : Type} {c : Prop} [Decidable c] {a b : α × Int} (h1 : c → a.2 ≠ 1) (h2 : b.2 ≠ 1) : (if c then a else b).2 ≠ 1 := by
  by_cases h : c
  · rw [if_pos h]; exact h1 h
  · rw [if_neg h]; exact h2
theorem answer_e (tape : List UInt8) (k : Nat) : (answerP tape k).2 ≠ 1 := by
  unfold answerP
  refine ite_e (fun _ => by decide) ?_
  refine ite_e (fun _ => by show (0 : Int) ≠ 1; decide) (ite_e (fun _ => by show (0 : Int) ≠ 1; decide) (ite_e (fun _ => by show (0 : Int) ≠ 1; decide) (ite_e (fun _ => by show (0 : Int) ≠ 1; decide) (ite_e (fun _ => ite_e (fun h => ?_) (by decide)) (ite_e (fun _ => by decide) (by decide))))))
  intro e
  have h1 := h.1
  simp only at e
  omega
theorem answer_six (tape : List UInt8) (k : Nat) (h : (answerP tape k).2 = 0) : k < 6 := by
  unfold answerP at h
  split at h
  · simp at h
  · omega
theorem callH_e (P : ProgD) (c : Int) (s : HS) (g : Int) (a : List V) : (callH P c s g a).2.1 ≠ 1 := by
  unfold callH
  split
  · unfold hostF hostR
    split
    · split <;> simp
    · simp only
      unfold tapeAsk
      split
      · simp
      · exact answer_e _ _
  · simp [noHost]
/-- what the tape keeps -/
def TapeI (s : HS) : Prop := s.2.1 ≤ 6 ∧ s.2.2.length ≤ 100 * s.2.1
theorem words_ty : ∀ (bs : List BV) (rs : List UInt8), TyL rs → (∀ b ∈ bs, I64 b.v) → bs.length = rs.length → (bs.zip rs).all (fun p => fitsB p.1 p.2) = true → (bs.map fun b => word b.t b.v).map V.ty = rs ∧ FitL (bs.map fun b => word b.t b.v)
  | [], [], _, _, _, _ => ⟨rfl, fun v hv => by cases hv⟩
  | [], _ :: _, _, _, h, _ => by simp at h
  | _ :: _, [], _, _, h, _ => by simp at h
  | b :: bs, r :: rs, ht, hb, hl, hz => by
    simp only [List.zip_cons_cons, List.all_cons, Bool.and_eq_true] at hz
    obtain ⟨i1, i2⟩ := words_ty bs rs (fun x hx => ht x (by simp [hx])) (fun x hx => hb x (by simp [hx])) (by simpa using hl) hz.2
    obtain ⟨w1, w2, _⟩ := fits_word (ht r (by simp)) hz.1 (hb b (by simp))
    refine ⟨by simp only [List.map_cons, w1, i1], fun v hv => ?_⟩
    rcases List.mem_cons.1 hv with rfl | hv
    · exact w2
    · exact i2 v hv
theorem host_b {P : ProgD} (c : Int) (hp : ∀ u ∈ P.funs, u.params.length ≤ 3 ∧ TyL u.results) : HostB P (callH P c) TapeI where
  lim := fun s h => ⟨h.1, by have := h.1; have := h.2; omega⟩
  ans := fun s g args u hI hu h0 hn hty => by
    refine ⟨?_, fun he => ?_, callH_e P c s g args⟩
    · unfold callH
      split
      · unfold hostF hostR
        repeat' split
        all_goals simp only
        all_goals (unfold tapeAsk; split <;> rfl)
      · rfl
    · obtain ⟨hpl, hpt⟩ := hp u (List.mem_of_getElem? hu)
      have hal : args.length = u.params.length := by have := congrArg List.length hty; simpa using this
      by_cases hc : c = 0
      · have hcH : callH P c = hostF P tapeAsk := by unfold callH; rw [if_pos hc]
        rw [hcH] at he ⊢
        unfold hostF at he ⊢
        rw [hu] at he ⊢
        simp only [Option.map_some, Option.getD_some] at he ⊢
        unfold hostR at he ⊢
        split at he
        · rename_i h2
          rw [if_pos h2]
          split at he
          · rename_i h3
            rw [if_pos h3]
            simp only
            unfold tapeAsk at h2 h3 ⊢
            by_cases h6 : 6 < s.2.1
            · rw [if_pos h6] at h2; simp at h2
            rw [if_neg h6] at h2 h3 ⊢
            simp only at h2 h3 ⊢
            have hk := answer_six _ _ h2
            obtain ⟨w1, w2⟩ := words_ty _ _ hpt (fun b hb => answer_fits s.1 s.2.1 b hb) h3.1 h3.2
            refine ⟨⟨by simp only; omega, ?_⟩, w1, w2⟩
            have := valsT_len (args.map V.bv)
            have := numT_len g
            have := hI.2
            simp only [List.length_append, List.length_map, List.length_cons, List.length_nil] at *
            omega
          · simp at he
        · rename_i h2
          exact absurd he h2
      · have hcH : callH P c = noHost := by unfold callH; rw [if_neg hc]
        rw [hcH] at he
        simp [noHost] at he
/-! ### a loaded module -/
theorem runMk_none {E : Env} (code : List Ins) : ∀ (n k : Nat) (s : Mk), code.length - k = n → k ≤ code.length → stateM E code k = some s → (runMk E code k (code.drop k) s).1 = none → stateM E code code.length = some (runMk E code k (code.drop k) s).2
  | 0, k, s, hn, hk, hs, _ => by
    have : k = code.length := by omega
    subst this
    simp [runMk, hs]
  | n + 1, k, s, hn, hk, hs, h => by
    have hlt : k < code.length := by omega
    rw [List.drop_eq_getElem_cons hlt] at h ⊢
    unfold runMk at h ⊢
    split at h
    · rename_i h0
      rw [if_pos h0]
      refine runMk_none code n (k + 1) _ (by omega) hlt ?_ h
      simp only [stateM]
      rw [hs, List.getElem?_eq_getElem hlt]
      simp [h0]
    · cases h
theorem prog_b {x : BelD} (h : BelFit x) (hl : x.m.load.2.2 = 0) : ProgB x.m.prog (x.m.funcs.map (·.code)) := by
  have hg := h.good.m
  have htd := h.ty.typed
  have hfun : ∀ f, x.m.prog.funs[f]? = if f < x.m.nall then some (x.m.funD f) else none := fun f => by
    unfold ModD.prog ModD.sigs
    simp only [List.getElem?_map]
    by_cases hf : f < x.m.nall <;> simp [hf]
  have hlen : x.m.prog.funs.length = x.m.nall := by simp [ModD.prog, ModD.sigs]
  have hn : x.m.prog.nimp = x.m.imports.length := rfl
  refine ⟨fun f h1 h2 => ?_, by rw [hn]; omega, fun u hu => ?_⟩
  · have h1' : x.m.imports.length ≤ f := by rw [hn] at h1; omega
    have h2' : f < x.m.nall := by omega
    obtain ⟨fn, hfn, e, hmem⟩ := ModD.body_at f h1' h2'
    have hck := (load_good hl hg).2 f h1' h2'
    obtain ⟨c1, c2⟩ := chk_same hg htd f h1' h2'
    have hckM : (x.m.chkM f).1 = none := by rw [← c1]; exact hck
    have hcode := c2 hck
    have hfin : stateM (x.m.env f) (x.m.body f) (x.m.body f).length = some (x.m.chkM f).2 := by
      have := runMk_none (E := x.m.env f) (x.m.body f) _ 0 (Mk.start (x.m.funD f).results) rfl (Nat.zero_le _) rfl (by simpa [ModD.chkM] using hckM)
      simpa [ModD.chkM] using this
    have hnest : nestR (x.m.body f) [] = 0 := by rw [e]; exact hg.nest fn hmem
    have hlen24 : (x.m.body f).length ≤ 24 := by rw [e]; exact hg.ok.fc fn hmem
    have hpos : 0 < (x.m.body f).length := by
      cases hb : x.m.body f with
      | nil => rw [hb] at hnest; unfold nestR at hnest; cases hnest
      | cons a b => simp
    have hty := h.ty.env f
    have hbt : resOf (bt0 (x.m.funD f).results) = (x.m.funD f).results := resOf_bt0 (hg.env f).2 (htd.funD f)
    refine ⟨x.m.funD f, x.m.body f, x.m.code f, ?_⟩
    exact
      { u := by rw [hfun, if_pos h2']
        src := by
          rw [hn]
          simp only [List.getElem?_map, Int.toNat_natCast]
          rw [hfn, e]; rfl
        code := by rw [prog_code, if_pos h2']
        imp := by rw [hn]; omega
        body := ⟨fun i hi => sf_at (E := x.m.env f) (hg.env f).1 (hg.env f).2 (htd.funD f) (x.m.body f) hlen24 hnest hfin i hi,
          ⟨_, hfin, by unfold ModD.code; rw [if_neg (by omega), hcode]⟩, hty,
          stateM_bt (E := x.m.env f) (fun c hc => nest_well _ _ hnest c hc) (by show TyL (resOf (bt0 (x.m.funD f).results)); rw [hbt]; exact hty.res)⟩
        len := ⟨hlen24, hpos⟩
        imm := fun c hc => by rw [e] at hc; exact h.imm fn hmem c hc
        ps := hg.ok.funD f }
  · simp only [ModD.prog, ModD.sigs, List.mem_map] at hu
    obtain ⟨g, _, rfl⟩ := hu
    exact hg.ok.funD g
end Go.Proofs.Qxb6500575aGreatDoor
