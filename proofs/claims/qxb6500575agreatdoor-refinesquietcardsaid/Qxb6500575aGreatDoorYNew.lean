/-
  THE WALKS of runm.New, Trace, Fetched, Show.
-/
import Derived.Test.Qxb6500575aGreatDoorYCall
import Derived.Test.Qxb6500575aGreatDoorRead
namespace Go.Proofs.Qxb6500575aGreatDoor
open Go Go.RowKit
set_option linter.unusedVariables false
set_option linter.unusedSimpArgs false

theorem rowSrc : IsRow Tryz.prog 169 30 (.slice none 0 0) 1 24 := ⟨by kernel_rfl, by kernel_rfl, rfl, by decide⟩
/-- the instance, while its sources are laid -/
structure NewI (w wr : World) (bn : Nat) (pv kv : Value) (sa : Option Addr) (sc : Nat) (vs : List Value) (srcs : List (List Ins)) : Prop where
  here : Has wr bn #[pv, .slice sa srcs.length sc, kv, .slice none 0 0, .int .i64 0, .int .i64 0, .int .i64 0, .int .i64 0, .bool false, .string ⟨#[]⟩, .string ⟨#[]⟩] 171
  src : SrcRep wr ⟨sa, sc, vs⟩ srcs
  fr : Fr (fun _ => False) w wr
  nb : w.heap.size ≤ bn
  ns : ∀ k, SrcS ⟨sa, sc, vs⟩ k → w.heap.size ≤ k ∧ k < wr.heap.size
section
variable {w wr w1 : World} {bn : Nat} {pv kv : Value} {sa : Option Addr} {sc : Nat} {vs : List Value} {srcs : List (List Ins)}
/-- blocks that are newer change -/
theorem NewI.keep (h : NewI w wr bn pv kv sa sc vs srcs) {S : Nat → Prop} (hf : Fr S wr w1) (hS : ∀ k, S k → wr.heap.size ≤ k) : NewI w w1 bn pv kv sa sc vs srcs :=
  { here := h.here.fr hf (fun e => by have := hS _ e; have := h.here.lt; omega)
    src := h.src.fr hf (fun k hk e => by have := hS _ e; have := (h.ns k hk).2; omega)
    fr := h.fr.trans hf (fun k hk e => by have := hS _ e; have := h.fr.size; omega)
    nb := h.nb
    ns := fun k hk => ⟨(h.ns k hk).1, Nat.lt_of_lt_of_le (h.ns k hk).2 hf.size⟩ }
/-- one source more -/
theorem NewI.push (h : NewI w wr bn pv kv sa sc vs srcs) {va : Option Addr} {vc : Nat} (s : List Ins) (hv : wr.ownsRow 0 67 3 (.slice va s.length vc) s.length (insCells s)) (hvn : ∀ k, (Value.slice va s.length vc).ownBlock = some k → w.heap.size ≤ k) {o : Obj} {g cap : Nat}
    (q1 : w1.ownsRow 0 30 1 (.slice (some ⟨g, 0, none⟩) (srcs.length + 1) cap) (srcs.length + 1) (vs ++ [.slice va s.length vc])) (q2 : Fr (fun k => (Value.slice sa srcs.length sc).ownBlock = some k) (wr.alloc o) w1) (q3 : (Value.slice sa srcs.length sc).ownBlock = some g ∨ wr.heap.size ≤ g) (q4 : g < w1.heap.size) :
    Has w1 bn #[pv, .slice sa srcs.length sc, kv, .slice none 0 0, .int .i64 0, .int .i64 0, .int .i64 0, .int .i64 0, .bool false, .string ⟨#[]⟩, .string ⟨#[]⟩] 171 ∧
    NewI w (w1.setCell ⟨bn, 1, none⟩ (.slice (some ⟨g, 0, none⟩) (srcs.length + 1) cap)) bn pv kv (some ⟨g, 0, none⟩) cap (vs ++ [.slice va s.length vc]) (srcs ++ [s]) := by
  have F1 : Fr (fun _ => False) wr (wr.alloc o) := (Fr.refl _ _).alloc _
  have hne : (Value.slice sa srcs.length sc).ownBlock ≠ some bn := owns_ne h.src.row h.here (by decide)
  have hh : Has w1 bn _ _ := (h.here.fr F1 (fun e => e)).fr q2 hne
  have hsn : ∀ k, (Value.slice sa srcs.length sc).ownBlock = some k → w.heap.size ≤ k := fun k hk => (h.ns k (.inl (by rw [ownBlock_any _ _ _ srcs.length sc]; exact hk))).1
  have hgn : w.heap.size ≤ g := by
    rcases q3 with q3 | q3
    · exact hsn g q3
    · have := h.fr.size; omega
  have hgb : g ≠ bn := fun e => owns_ne q1 hh (by decide) (by rw [← e]; rfl)
  have hF2 : Fr (fun k => k = bn) w1 (w1.setCell ⟨bn, 1, none⟩ (.slice (some ⟨g, 0, none⟩) (srcs.length + 1) cap)) := Fr.setCell (S := fun k => k = bn) (Fr.refl _ _) (p := ⟨bn, 1, none⟩) (.inl rfl) _
  have hsz : wr.heap.size ≤ w1.heap.size := Nat.le_trans F1.size q2.size
  have hvl : vs.length = srcs.length := h.src.len
  -- an older row of instructions stands
  have keepRow : ∀ {v : Value} {n : Nat} {xs : List Value}, wr.ownsRow 0 67 3 v n xs → (w1.setCell ⟨bn, 1, none⟩ (.slice (some ⟨g, 0, none⟩) (srcs.length + 1) cap)).ownsRow 0 67 3 v n xs := fun hr => by
    have h1 := owns_fr hr F1 (fun _ _ h => h)
    have h2 := owns_fr h1 q2 (fun k hk e => by
      obtain ⟨cs, hcs⟩ := owns_typed h1 hk
      exact owns_ne (owns_fr h.src.row F1 (fun _ _ h => h)) hcs (by decide) e)
    exact owns_other h2 (p := ⟨bn, 1, none⟩) (owns_ne h2 hh (by decide)) _
  refine ⟨hh, ?_, ⟨?_, ?_, ?_⟩, ?_, h.nb, ?_⟩
  · have := hh.put 1 (.slice (some ⟨g, 0, none⟩) (srcs.length + 1) cap)
    simpa using this
  · have h1 := owns_other q1 (p := ⟨bn, 1, none⟩) (owns_ne q1 hh (by decide)) (.slice (some ⟨g, 0, none⟩) (srcs.length + 1) cap)
    simpa using h1
  · simp [hvl]
  · intro f v s' hv' hs'
    by_cases hf : f < srcs.length
    · rw [List.getElem?_append_left (by omega)] at hv'
      rw [List.getElem?_append_left hf] at hs'
      obtain ⟨h1, h2⟩ := h.src.src f v s' hv' hs'
      exact ⟨h1, keepRow h2⟩
    · have hf2 : f = srcs.length := by
        have := (List.getElem?_eq_some_iff.1 hs').1
        simp at this
        omega
      subst hf2
      rw [List.getElem?_append_right (by omega)] at hv' hs'
      simp [hvl] at hv' hs'
      subst hv'; subst hs'
      exact ⟨⟨va, vc, rfl⟩, keepRow hv⟩
  · refine ((h.fr.trans F1 (fun _ _ h => h)).trans q2 (fun k hk e => ?_)).trans hF2 (fun k hk e => ?_)
    · have := hsn k e; omega
    · have := h.nb; omega
  · have hs2 : (w1.setCell ⟨bn, 1, none⟩ (.slice (some ⟨g, 0, none⟩) (srcs.length + 1) cap)).heap.size = w1.heap.size := by simp [World.setCell]
    rw [hs2]
    rintro k (hk | ⟨f, v, hv', hk⟩)
    · simp [Value.ownBlock] at hk
      subst hk
      exact ⟨hgn, q4⟩
    · by_cases hf : f < vs.length
      · rw [List.getElem?_append_left hf] at hv'
        have := h.ns k (.inr ⟨f, v, hv', hk⟩)
        exact ⟨this.1, by omega⟩
      · rw [List.getElem?_append_right (by omega)] at hv'
        have hv2 : v = .slice va s.length vc := by
          have := List.mem_of_getElem? hv'
          simpa using this
        subst hv2
        exact ⟨hvn k hk, by have := owns_lt hv k hk; omega⟩
end
/-- what runm.New comes to -/
def NewPost (w : World) (bp bk : Nat) (srcs : List (List Ins)) (e : Ending) (w' : World) : Prop := ∃ bn sa sc vs, e = .returned (.pointer (some ⟨bn, 0, none⟩)) ∧ NewI w w' bn (.pointer (some ⟨bp, 0, none⟩)) (.pointer (some ⟨bk, 0, none⟩)) sa sc vs srcs
section
variable {R : MP} {m : MS} {w : World} {L : NL} {K : ML}
set_option maxRecDepth 100000
set_option maxHeartbeats 1500000
theorem ytrace_any {bn : Nat} {q : NF} {x : ND} (h : NRep w bn q L x) : Calls Tryz.prog 72 #[.pointer (some ⟨bn, 0, none⟩)] w fun e w' => e = .returned (sv x.trace) ∧ w' = w := by
  have c := h.here.cell 10
  simp at c
  go_enter Tryz.func72, Tryz.ntmps72
  go_wp2
  go_ret
  exact ⟨rfl, rfl⟩
theorem yfetched_any {bn : Nat} {q : NF} {x : ND} (h : NRep w bn q L x) : Calls Tryz.prog 46 #[.pointer (some ⟨bn, 0, none⟩)] w fun e w' => e = .returned (.int .i64 x.n) ∧ w' = w := by
  have c := h.here.cell 6
  simp at c
  go_enter Tryz.func46, Tryz.ntmps46
  go_wp2
  go_ret
  exact ⟨rfl, rfl⟩
theorem yishow_any (h : MW R w L K m) : Calls Tryz.prog 47 #[.pointer (some ⟨R.bn, 0, none⟩)] w fun e w' => ∃ z, e = .returned (sv z) ∧ Hid (z = memText m.mem R.max m.mem.length) ∧ z.length ≤ 1000 ∧ Fr (fun _ => False) w w' := by
  have c := h.inst.here.cell 2
  simp only [List.getElem?_toArray, List.getElem?_cons_succ, List.getElem?_cons_zero] at c
  have SH : Hid (Calls _ _ _ _ _) := yshow_any h.mem
  clear h
  go_enter Tryz.func47, Tryz.ntmps47
  go_wp2_with fail
  refine SH.out.mono ?_
  rintro e w1 ⟨z, rfl, Z, hz, hf⟩
  have HF : Hid (Fr (fun _ => False) w w1) := hf
  clear hf SH
  go_wp2
  go_ret
  exact ⟨z, rfl, Z, hz, HF.out⟩
theorem yrnew_any (S : Nat → Prop) (bm : Nat) (Lm : ModL) (md : ModD) (w : World) (h : ModRep S w bm Lm md) (hl : md.funcs.length ≤ 1000) (hcl : ∀ fn ∈ md.funcs, fn.code.length ≤ 1000) (hS : ∀ k, S k → k < w.heap.size) (bp bk : Nat) :
    Calls Tryz.prog 44 #[.pointer (some ⟨bm, 0, none⟩), .pointer (some ⟨bp, 0, none⟩), .pointer (some ⟨bk, 0, none⟩)] w (NewPost w bp bk (md.funcs.map (·.code))) := by
  have NF : Hid (Calls _ _ _ _ _) := nfuncs_any S bm Lm md (w.alloc (.cells #[.pointer (some ⟨bp, 0, none⟩), .slice none 0 0, .pointer (some ⟨bk, 0, none⟩), .slice none 0 0, .int .i64 0, .int .i64 0, .int .i64 0, .int .i64 0, .bool false, .string ⟨#[]⟩, .string ⟨#[]⟩] 171)) (h.fr ((Fr.refl (fun _ => False) w).alloc _) (fun _ _ h => h))
  obtain ⟨nf, HNF⟩ : ∃ nf, Hid (md.funcs.length = nf) := ⟨_, rfl⟩
  rw [HNF.out] at NF hl
  have HM : Hid (∀ W, Fr (fun _ => False) w W → ModRep S W bm Lm md) := fun W hW => h.fr hW (fun _ _ h => h)
  have HCL : Hid (∀ fn ∈ md.funcs, fn.code.length ≤ 1000) := hcl
  obtain ⟨pv, HPV⟩ : ∃ pv, Hid (Value.pointer (some ⟨bp, 0, none⟩) = pv) := ⟨_, rfl⟩
  obtain ⟨kv, HKV⟩ : ∃ kv, Hid (Value.pointer (some ⟨bk, 0, none⟩) = kv) := ⟨_, rfl⟩
  have hp1 : pv.oneCell' = true := by rw [← HPV.out]; rfl
  have hk1 : kv.oneCell' = true := by rw [← HKV.out]; rfl
  obtain ⟨w0, HW0⟩ : ∃ w0, Hid (w0 = w.alloc (.cells #[.pointer (some ⟨bp, 0, none⟩), .slice none 0 0, .pointer (some ⟨bk, 0, none⟩), .slice none 0 0, .int .i64 0, .int .i64 0, .int .i64 0, .int .i64 0, .bool false, .string ⟨#[]⟩, .string ⟨#[]⟩] 171)) := ⟨_, rfl⟩
  obtain ⟨bn, HBN⟩ : ∃ bn, Hid (bn = w.heap.size) := ⟨_, rfl⟩
  have I0 : Hid (NewI w w0 bn (.pointer (some ⟨bp, 0, none⟩)) (.pointer (some ⟨bk, 0, none⟩)) none 0 [] []) := by
    show NewI _ _ _ _ _ _ _ _ _
    rw [HW0.out, HBN.out]
    refine ⟨Has.new _ _ _, ⟨World.ownsRow_nil _ _ _ _, rfl, fun f v s hv => by simp at hv⟩, (Fr.refl _ _).alloc _, Nat.le_refl _, ?_⟩
    rintro k (hk | ⟨f, v, hv, hk⟩)
    · simp [Value.ownBlock] at hk
    · simp at hv
  clear h hcl
  go_enter Tryz.func44, Tryz.ntmps44
  go_wp2_with fail
  refine NF.out.mono ?_
  rintro e w1 ⟨rfl, hw1⟩
  rw [hw1, ← HW0.out, ← HBN.out]
  clear hw1 w1 NF HW0 hp1 hk1
  go_wp2
  go_loopw [9] (fun ti wr => ∃ (i sc : Nat) (sa : Option Addr) (vs : List Value), i ≤ nf ∧ ti = .int .i64 i ∧ Hid (NewI w wr bn (.pointer (some ⟨bp, 0, none⟩)) (.pointer (some ⟨bk, 0, none⟩)) sa sc vs ((md.funcs.map (·.code)).take i))) (fun ti _ => nf - (intOf ti).toNat)
  case atStart => exact ⟨0, 0, none, [], Nat.zero_le _, rfl, by simpa using I0⟩
  case round =>
    obtain ⟨i, sc, sa, vs, hi, rfl, HI⟩ := hrel
    clear I0
    by_cases hlt : i < nf
    · obtain ⟨fn, hfn⟩ : ∃ fn, md.funcs[i]? = some fn := ⟨_, List.getElem?_eq_getElem (by rw [HNF.out]; exact hlt)⟩
      obtain ⟨code, HCD⟩ : ∃ code, Hid (fn.code = code) := ⟨_, rfl⟩
      have hcl : code.length ≤ 1000 := by rw [← HCD.out]; exact HCL.out fn (List.mem_of_getElem? hfn)
      have FU : Hid (Calls _ _ _ _ _) := func_any S bm Lm md i wr (HM.out wr HI.out.fr) (by rw [HNF.out]; exact hl)
      have hfa : md.funcAt (i : Int) = (fn.typ, fn.locals, (fn.code.length : Int)) := by
        unfold ModD.funcAt
        rw [if_neg (by omega), Int.toNat_natCast, hfn]
      rw [hfa, HCD.out] at FU
      simp only at FU
      obtain ⟨cl, HCLN⟩ : ∃ cl, Hid (code.length = cl) := ⟨_, rfl⟩
      rw [HCLN.out] at FU hcl
      have HAT : Hid (∀ (k : Nat) c, code[k]? = some c → md.insAt (i : Int) (k : Int) = c) := fun k c hc => by
        unfold ModD.insAt
        rw [if_neg (by omega), Int.toNat_natCast, hfn]
        simp only [Int.toNat_natCast]
        rw [HCD.out, hc]
        rfl
      have HSN : Hid ((md.funcs.map (·.code)).take (i + 1) = (md.funcs.map (·.code)).take i ++ [code]) := by
        show _ = _
        rw [List.take_add_one, List.getElem?_map, hfn]
        simp [HCD.out]
      have HLT : Hid (((md.funcs.map (·.code)).take i).length = i) := by
        show _ = _
        rw [List.length_take, List.length_map, HNF.out]; omega
      obtain ⟨B, HBB⟩ : ∃ B, Hid (B = wr.heap.size) := ⟨_, rfl⟩
      have hBw : w.heap.size ≤ B := by rw [HBB.out]; exact HI.out.fr.size
      obtain ⟨ft, HFT⟩ : ∃ ft, Hid (fn.typ = ft) := ⟨_, rfl⟩
      obtain ⟨fl, HFL⟩ : ∃ fl, Hid (fn.locals = fl) := ⟨_, rfl⟩
      rw [HFT.out, HFL.out] at FU
      clear hfa hfn
      go_wp2_with fail
      refine FU.out.mono ?_
      rintro e w1 ⟨rfl, n1, rfl⟩
      clear FU
      have I1 : Hid (NewI w ((wr.drewN n1).alloc (.cells #[] 67)) bn (.pointer (some ⟨bp, 0, none⟩)) (.pointer (some ⟨bk, 0, none⟩)) sa sc vs ((md.funcs.map (·.code)).take i)) := HI.out.keep (((Fr.refl (fun _ => False) _).drewN n1).alloc _) (fun _ h => h.elim)
      have O1 : Hid (World.ownsRow ((wr.drewN n1).alloc (.cells #[] 67)) 0 67 3 (.slice (some ⟨wr.heap.size, 0, none⟩) 0 0) 0 (insCells (code.take 0))) := by
        refine ⟨rfl, .inr ⟨wr.heap.size, 0, #[], rfl, Nat.zero_le _, Has.new (wr.drewN n1) #[] 67, Nat.le_refl _, by unfold maxLen; omega, rfl, rfl⟩⟩
      go_wp2
      go_loopw [13, 14] (fun tc tk wr2 => ∃ (k cap : Nat) (a : Option Addr), k ≤ cl ∧ tk = .int .i64 k ∧ tc = .slice a k cap ∧ Hid (World.ownsRow wr2 0 67 3 (.slice a k cap) k (insCells (code.take k))) ∧ Hid (∀ g, (Value.slice a k cap).ownBlock = some g → B ≤ g) ∧ Hid (NewI w wr2 bn (.pointer (some ⟨bp, 0, none⟩)) (.pointer (some ⟨bk, 0, none⟩)) sa sc vs ((md.funcs.map (·.code)).take i) ∧ B ≤ wr2.heap.size ∧ ∀ k', SrcS ⟨sa, sc, vs⟩ k' → k' < B)) (fun _ tk _ => cl - (intOf tk).toNat)
      case atStart => exact ⟨0, 0, some ⟨wr.heap.size, 0, none⟩, Nat.zero_le _, rfl, rfl, O1.out, fun g hg => by simp [Value.ownBlock] at hg; rw [HBB.out, hg]; exact Nat.le_refl _, I1.out, by rw [HBB.out]; simp, fun k' hk' => by rw [HBB.out]; exact (HI.out.ns k' hk').2⟩
      case round =>
        obtain ⟨k, cap, a, hk, rfl, rfl, G1, G2, G3⟩ := hrel
        clear I1 O1 HI
        by_cases hkl : k < cl
        · obtain ⟨c, hc⟩ : ∃ c, code[k]? = some c := ⟨_, List.getElem?_eq_getElem (by rw [HCLN.out]; exact hkl)⟩
          have hA := insAt_any S bm Lm md i k wr (HM.out wr G3.out.1.fr) (by rw [HNF.out]; exact hl) HCL.out
          rw [HAT.out k c hc] at hA
          have HA : Hid (Calls _ _ _ _ _) := hA
          have HTK : Hid (code.take (k + 1) = code.take k ++ [c]) := by
            show _ = _
            rw [List.take_add_one, hc]
            rfl
          clear hA hc
          obtain ⟨cop, cimm, ctab⟩ := c
          simp only at HA
          go_wp2_with fail
          refine HA.out.mono ?_
          rintro e w7 ⟨rfl, ob, rfl⟩
          clear HA
          have HC3 : Has (((wr.alloc ob).alloc (.cells #[.int .i64 cop, .int .i64 cimm, .string ⟨ctab.toArray⟩] 67)).alloc (.cells #[.int .i64 cop, .int .i64 cimm, .string ⟨ctab.toArray⟩] 67)) (wr.heap.size + 1 + 1) #[.int .i64 cop, .int .i64 cimm, sv ctab] 67 := by
            have := Has.new ((wr.alloc ob).alloc (.cells #[.int .i64 cop, .int .i64 cimm, .string ⟨ctab.toArray⟩] 67)) #[.int .i64 cop, .int .i64 cimm, .string ⟨ctab.toArray⟩] 67
            simpa using this
          go_wp2_with (at_builtin; go_must (refine wpList_app rowIns _ rfl (.tmp 45) (.tmp 47) rfl _ _ _ rfl (owns_alloc (owns_alloc (owns_alloc G1.out _) _) _) _ [.int .i64 cop, .int .i64 cimm, sv ctab] rfl HC3 rfl ?one ?bd ?go))
          case one => simp [Value.oneCell']
          case bd => omega
          case go =>
            intro g cap8 w8 q1 q2 q3 q4
            have F8 : Fr (fun k' => (Value.slice a k cap).ownBlock = some k') wr w8 := (((((Fr.refl (fun k' => (Value.slice a k cap).ownBlock = some k') wr).alloc _).alloc _).alloc _)).trans q2 (fun _ _ h => h)
            have hgB : B ≤ g := by
              rcases q3 with q3 | q3
              · exact G2.out g q3
              · have h1 := G3.out.2.1
                have hq3 := q3
                (try simp at hq3)
                omega
            have N1 : Hid (World.ownsRow w8 0 67 3 (.slice (some ⟨g, 0, none⟩) (k + 1) cap8) (k + 1) (insCells (code.take (k + 1)))) := by
              show World.ownsRow _ _ _ _ _ _ _
              rw [HTK.out, insCells_snoc]
              simpa [Ins.cells] using q1
            have N3 : Hid (NewI w w8 bn (.pointer (some ⟨bp, 0, none⟩)) (.pointer (some ⟨bk, 0, none⟩)) sa sc vs ((md.funcs.map (·.code)).take i) ∧ B ≤ w8.heap.size ∧ ∀ k', SrcS ⟨sa, sc, vs⟩ k' → k' < B) := by
              have hns := G3.out.2.2
              have hbn : (Value.slice a k cap).ownBlock ≠ some bn := owns_ne G1.out G3.out.1.here (by decide)
              refine ⟨⟨G3.out.1.here.fr F8 hbn, G3.out.1.src.fr F8 (fun k' hk' e => ?_), G3.out.1.fr.trans F8 (fun k' hk' e => ?_), G3.out.1.nb, fun k' hk' => ⟨(G3.out.1.ns k' hk').1, Nat.lt_of_lt_of_le (G3.out.1.ns k' hk').2 F8.size⟩⟩, Nat.le_trans G3.out.2.1 F8.size, hns⟩
              · have := hns k' hk'
                have := G2.out k' e
                omega
              · have := G2.out k' e
                omega
            clear F8 q1 q2 q3 q4 G1 G2 G3 HC3
            go_wp2
            go_roundw
            case rel => exact ⟨k + 1, cap8, some ⟨g, 0, none⟩, by omega, by go_num, by congr 1, N1, fun g' hg' => by simp [Value.ownBlock] at hg'; omega, N3⟩
            case measure => simp [intOf]; omega
        · obtain rfl : k = cl := by omega
          have hnl : ¬ (k : Int) < (k : Int) := by omega
          have c1 := G3.out.1.here.cell 1
          simp only [List.getElem?_toArray, List.getElem?_cons_succ, List.getElem?_cons_zero] at c1
          rw [HLT.out] at c1
          have l1 := G3.out.1.here.lt
          have HROW : Hid (World.ownsRow wr 0 30 1 (.slice sa i sc) i vs) := by
            have h := G3.out.1.src.row
            rw [HLT.out] at h
            exact h
          go_wp2_with (at_builtin; go_must (refine wpList_app rowSrc _ rfl (.tmp 52) (.tmp 54) rfl _ _ _ rfl (owns_alloc HROW.out _) _ [.slice a k cap] rfl (Has.new _ _ _) rfl ?one ?bd ?go))
          case one => simp [Value.oneCell']
          case bd => omega
          case go =>
            intro g cap8 w8 q1 q2 q3 q4
            have hcode : code.take k = code := List.take_of_length_le (by rw [HCLN.out]; exact Nat.le_refl _)
            have hrow : World.ownsRow wr 0 67 3 (.slice a code.length cap) code.length (insCells code) := by
              have h := G1.out
              rw [hcode] at h
              rw [HCLN.out]
              exact h
            obtain ⟨hh, P8⟩ := G3.out.1.push code hrow (fun k' hk' => by rw [HCLN.out] at hk'; have := G2.out k' hk'; omega) (g := g) (cap := cap8) (by rw [HLT.out, HCLN.out]; exact q1) (by rw [HLT.out]; exact q2) (by
              rw [HLT.out]
              rcases q3 with q3 | q3
              · exact .inl q3
              · right
                have hq3 := q3
                (try simp at hq3)
                omega) q4
            rw [HLT.out] at hh P8
            rw [← HSN.out] at P8
            have e1 := hh.cell 1
            have f1 := hh.frozen 1
            have l8 := hh.lt
            simp only [List.getElem?_toArray, List.getElem?_cons_succ, List.getElem?_cons_zero] at e1
            have PP : Hid (NewI _ _ _ _ _ _ _ _ _) := P8
            clear hh P8 q1 q2 q3 q4 hrow hcode G1 G2 G3 HROW c1 l1
            go_wp2
            go_roundw
            case rel => exact ⟨i + 1, cap8, some ⟨g, 0, none⟩, _, by omega, by go_num, PP⟩
            case measure => simp [intOf]; omega
    · obtain rfl : i = nf := by omega
      have hnl : ¬ (i : Int) < (i : Int) := by omega
      have FIN : Hid (NewI w wr bn (.pointer (some ⟨bp, 0, none⟩)) (.pointer (some ⟨bk, 0, none⟩)) sa sc vs (md.funcs.map (·.code))) := by
        have h := HI.out
        rw [List.take_of_length_le (by rw [List.length_map, HNF.out]; exact Nat.le_refl _)] at h
        exact h
      clear HI
      go_wp2
      go_ret
      exact ⟨bn, sa, sc, vs, rfl, FIN.out⟩
end
end Go.Proofs.Qxb6500575aGreatDoor
