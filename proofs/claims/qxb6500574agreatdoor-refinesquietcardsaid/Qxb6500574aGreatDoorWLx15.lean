/-
  THE WALK of the parser layer: scan.
-/
import Derived.Test.Qxb6500574aGreatDoorWLx14
namespace Go.Proofs.Qxb6500574aGreatDoor
open Go Go.RowKit
set_option linter.unusedVariables false
set_option linter.unusedSimpArgs false
open Go.Lib
section
set_option maxRecDepth 100000
set_option maxHeartbeats 2000000
variable {W0 wr : World} {o1 or : Nat → Nat} {s : Bs} {kL kI sx e f q : Nat} {toks : List Tok} {sl : Sl} {num : Value} {a : Act} {Q : Exit → Act → World → Prop}
/-- a round -/
theorem scan_round {v7 v8 v9 v10 v11 : Value} (hP : ∀ c a t v w, Q (.panic c) (a.put (some t) v) w → Q (.panic c) a w) (hs : s.length ≤ 2048) (h : ScR W0 o1 s kL kI wr or q e f toks sl)
    (H : FrS (.pointer (some ⟨sx, 0, none⟩)) (sv s) (sl.v toks.length) (.pointer (some ⟨kL, 0, none⟩)) (.int .i64 (e : Nat)) v7 v8 v9 v10 v11 (.pointer (some ⟨kI, 0, none⟩)) a) (hsx : W0.cell? ⟨sx, 0, none⟩ = some num) (ho : o1 sx = 1040) (K : TabL W0 o1 1 keywordL) (G : TabL W0 o1 2 signL)
    (nx : ∀ a' w' or' q' e' f' toks' sl' y7 y8 y9 y10 y11, FrS (.pointer (some ⟨sx, 0, none⟩)) (sv s) (Sl.v sl' (List.length toks')) (.pointer (some ⟨kL, 0, none⟩)) (.int .i64 (e' : Nat)) y7 y8 y9 y10 y11 (.pointer (some ⟨kI, 0, none⟩)) a' → ScR W0 o1 s kL kI w' or' q' e' f' toks' sl' → q < q' → q < s.length → Q .normal a' w')
    (br : ∀ a' w' or' toks' sl' t y6 y7 y8 y9 y10 y11, FrS (.pointer (some ⟨sx, 0, none⟩)) (sv s) (Sl.v sl' (List.length toks')) (.pointer (some ⟨kL, 0, none⟩)) y6 y7 y8 y9 y10 y11 (.pointer (some ⟨kI, 0, none⟩)) a' → ScB W0 o1 s kL w' or' toks' sl' t → Q (.exit 0) a' w') :
    (scanL Tryz.f60.body).wp Tryz.prog Q a wr := by
  have hsz : (⟨s.toArray⟩ : ByteArray).size = s.length := by simp [ByteArray.size]
  rw [rd_eq]
  by_cases hqn : q < s.length
  · have hnx := fun ty => run_next_any_at (P := Tryz.prog) wr kI ⟨s.toArray⟩ q ty h.it (by rw [hsz]; exact hqn)
    obtain ⟨d1, d2⟩ := decode_w s hqn
    by_cases hqe : q < e
    · refine rd_skip H rfl rfl hqe hnx fun a' H' => ?_
      refine nx _ _ _ _ _ _ _ _ _ _ _ _ _ H' (h.cont (Fr.refl _ _) h.el ?_ h.bd h.fu h.sc h.tl) (by omega) hqn
      have := h.el
      rcases h.bd.step hqe h.el with x | x
      · exact x
      · omega
    · have hq0 := h.qe
      have : q = e := by omega
      subst this
      refine rd_turn H rfl rfl (Nat.le_refl _) hnx fun a' H' => ?_
      have hlt := World.block_lt_of_cell? W0 _ hsx
      refine scan_p7 (q' := q + (Utf8.decode ⟨s.toArray⟩ q).2) (fun c a t v w hx => hP c a t v w hx) ⟨?_, ?_⟩ h hs hqn (by omega) H' (num := num) ?_ ?_ (K.st h.st (by omega)) (G.st h.st (by omega)) ?_
      · intro a2 w2 or2 q2 e2 f2 toks2 sl2 y7 y8 y9 y10 y11 H2 h2 hq2
        have := nx _ _ _ _ _ _ _ _ _ _ _ _ _ H2 h2 hq2 hqn
        exact ⟨this, this⟩
      · intro a2 w2 or2 toks2 sl2 t y6 y7 y8 y9 y10 y11 H2 h2
        exact br _ _ _ _ _ _ _ _ _ _ _ _ H2 h2
      · rw [h.st.cellQ hlt (by rw [ho]; omega)]
        exact hsx
      · exact (h.st.ext sx hlt).trans ho
      · rw [Nat.add_sub_cancel_left]
  · have hnx := fun ty => run_next_end_at (P := Tryz.prog) wr kI ⟨s.toArray⟩ q ty h.it (by rw [hsz]; exact hqn)
    refine sc_end H rfl hnx fun a' H' => ?_
    refine br _ _ or _ _ (eofT s.length) _ _ _ _ _ _ H' ⟨?_, ?_, h.la.has, h.row, h.st⟩
    · have h1 := h.sc
      have h2 := h.fu
      have h3 := h.el
      have h4 := h.qe
      obtain ⟨f', rfl⟩ : ∃ f', f = f' + 1 := ⟨f - 1, by omega⟩
      rw [h1, scan_end (by omega), show e = s.length by omega]
      rfl
    · have := h.tl
      have := h.el
      omega
end
section
variable {w : World} {o : Nat → Nat}
set_option maxRecDepth 100000
set_option maxHeartbeats 4000000
/-- the tokens of a text -/
theorem scan_any {sx : Nat} {num nv : Value} {sl0' : Sl} {T0 : List Tok} (s : Bs) (hs : s.length ≤ 2048) (hB : Blk w o 1040 sx #[num, sl0'.v T0.length, nv] 81) (hR : Row w o 1041 132 5 sl0' T0.length (T0.flatMap tokC)) (K : TabL w o 1 keywordL) (G : TabL w o 2 signL) (hO : Ow w o) :
    Calls Tryz.prog 60 #[.pointer (some ⟨sx, 0, none⟩), sv s] w fun e' w' => e' = .returned (.tuple #[]) ∧ ∃ o' sl, Blk w' o' 1040 sx #[num, sl.v (scanP s).length, nv] 81 ∧ Row w' o' 1041 132 5 sl (scanP s).length ((scanP s).flatMap tokC) ∧ Stp (fun l => l = 1040 ∨ l = 1041 ∨ l = 1045 ∨ l = 1046) w o w' o' := by
  have hsz : (⟨s.toArray⟩ : ByteArray).size = s.length := by simp [ByteArray.size]
  have c1 := hB.has.cell 1
  have hlt := hB.has.lt
  simp only [List.getElem?_toArray, List.getElem?_cons_succ, List.getElem?_cons_zero, Sl.v] at c1
  have HB : Hid (Blk w o 1040 sx #[num, sl0'.v T0.length, nv] 81) := hB
  have HR : Hid (Row w o 1041 132 5 sl0' T0.length (T0.flatMap tokC)) := hR
  have HK : Hid (TabL w o 1 keywordL) := K
  have HG : Hid (TabL w o 2 signL) := G
  have HS : Hid (s.length ≤ 2048) := hs
  have hcap : T0.length ≤ sl0'.c ∨ sl0'.a = none := by
    rcases hR.form with ⟨h1, _⟩ | ⟨g, h1, h2⟩
    · exact .inr h1
    · exact .inl h2
  clear hB hR K G
  obtain ⟨N, HN⟩ : ∃ N, Hid (s.length = N) := ⟨_, rfl⟩
  rw [HN.out] at hsz hs
  have hsz2 : s.toArray.size = N := hsz
  go_enter Tryz.func60, Tryz.ntmps60
  refine wp_scope_straight ?_
  refine wp_seq ?_
  go_wp2_with fail
  refine wp_label ?_
  go_wp2_with fail
  obtain ⟨START, ST0⟩ := scan_start (s := s) hO HR.out
  obtain ⟨o1, HO1⟩ : ∃ o1, Hid (upd (upd o w.heap.size 1046) (w.heap.size + 1) 1045 = o1) := ⟨_, rfl⟩
  rw [HO1.out, HN.out] at START ST0
  have HS0 : Hid (Stp (fun _ => False) w o ((w.alloc (.cells (tokC (eofT N)).toArray 132)).alloc (.stringIter ⟨s.toArray⟩ 0)) o1) := ST0
  obtain ⟨W0, HW0⟩ : ∃ W0, Hid (((w.alloc (.cells (tokC (eofT N)).toArray 132)).alloc (.stringIter ⟨s.toArray⟩ 0)) = W0) := ⟨_, rfl⟩
  have HST : Hid (ScR W0 o1 s w.heap.size (w.heap.size + 1) W0 o1 0 0 (N + 1) [] sl0') := by
    show ScR _ _ _ _ _ _ _ _ _ _ _ _
    rw [← HW0.out]
    exact START
  rw [HW0.out] at HS0
  clear START ST0
  have B0 := HB.out.st HS0.out (fun x => x)
  have x0 := B0.has.cell 0
  simp only [List.getElem?_toArray, List.getElem?_cons_zero] at x0
  refine wp_loop_ghost (fun n a' w' => ∃ or q e f toks sl y7 y8 y9 y10 y11, FrS (.pointer (some ⟨sx, 0, none⟩)) (sv s) (Sl.v sl (List.length toks)) (.pointer (some ⟨w.heap.size, 0, none⟩)) (.int .i64 (e : Nat)) y7 y8 y9 y10 y11 (.pointer (some ⟨w.heap.size + 1, 0, none⟩)) a' ∧ ScR W0 o1 s w.heap.size (w.heap.size + 1) w' or q e f toks sl ∧ n + q = N) N ?_ ?_
  · refine ⟨o1, 0, 0, N + 1, [], sl0', undef, undef, undef, undef, undef, ⟨by kernel_rfl, by kernel_rfl, by kernel_rfl, by kernel_rfl, by kernel_rfl, by kernel_rfl, by kernel_rfl, by kernel_rfl, by kernel_rfl, by kernel_rfl, by kernel_rfl, by kernel_rfl, rfl⟩, ?_, rfl⟩
    have h1 := HST.out
    rw [← HW0.out] at h1 ⊢
    exact h1
  rintro n a w1 ⟨or, q, e, f, toks, sl, y7, y8, y9, y10, y11, H, h, hnq⟩
  refine scan_round (fun c a t v w hx => hx) HS.out h H x0 B0.lb (HK.out.st HS0.out (fun x => x)) (HG.out.st HS0.out (fun x => x)) ?_ ?_
  · intro a' w' or' q' e' f' toks' sl' y7 y8 y9 y10 y11 H' h' hq hq2
    have h1 := h'.qe
    have h2 := h'.el
    rw [HN.out] at h2 hq2
    exact ⟨N - q', by omega, or', q', e', f', toks', sl', y7, y8, y9, y10, y11, H', h', by omega⟩
  · intro a' w' or' toks' sl' t y6 y7 y8 y9 y10 y11 H' h'
    obtain ⟨u, rfl⟩ := H'.form
    have hla := h'.la
    have l0 := hla.cell 0
    have l1 := hla.cell 1
    have l2 := hla.cell 2
    have l3 := hla.cell 3
    have l4 := hla.cell 4
    have ll := hla.lt
    simp only [tokC, List.getElem?_toArray, List.getElem?_cons_succ, List.getElem?_cons_zero, Sl.v] at l0 l1 l2 l3 l4
    have HROW : Hid (w'.ownsRow 0 132 5 (sl'.v toks'.length) toks'.length (toks'.flatMap tokC)) := h'.row.own
    have htl := h'.tl
    have HSC : Hid (ScB W0 o1 s w.heap.size w' or' toks' sl' t) := h'
    obtain ⟨m, HTN⟩ : ∃ n : Nat, Hid (toks'.length = n) := ⟨_, rfl⟩
    rw [HN.out] at htl
    rw [HTN.out] at HROW htl ⊢
    clear hla h' H' H h hnq x0 B0 HST
    go_wp2_with (at_builtin; go_must (refine wpList_appN row_toks _ rfl (.tmp 205) (.tmp 207) rfl (sl'.v m) m (toks'.flatMap tokC) rfl (owns_alloc HROW.out _) w'.heap.size 1 1 (tokC t) rfl (Has.new _ _ _) rfl (by omega) (tokC_one _) ?bd ?go))
    case bd => omega
    case go =>
      intro g cap w2 q1 q2 q3 q4
      obtain ⟨b1, b2⟩ := scan_fin HB.out HS0.out HSC.out.row HSC.out.st HTN.out HSC.out.sc q1 q2 q3 q4
      have d1 := b1.cell 1
      have dz := b1.frozen 1
      have dl := b1.lt
      simp only [List.getElem?_toArray, List.getElem?_cons_succ, List.getElem?_cons_zero, Sl.v] at d1
      have FIN : Hid (∃ o' sl, Blk (w2.setCell ⟨sx, 1, none⟩ (.slice (some ⟨g, 0, none⟩) (m + 1) cap)) o' 1040 sx #[num, sl.v (scanP s).length, nv] 81 ∧ Row (w2.setCell ⟨sx, 1, none⟩ (.slice (some ⟨g, 0, none⟩) (m + 1) cap)) o' 1041 132 5 sl (scanP s).length ((scanP s).flatMap tokC) ∧ Stp (fun l => l = 1040 ∨ l = 1041 ∨ l = 1045 ∨ l = 1046) w o (w2.setCell ⟨sx, 1, none⟩ (.slice (some ⟨g, 0, none⟩) (m + 1) cap)) o') := b2
      clear b1 b2 q1 q2 q3 q4 HSC HROW
      go_wp2
      rw [Exit.noGoto_normal]
      go_end0
      exact ⟨rfl, FIN.out⟩
end
end Go.Proofs.Qxb6500574aGreatDoor
