/-
  THE WALK of run.enter.
-/
import Derived.Test.Qxb6500575aGreatDoorRLeave
namespace Go.Proofs.Qxb6500575aGreatDoor
open Go Go.RowKit
set_option linter.unusedVariables false
set_option linter.unusedSimpArgs false

theorem rowVal : IsRow Tryz.prog 59 150 .nilIface 1 16 := ⟨by kernel_rfl, by kernel_rfl, rfl, by decide⟩
theorem rowFrm : IsRow Tryz.prog 60 213 (.agg #[.int .i64 0, .int .i64 0, .int .i64 0, .int .i64 0, .string ⟨#[]⟩]) 5 48 := ⟨by kernel_rfl, by kernel_rfl, rfl, by decide⟩
section
variable {bx : Nat} {p k : Value} {L : InL} {x : InD} {w : World}
theorem InRep.pushed (h : InRep w bx p k L x) (v : V) {gg cap : Nat} {w5 : World} (q1 : w5.ownsRow 0 150 1 (.slice (some ⟨gg, 0, none⟩) (x.st.length + 1) cap) (x.st.length + 1) (x.st.reverse.map V.val ++ v.val.cells.toList))
    (q2 : Fr (fun j => (L.stV x).ownBlock = some j) (w.alloc (.cells v.val.cells 150)) w5) (q3 : (L.stV x).ownBlock = some gg ∨ gg = w.heap.size + 1) (q4 : gg < w5.heap.size) :
    (∀ i, w5.cell? ⟨bx, i, none⟩ = w.cell? ⟨bx, i, none⟩) ∧ (∀ i, w5.frozen? ⟨bx, i, none⟩ = false) ∧ bx < w5.heap.size ∧
    InRep (w5.setCell ⟨bx, 2, none⟩ (.slice (some ⟨gg, 0, none⟩) (x.st.length + 1) cap)) bx p k { L with sa := some ⟨gg, 0, none⟩, sc := cap } { x with st := v :: x.st } ∧
    InStep w (w5.setCell ⟨bx, 2, none⟩ (.slice (some ⟨gg, 0, none⟩) (x.st.length + 1) cap)) bx L { L with sa := some ⟨gg, 0, none⟩, sc := cap } := by
  have hne : (L.stV x).ownBlock ≠ some bx := owns_ne h.st h.here (by decide)
  have hH' : Has w5 bx _ _ := (h.here.alloc _).fr q2 hne
  obtain ⟨m1, m2, m3, m4, m5⟩ := app_net h.here hne q2 q1 (by decide) q3 q4 2
  have fin := h.putSt (v :: x.st) (sa2 := some ⟨gg, 0, none⟩) (sc2 := cap) m1 (by simpa using m2) (by simpa [V.cells] using m3) (fun k hk => by simp [Value.ownBlock] at hk; subst hk; exact m4)
  refine ⟨fun i => ?_, fun i => hH'.frozen i, hH'.lt, fin.1, fin.2⟩
  rw [hH'.cell, h.here.cell]
theorem InRep.framed (h : InRep w bx p k L x) (r : Frm) {gg cap : Nat} {w5 : World} (q1 : w5.ownsRow 0 213 5 (.slice (some ⟨gg, 0, none⟩) (x.fr.length + 1) cap) (x.fr.length + 1) (x.fr.reverse.flatMap frmCells ++ frmCells r))
    (q2 : Fr (fun j => (L.frV x).ownBlock = some j) (w.alloc (.cells (frmCells r).toArray 213)) w5) (q3 : (L.frV x).ownBlock = some gg ∨ gg = w.heap.size + 1) (q4 : gg < w5.heap.size) :
    (∀ i, w5.cell? ⟨bx, i, none⟩ = w.cell? ⟨bx, i, none⟩) ∧ (∀ i, w5.frozen? ⟨bx, i, none⟩ = false) ∧ bx < w5.heap.size ∧
    InRep (w5.setCell ⟨bx, 3, none⟩ (.slice (some ⟨gg, 0, none⟩) (x.fr.length + 1) cap)) bx p k { L with fa := some ⟨gg, 0, none⟩, fc := cap } { x with fr := r :: x.fr } ∧
    InStep w (w5.setCell ⟨bx, 3, none⟩ (.slice (some ⟨gg, 0, none⟩) (x.fr.length + 1) cap)) bx L { L with fa := some ⟨gg, 0, none⟩, fc := cap } := by
  have hne : (L.frV x).ownBlock ≠ some bx := owns_ne h.fr h.here (by decide)
  have hH' : Has w5 bx _ _ := (h.here.alloc _).fr q2 hne
  obtain ⟨m1, m2, m3, m4, m5⟩ := app_net h.here hne q2 q1 (by decide) q3 q4 3
  have fin := h.putFr (r :: x.fr) (fa2 := some ⟨gg, 0, none⟩) (fc2 := cap) m1 (by simpa using m2) (by simpa using m3) (fun k hk => by simp [Value.ownBlock] at hk; subst hk; exact m4)
  refine ⟨fun i => ?_, fun i => hH'.frozen i, hH'.lt, fin.1, fin.2⟩
  rw [hH'.cell, h.here.cell]
theorem zeros_snoc (ls : List UInt8) (t : UInt8) : zeros (ls ++ [t]) = word t 0 :: zeros ls := by
  have e : wrap32 0 = 0 := by unfold wrap32; omega
  unfold zeros word
  rw [e]
  simp
set_option maxRecDepth 100000
set_option maxHeartbeats 1000000
theorem renter_any {bp : Nat} (h : InRep w bx (.pointer (some ⟨bp, 0, none⟩)) k L x) {S : Nat → Prop} {LP : ProgL} {P : ProgD} (hP : ProgRep S w bp LP P) (hpl : P.funs.length ≤ 1000) {f : Nat} {u : FunD} (hu : P.funs[f]? = some u)
    {args rest : List V} (hs : x.st = args ++ rest) (ht : args.map V.ty = u.params.reverse) (low : Nat) (hlow : low ≤ rest.length) (hl : x.st.length ≤ 900) (hll : u.locals.length ≤ 4) (hfl : x.fr.length ≤ 900) :
    Calls Tryz.prog 64 #[.pointer (some ⟨bx, 0, none⟩), .int .i64 f, .int .i64 low] w fun e w' => e = .returned (.tuple #[]) ∧ ∃ L', InRep w' bx (.pointer (some ⟨bp, 0, none⟩)) k L' { x with st := zeros u.locals ++ x.st, fr := { f := f, pc := 0, base := rest.length, floor := (zeros u.locals ++ x.st).length, res := u.results } :: x.fr } ∧ InStep w w' bx L L' := by
  have hsig : P.sig f = (u, true) := by unfold ProgD.sig; rw [if_neg (by omega)]; simp [hu]
  have c0 := h.here.cell 0
  simp at c0
  have SIG : Hid (Calls _ _ _ _ _) := sig_any S bp LP P w f hP hpl
  rw [hsig] at SIG
  have TOP : Hid (∀ n, Calls Tryz.prog 94 #[.pointer (some ⟨bx, 0, none⟩), sv u.params, .int .i64 low] (w.drewN n) (fun e w' => e = .returned (.int .i64 rest.length) ∧ w' = w.drewN n)) := fun n => rtop_any (h.drewN n) hs u.params ht low hlow (by omega)
  have H0 : Hid (∀ n, InRep (w.drewN n) bx (.pointer (some ⟨bp, 0, none⟩)) k L { x with st := zeros (u.locals.take 0) ++ x.st } ∧ InStep w (w.drewN n) bx L L) := fun n => ⟨by simpa [zeros] using h.drewN n, (InStep.refl w bx L).drewN n⟩
  have HL : Hid (x.st.length ≤ 900) := hl
  have HF : Hid (x.fr.length ≤ 900) := hfl
  clear h hP hsig hs ht hl hfl hu
  go_enter Tryz.func64, Tryz.ntmps64
  go_wp2_with fail
  refine SIG.out.mono ?_
  rintro e w1 ⟨rfl, n1, rfl⟩
  clear SIG
  go_wp2_with fail
  refine (need_ok _ _).mono ?_
  rintro e w1 ⟨rfl, rfl⟩
  go_wp2_with fail
  refine (TOP.out _).mono ?_
  rintro e w1 ⟨rfl, rfl⟩
  clear TOP
  go_wp2
  go_loopw [31] (fun i wr => ∃ (j : Nat) (L' : InL), j ≤ u.locals.length ∧ i = .int .i64 j ∧ Hid (InRep wr bx (.pointer (some ⟨bp, 0, none⟩)) k L' { x with st := zeros (u.locals.take j) ++ x.st } ∧ InStep w wr bx L L')) (fun i _ => u.locals.length - (intOf i).toNat)
  case atStart => exact ⟨0, L, Nat.zero_le _, rfl, H0.out _⟩
  case round =>
    obtain ⟨j, L', hj, rfl, HR⟩ := hrel
    by_cases hlt : j < u.locals.length
    · have hb : ∀ h, (((⟨u.locals.toArray⟩ : ByteArray)[j]'h).toNat : Int) = u.locals[j].toNat := fun h => rfl
      have hb2 : ∀ h, (((⟨u.locals.toArray⟩ : ByteArray)[j]'h)) = u.locals[j] := fun h => rfl
      obtain ⟨Z, hZ⟩ : ∃ Z, Z = zeros (u.locals.take j) ++ x.st := ⟨_, rfl⟩
      have HZ : Hid (Z = zeros (u.locals.take j) ++ x.st) := hZ
      rw [← hZ] at HR
      have hZl : Z.length ≤ 950 := by
        rw [hZ]
        have := HL.out
        simp [zeros_len]
        omega
      clear hZ
      have c2 := HR.out.1.here.cell 2
      simp at c2
      have hlt1 := HR.out.1.here.lt
      have NX : Hid (zeros (u.locals.take (j + 1)) ++ x.st = word u.locals[j] 0 :: Z) := by
        show _ = _
        rw [HZ.out, List.take_succ_eq_append_getElem hlt, zeros_snoc]; rfl
      go_wp2
      refine wp_region_wapp rowVal 8 (by kernel_rfl) (by kernel_rfl) (fun _ _ _ _ _ h => h) _ _ _ _ rfl (.tmp 38) 42 43 44 rfl rfl rfl rfl rfl rfl rfl _ _ _ HR.out.1.st (word u.locals[j] 0).val (by rw [V.cells]; rfl) (by decide) (by simp [V.cells, V.oneCell]) (by simp; omega) ?_
      intro gg cap w5 q1 q2 q3 q4
      obtain ⟨r1, r2, r3, r4, r5⟩ := HR.out.1.pushed (word u.locals[j] 0) q1 q2 q3 q4
      have FIN : Hid (_ ∧ _) := And.intro r4 (HR.out.2.trans r5)
      have d2 := r1 2
      rw [c2] at d2
      have e2 := r2 2
      clear q1 q2 q3 q4 r4 r5 r1 r2 HR
      simp only [List.take_succ_cons, List.take_zero]
      repeat go_big_quiet_step (fail)
      refine wpQuiet_nil ⟨?_, by simp, by simp, rfl, ?_⟩
      · intro K hK
        go_wp2_with fail
        refine (word_any _ 0 _).mono ?_
        rintro e w' ⟨rfl, rfl⟩
        go_wp2
        exact hK
      · go_wp2
        refine ⟨⟨j + 1, { L' with sa := some ⟨gg, 0, none⟩, sc := cap }, by omega, by go_num, ?_⟩, ?_⟩
        · have := FIN.out
          rw [← NX.out] at this
          exact this
        · simp [intOf]; omega
    · have hje : j = u.locals.length := by omega
      subst hje
      have HR2 : Hid (InRep wr bx (.pointer (some ⟨bp, 0, none⟩)) k L' { x with st := zeros u.locals ++ x.st } ∧ InStep w wr bx L L') := by
        have := HR.out
        rw [List.take_length] at this
        exact this
      clear HR
      obtain ⟨Z, hZ⟩ : ∃ Z, Z = zeros u.locals ++ x.st := ⟨_, rfl⟩
      rw [← hZ] at HR2
      have hZl : Z.length ≤ 950 := by
        rw [hZ]
        have := HL.out
        simp [zeros_len]
        omega
      have HZ : Hid (Z = zeros u.locals ++ x.st) := hZ
      clear hZ
      have c2 := HR2.out.1.here.cell 2
      have c3 := HR2.out.1.here.cell 3
      simp at c2 c3
      have hlt1 := HR2.out.1.here.lt
      go_wp2
      refine wp_region_app rowFrm 14 (by kernel_rfl) (by kernel_rfl) (fun _ _ _ _ _ h => h) _ _ _ rfl (.tmp 61) (.tmp 52) 62 63 rfl rfl rfl rfl rfl rfl _ _ _ HR2.out.1.fr (.agg #[.int .i64 f, .int .i64 0, .int .i64 rest.length, .int .i64 Z.length, sv u.results]) rfl (by decide) (by simp [Value.cells, Value.oneCell']) (by have := HF.out; simp only; omega) ?_
      intro gg cap w5 q1 q2 q3 q4
      obtain ⟨r1, r2, r3, r4, r5⟩ := HR2.out.1.framed { f := f, pc := 0, base := rest.length, floor := Z.length, res := u.results } q1 q2 q3 q4
      have FIN : Hid (_ ∧ _) := And.intro r4 (HR2.out.2.trans r5)
      have d3 := r1 3
      rw [c3] at d3
      have d2 := r1 2
      rw [c2] at d2
      have e3 := r2 3
      clear q1 q2 q3 q4 r4 r5 r1 r2 HR2
      simp only [List.take_succ_cons, List.take_zero]
      repeat go_big_quiet_step (fail)
      refine wpQuiet_nil ⟨rfl, rfl, by simp, rfl, ?_⟩
      go_wp2
      go_end0
      have e9 : (zeros u.locals).length + x.st.length = Z.length := by rw [HZ.out]; simp
      rw [← HZ.out, e9]
      exact ⟨rfl, _, FIN.out⟩
end
end Go.Proofs.Qxb6500575aGreatDoor
