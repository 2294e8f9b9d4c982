/-
  THE WALK of modm.Module.AddFunc.
-/
import Derived.Test.Qxb6500575aGreatDoorCopyRow3
import Derived.OwnWalk
namespace Go.Proofs.Qxb6500575aGreatDoor
open Go Go.RowKit
set_option linter.unusedVariables false
set_option linter.unusedSimpArgs false

theorem rowIns : IsRow Tryz.prog 30 67 (.agg #[.int .i64 0, .int .i64 0, .string ⟨#[]⟩]) 3 32 := ⟨by kernel_rfl, by kernel_rfl, rfl, by decide⟩
theorem rowFn : IsRow Tryz.prog 111 117 (.agg #[.int .i64 0, .string ⟨#[]⟩, .slice none 0 0]) 3 48 := ⟨by kernel_rfl, by kernel_rfl, rfl, by decide⟩

def ModD.addFunc (m : ModD) (typ : Int) (locals : List UInt8) (code : List Ins) : ModD × Int :=
  if 4 < locals.length ∨ 24 < code.length then (m, 1)
  else if 4 ≤ m.funcs.length then (m, 2)
  else if typ < 0 ∨ 4294967295 < typ ∨ ¬ typesOk locals = true then (m, 3)
  else if ¬ nestR code [] = 0 then (m, nestR code [])
  else ({ m with funcs := m.funcs ++ [⟨typ, locals, code⟩] }, 0)

/-- the module, behind steps that turned nothing of it -/
theorem ModRep.newer {S : Nat → Prop} {w w' : World} {bm : Nat} {L : ModL} {m : ModD} (h : ModRep S w bm L m) (hf : Fr (fun _ => False) w w') : (∃ L', ModRep (Own S w w') w' bm L' m) ∧ Fr S w w' :=
  ⟨⟨L, (h.fr hf (fun _ _ h => h)).sub fun _ => .inl⟩, hf.weaken (fun _ _ h => h.elim)⟩
theorem nestR_nil : nestR [] [] = 3 := rfl

set_option maxRecDepth 100000 in
set_option maxHeartbeats 2000000 in
theorem addFunc_any (S : Nat → Prop) (bm : Nat) (L : ModL) (m : ModD) (typ : Int) (locals : List UInt8) (code : List Ins) (v : Value) (w : World) (h : ModRep S w bm L m) (hv : w.ownsRow 0 67 3 v code.length (insCells code)) (hcl : code.length ≤ 1000) :
    Calls Tryz.prog 30 #[.pointer (some ⟨bm, 0, none⟩), .int .i64 typ, sv locals, v] w fun e w' => e = .returned (.int .i64 (m.addFunc typ locals code).2) ∧ (∃ L', ModRep (Own S w w') w' bm L' (m.addFunc typ locals code).1) ∧ Fr S w w' := by
  obtain ⟨va, vc, rfl⟩ : ∃ va vc, v = .slice va code.length vc := by
    rcases hv.2 with ⟨h1, h2⟩ | ⟨g, cap, cur, h1, _⟩
    · exact ⟨none, 0, by rw [h1, h2]⟩
    · exact ⟨_, _, h1⟩
  have c5 := h.here.cell 5
  simp at c5
  by_cases h1 : 4 < locals.length
  · have e0 : m.addFunc typ locals code = (m, 1) := by unfold ModD.addFunc; rw [if_pos (.inl h1)]
    rw [e0]
    have fin := h.still
    clear e0 h hv
    go_enter Tryz.func30, Tryz.ntmps30
    go_wp2
    go_ret
    exact ⟨rfl, fin⟩
  by_cases h2 : 24 < code.length
  · have e0 : m.addFunc typ locals code = (m, 1) := by unfold ModD.addFunc; rw [if_pos (.inr h2)]
    rw [e0]
    have fin := h.still
    clear e0 h hv
    go_enter Tryz.func30, Tryz.ntmps30
    go_wp2
    go_ret
    exact ⟨rfl, fin⟩
  by_cases h3 : 4 ≤ m.funcs.length
  · have e0 : m.addFunc typ locals code = (m, 2) := by unfold ModD.addFunc; rw [if_neg (by omega), if_pos h3]
    rw [e0]
    have fin := h.still
    clear e0 h hv
    go_enter Tryz.func30, Tryz.ntmps30
    go_wp2
    go_ret
    exact ⟨rfl, fin⟩
  by_cases h4 : typ < 0
  · have e0 : m.addFunc typ locals code = (m, 3) := by unfold ModD.addFunc; rw [if_neg (by omega), if_neg h3, if_pos (.inl h4)]
    rw [e0]
    have fin := h.still
    clear e0 h hv
    go_enter Tryz.func30, Tryz.ntmps30
    go_wp2
    go_ret
    exact ⟨rfl, fin⟩
  by_cases h5 : 4294967295 < typ
  · have e0 : m.addFunc typ locals code = (m, 3) := by unfold ModD.addFunc; rw [if_neg (by omega), if_neg h3, if_pos (.inr (.inl h5))]
    rw [e0]
    have fin := h.still
    clear e0 h hv
    go_enter Tryz.func30, Tryz.ntmps30
    go_wp2
    go_ret
    exact ⟨rfl, fin⟩
  have HT : Hid (Calls _ _ _ _ _) := types_any locals w (by omega)
  cases h6 : typesOk locals with
  | false =>
    have e0 : m.addFunc typ locals code = (m, 3) := by unfold ModD.addFunc; rw [if_neg (by omega), if_neg h3, if_pos (.inr (.inr (by rw [h6]; decide)))]
    rw [e0]
    have FIN : Hid (_ ∧ _) := h.still
    clear e0 h hv
    go_enter Tryz.func30, Tryz.ntmps30
    go_wp2_with fail
    refine HT.out.mono ?_
    rintro e w1 ⟨rfl, hw1⟩
    obtain rfl := hw1.symm
    rw [h6]
    go_wp2
    go_ret
    exact ⟨rfl, FIN.out⟩
  | true =>
    have HN : Hid (Calls _ _ _ _ _) := nest_any code _ w hv hcl
    obtain ⟨r, hr⟩ : ∃ r, r = nestR code [] := ⟨_, rfl⟩
    have HR : Hid (r = nestR code []) := hr
    by_cases h7 : r = 0
    · have e0 : m.addFunc typ locals code = ({ m with funcs := m.funcs ++ [⟨typ, locals, code⟩] }, 0) := by
        unfold ModD.addFunc
        rw [if_neg (by omega), if_neg h3, if_neg (by rw [h6]; simp; omega), if_neg (by rw [← hr]; simpa using h7)]
      rw [e0]
      have hpos : 0 < code.length := by
        cases code with
        | nil => rw [nestR_nil] at hr; omega
        | cons _ _ => simp
      obtain ⟨ti, hti, hz, hsz, hby⟩ := info_parts rowIns.hi
      have H : Hid (ModRep S w bm L m) := h
      have HV : Hid (w.ownsRow 0 67 3 (.slice va code.length vc) code.length (insCells code)) := hv
      clear e0 h hv hr
      go_enter Tryz.func30, Tryz.ntmps30
      go_wp2_with fail
      refine HT.out.mono ?_
      rintro e w1 ⟨rfl, hw1⟩
      obtain rfl := hw1.symm
      clear hw1 HT
      rw [h6]
      go_wp2_with fail
      refine HN.out.mono ?_
      rintro e w1 ⟨rfl, hF1⟩
      rw [← HR.out]
      subst h7
      have HF1 : Hid (Fr (fun _ => False) w w1) := hF1
      clear HN hF1 HR
      go_wp2_with (at_make; go_must (refine wpList_make_full _ rfl _ _ 30 rfl 0 67 ti (.agg #[.int .i64 0, .int .i64 0, .string ⟨#[]⟩]) 3 rowIns.ht hti hz hsz .i64 .i64 _ _ code.length rfl rfl rfl rfl (by rw [hby]; omega) (by unfold maxLen; omega) (Nat.zero_le _) ?mk))
      case mk =>
        intro w2 hown hgrow
        have F2 : Fr (fun _ => False) w w2 := HF1.out.trans ((Fr.of_grown hgrow).weaken (fun k _ h => by cases h)) (fun _ _ h => h)
        have HF2 : Hid (Fr (fun _ => False) w w2) := F2
        have HO : Hid (World.ownsRow w2 0 67 3 _ code.length _) := hown
        have hgw : w.heap.size ≤ w1.heap.size := HF1.out.size
        clear hown hgrow F2 HF1
        generalize w1.heap.size = gc at *
        obtain ⟨w3, hrun, hown3, hF3⟩ := run_copy_full (P := Tryz.prog) w2 30 30 3 67 3 gc code.length (.slice va code.length vc) code.length _ (insCells code) rowIns.ht (by rw [hti]; simp [hsz]) HO.out (owns_fr HV.out HF2.out (fun _ _ h => h)) hpos (insCells_one code)
        have F3 : Fr (fun _ => False) w w3 := HF2.out.trans hF3 (fun j hj e => by omega)
        have HF3 : Hid (Fr (fun _ => False) w w3) := F3
        have HO3 : Hid (World.ownsRow w3 0 67 3 (.slice (some ⟨gc, 0, none⟩) code.length code.length) code.length (insCells code)) := hown3
        have HM3 : Hid (ModRep (Own S w w3) w3 bm L m) := (H.out.fr F3 (fun _ _ h => h)).sub (fun _ => .inl)
        clear hown3 hF3 F3 HF2 HO H HV
        have k5 := HM3.out.here.cell 5
        have kf := HM3.out.here.frozen 5
        have kl := HM3.out.here.lt
        simp at k5
        go_wp2_with (at_builtin; go_must (refine wpList_app rowFn _ rfl (.tmp 51) (.tmp 56) rfl _ _ _ rfl (owns_alloc HM3.out.funcs _) _ (fnCells (⟨typ, locals, code⟩, .slice (some ⟨gc, 0, none⟩) code.length code.length)) rfl (Has.new _ _ _) rfl ?one ?bd ?go))
        case one => intro u hu; simp [fnCells] at hu; rcases hu with rfl | rfl | rfl <;> rfl
        case bd => omega
        case go =>
          intro g cap w4 q1 q2 q3 q4
          have hne := owns_ne HM3.out.funcs HM3.out.here (by decide)
          have hH1 : Has w4 bm _ _ := (HM3.out.here.alloc _).fr q2 hne
          have d0 := hH1.cell 5
          simp at d0
          have e0 := hH1.frozen 5
          obtain ⟨n1, n2, n3, n4, n5⟩ := app_net HM3.out.here hne q2 q1 (by decide) q3 q4 5
          have hcode := HM3.out.far n1 HO3.out (by decide) (owns_apart HO3.out HM3.out.funcs (by decide))
          have hgl := owns_lt HO3.out gc rfl
          obtain ⟨⟨L1, M1⟩, F1⟩ := HM3.out.putFuncs ⟨typ, locals, code⟩ _ hcode (fun k hk => by simp [Value.ownBlock] at hk; subst hk; exact .inl (.inr ⟨hgw, hgl⟩)) n1 n2 n3 n4 n5
          have M2 := M1.sub (Own.trans n1.size HF3.out.size)
          have FM : Hid (ModRep _ _ bm L1 _) := M2
          have FF : Hid (Fr S w _) := Own.step F1 (HF3.out.weaken (fun _ _ h => h.elim))
          clear n1 n2 n3 n4 n5 q1 q2 q3 q4 hH1 hne M1 M2 F1 HM3 HF3 HO3 hcode
          go_wp2
          go_ret
          exact ⟨rfl, ⟨L1, FM.out⟩, FF.out⟩
    · have e0 : m.addFunc typ locals code = (m, r) := by
        unfold ModD.addFunc
        rw [if_neg (by omega), if_neg h3, if_neg (by rw [h6]; simp; omega), if_pos (by rw [← hr]; exact h7), ← hr]
      rw [e0]
      have H : Hid (ModRep S w bm L m) := h
      have h7' : (r != 0) = true := by simpa using h7
      clear e0 h hv hr
      go_enter Tryz.func30, Tryz.ntmps30
      go_wp2_with fail
      refine HT.out.mono ?_
      rintro e w1 ⟨rfl, hw1⟩
      obtain rfl := hw1.symm
      rw [h6]
      go_wp2_with fail
      refine HN.out.mono ?_
      rintro e w1 ⟨rfl, hF1⟩
      rw [← HR.out]
      have FIN : Hid (_ ∧ _) := H.out.newer hF1
      clear hF1
      go_wp2
      go_ret
      exact ⟨rfl, FIN.out⟩
end Go.Proofs.Qxb6500575aGreatDoor
