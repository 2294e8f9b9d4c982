/-
  THE WALK of the parser layer: the parser: results.
-/
import Derived.Test.Qxb6500574aGreatDoorWPa4
namespace Go.Proofs.Qxb6500574aGreatDoor
open Go Go.RowKit
set_option linter.unusedVariables false
set_option linter.unusedSimpArgs false
open Go.Lib
section
set_option maxRecDepth 100000
set_option maxHeartbeats 1000000
variable {w : World} {o : Nat → Nat} {bp : Nat} {sl : Sl} {T : List Tok} {s : PSt} {n room : Nat}
theorem par16 {p : Nat} : parN T (n + 1) 16 room [p] s = if endsB (curT T s).k = true then okP s ⟨10, 0, 0, 0, 0, 0, [], p⟩ else PBd (parN T n 0 (room - 1) [1] s) (fun v s => if (curT T s).k = 45 then PBd (parN T n 0 (room - 1) [1] s.nxt) (fun u s => okP s ⟨10, v.getD 0 0, u.getD 0 0, 0, 0, 0, [], p⟩) else okP s ⟨10, v.getD 0 0, 0, 0, 0, 0, [], p⟩) := by
  conv => lhs; unfold parN
  simp (config := {decide := true}) only [if_true, if_false]
  rfl
theorem results_any {p : Nat} (C : PCs T n) (g : PGd w o bp T sl s) (r1 : 1 ≤ room) (hr : s.loops + room ≤ 12) (hx : parN T (n + 1) 16 room [p] s ≠ x99) : Calls Tryz.prog 161 #[.pointer (some ⟨bp, 0, none⟩), .int .i64 (room : Nat), .int .i64 (p : Nat)] w (ExQ w o bp T sl s (parN T (n + 1) 16 room [p] s)) := by
  have E := @par16 T s n room p
  obtain ⟨R, HR⟩ : ∃ R, Hid (parN T (n + 1) 16 room [p] s = R) := ⟨_, rfl⟩
  have HF0 : Hid (∀ v s', R = .inr (v, s') → EF s s' (v.getD 0 0)) := fun v s' h => EF.stp g.k ((PA.all g.g.tok (n + 1)).p16 room [p] s (v, s') g.k (HR.out.trans h) r1 (by omega))
  rw [HR.out] at hx E ⊢
  have hnew := g.r.new
  have hn1 := g.k.n1
  have hb := g.r.cells.1
  have HG : Hid (PGd w o bp T sl s) := g
  have hrm : ((room - 1 : Nat) : Int) = (room : Int) - 1 := by omega
  have hr12 : room ≤ 12 := by omega
  have A0 := fun ob => (g.alloc ob).r.ends
  have HEN : Hid (∀ ob, Calls Tryz.prog 97 #[.pointer (some ⟨bp, 0, none⟩)] (w.alloc ob) fun e w' => e = .returned (.bool (endsB (curT T s).k)) ∧ w' = w.alloc ob) := A0
  clear A0
  by_cases he : endsB (curT T s).k = true
  · rw [if_pos he] at E
    rw [he] at HEN
    have HE : Hid (R = okP s ⟨10, 0, 0, 0, 0, 0, [], p⟩) := E
    clear g C E hx HR
    go_enter Tryz.func161, Tryz.ntmps161
    go_wp2_with fail
    refine (HEN.out _).mono ?_
    rintro e1 w1 ⟨rfl, rfl⟩
    go_wp2_with fail
    go_ret
    have g := HG.out
    refine ⟨(Stp.refl _ _ _).alloc _, .inr ⟨_, _, _, _, HE.out, rfl, ExS.root (kids := []) (ls := []) (m := []) (Stp.refl _ _ _) g.r.ow g.r (HF0.out _ _ HE.out) rfl (fun x hx => by cases hx) (fun L hL => by cases hL) (Mm.nil _ _) ?_⟩⟩
    have := Shp.ret (p := p) (b := w.heap.size) (lo := s.nodes.length - 1) (.inl ⟨rfl, rfl, rfl, rfl⟩) (.inl ⟨rfl, rfl, rfl, rfl⟩)
    rw [show s.nodes.length - 1 + 1 = s.nodes.length by omega] at this
    exact this
  · rw [if_neg he] at E
    have hx2 : parN T n 0 (room - 1) [1] s ≠ x99 := PB_ne (by rw [← E]; exact hx)
    rw [show endsB (curT T s).k = false by simpa using he] at HEN
    have EX : Hid (∀ w1 s1, PGd w1 o bp T sl s1 → parN T n 0 (room - 1) [1] s1 ≠ x99 → Calls Tryz.prog 159 #[.pointer (some ⟨bp, 0, none⟩), .int .i64 ((room : Int) - 1), .int .i64 1] w1 (ExQ w1 o bp T sl s1 (parN T n 0 (room - 1) [1] s1))) := fun w1 s1 g1 h1 => by
      have := C.c0 (x := 1) g1 (by omega) (by omega) (by omega) h1
      rw [hrm] at this
      exact this
    have HX2 : Hid (parN T n 0 (room - 1) [1] s ≠ x99) := hx2
    have HE : Hid (R = PBd (parN T n 0 (room - 1) [1] s) (fun v s => if (curT T s).k = 45 then PBd (parN T n 0 (room - 1) [1] s.nxt) (fun u s => okP s ⟨10, v.getD 0 0, u.getD 0 0, 0, 0, 0, [], p⟩) else okP s ⟨10, v.getD 0 0, 0, 0, 0, 0, [], p⟩)) := E
    have HX : Hid (R ≠ x99) := hx
    clear g C E hx HR hx2
    go_enter Tryz.func161, Tryz.ntmps161
    go_wp2_with fail
    refine (HEN.out _).mono ?_
    rintro e1 w1 ⟨rfl, rfl⟩
    go_wp2_with fail
    refine (EX.out _ s (HG.out.alloc _) HX2.out).mono ?_
    rintro e2 w2 ⟨q1, q2⟩
    have d := q1.has (Has.new w #[.int .i64 p, .nilIface, .nilIface] 381) (by rw [hnew]; omega)
    have d1 := d.cell 1
    have dz := d.frozen 1
    have dl := d.lt
    simp only [List.getElem?_toArray, List.getElem?_cons_succ, List.getElem?_cons_zero] at d1
    have HD : Hid (Has w2 w.heap.size #[.int .i64 p, .nilIface, .nilIface] 381) := d
    have HQ1 : Hid (Stp (fun l => l = 1043) w o w2 o) := (Stp.fresh _ o ((Fr.refl _ _).alloc _)).trans q1
    clear q1 d
    rcases q2 with ⟨y, hy, rfl, hpe⟩ | ⟨v, s2, tt, b, hy, rfl, X⟩
    · have HPE : Hid (PErr (w2.setCell ⟨w.heap.size, 1, none⟩ .nilIface) o bp y.1 y.2) := hpe.put hnew
      have HE2 : Hid (R = .inl y) := by
        show R = _
        rw [HE.out, hy]; rfl
      clear hpe hy
      go_wp2_with fail
      go_ret
      exact ⟨HQ1.out.own (p := ⟨w.heap.size, 1, none⟩) (Nat.le_refl _) _, .inl ⟨y, HE2.out, rfl, HPE.out⟩⟩
    · have HE2 : Hid (R = if (curT T s2).k = 45 then PBd (parN T n 0 (room - 1) [1] s2.nxt) (fun u s => okP s ⟨10, v.getD 0 0, u.getD 0 0, 0, 0, 0, [], p⟩) else okP s2 ⟨10, v.getD 0 0, 0, 0, 0, 0, [], p⟩) := by
        show R = _
        rw [HE.out, hy]; rfl
      have HD3 : Hid (Has (w2.setCell ⟨w.heap.size, 1, none⟩ (.iface tt (.pointer (some ⟨b, 0, none⟩)))) w.heap.size #[.int .i64 p, .iface tt (.pointer (some ⟨b, 0, none⟩)), .nilIface] 381) := HD.out.put 1 _
      have hz1 : (w.alloc (.cells #[.int .i64 p, .nilIface, .nilIface] 381)).heap.size = w.heap.size + 1 := by simp
      have hXt := X.t
      rw [hz1] at hXt
      have HT3 : Hid (TrA (w2.setCell ⟨w.heap.size, 1, none⟩ (.iface tt (.pointer (some ⟨b, 0, none⟩)))) (Fz (w.heap.size + 1) w2.heap.size) s2.nodes (s.nodes.length - 1) (v.getD 0 0) (.iface tt (.pointer (some ⟨b, 0, none⟩)))) := hXt.put (by omega) (Nat.le_refl _)
      have HQ3 : Hid (Stp (fun l => l = 1043) w o (w2.setCell ⟨w.heap.size, 1, none⟩ (.iface tt (.pointer (some ⟨b, 0, none⟩)))) o) := HQ1.out.own (p := ⟨w.heap.size, 1, none⟩) (Nat.le_refl _) _
      have HG3 : Hid (PGd (w2.setCell ⟨w.heap.size, 1, none⟩ (.iface tt (.pointer (some ⟨b, 0, none⟩)))) o bp T sl s2) := (HG.out.st HQ1.out X.r X.f.ok).put hnew
      have HF : Hid (EF s s2 (v.getD 0 0)) := X.f
      have hb2 := X.r.cells.1
      clear X hXt hy
      by_cases h45 : (curT T s2).k = 45
      · rw [if_pos h45] at HE2
        have hx3 : Hid (parN T n 0 (room - 1) [1] s2.nxt ≠ x99) := PB_ne (by rw [← HE2.out]; exact HX.out)
        have AC : Hid (Calls Tryz.prog 224 #[.pointer (some ⟨bp, 0, none⟩), .int .i64 45] (w2.setCell ⟨w.heap.size, 1, none⟩ (.iface tt (.pointer (some ⟨b, 0, none⟩)))) fun e w' => e = .returned (.bool true) ∧ PRep w' o bp T sl s2.nxt ∧ Stp (fun l => l = 1043) (w2.setCell ⟨w.heap.size, 1, none⟩ (.iface tt (.pointer (some ⟨b, 0, none⟩)))) o w' o) := HG3.out.r.accept_yes HG3.out.g h45 (by decide) (by decide)
        go_wp2_with fail
        refine AC.out.mono ?_
        rintro e3 w4 ⟨rfl, q3, q4⟩
        have HG4 : Hid (PGd w4 o bp T sl s2.nxt) := HG3.out.st q4 q3 ((Alike.nxt s2).sok HG3.out.k)
        have HQ4 : Hid (Stp (fun l => l = 1043) w o w4 o) := HQ3.out.trans q4
        have hz4 := q4.fr.size
        have hz3 : (w2.setCell ⟨w.heap.size, 1, none⟩ (.iface tt (.pointer (some ⟨b, 0, none⟩)))).heap.size = w2.heap.size := by simp
        rw [hz3] at hz4
        have HD4 : Hid (Has w4 w.heap.size #[.int .i64 p, .iface tt (.pointer (some ⟨b, 0, none⟩)), .nilIface] 381) := q4.has HD3.out (by rw [hnew]; omega)
        have HT4 : Hid (TrA w4 (Fz (w.heap.size + 1) w2.heap.size) s2.nodes (s.nodes.length - 1) (v.getD 0 0) (.iface tt (.pointer (some ⟨b, 0, none⟩)))) := HT3.out.stp q4 HG.out.r.ow (by omega) (by rw [hz3]; exact Nat.le_refl _) (Nat.le_refl _) (Nat.le_refl _)
        clear q3 q4 HD3 HT3 HQ3 HG3 AC
        go_wp2_with fail
        refine (EX.out _ _ HG4.out hx3.out).mono ?_
        rintro e5 w5 ⟨q5, q6⟩
        have HD5 : Hid (Has w5 w.heap.size #[.int .i64 p, .iface tt (.pointer (some ⟨b, 0, none⟩)), .nilIface] 381) := q5.has HD4.out (by rw [hnew]; omega)
        have HQ5 : Hid (Stp (fun l => l = 1043) w o w5 o) := HQ4.out.trans q5
        have HT5 : Hid (TrA w5 (Fz (w.heap.size + 1) w2.heap.size) s2.nodes (s.nodes.length - 1) (v.getD 0 0) (.iface tt (.pointer (some ⟨b, 0, none⟩)))) := HT4.out.stp q5 HG.out.r.ow (by omega) hz4 (Nat.le_refl _) (Nat.le_refl _)
        have hz5 := q5.fr.size
        have k2 := HD5.out.cell 2
        have kz := HD5.out.frozen 2
        have kl := HD5.out.lt
        simp only [List.getElem?_toArray, List.getElem?_cons_succ, List.getElem?_cons_zero] at k2
        clear q5 HD4 HT4
        rcases q6 with ⟨y, hy, rfl, hpe⟩ | ⟨u, s5, t5, b5, hy, rfl, X⟩
        · have HPE : Hid (PErr (w5.setCell ⟨w.heap.size, 2, none⟩ .nilIface) o bp y.1 y.2) := hpe.put hnew
          have HE5 : Hid (R = .inl y) := by
            show R = _
            rw [HE2.out, hy]; rfl
          clear hpe hy
          go_wp2_with fail
          go_ret
          exact ⟨HQ5.out.own (p := ⟨w.heap.size, 2, none⟩) (Nat.le_refl _) _, .inl ⟨y, HE5.out, rfl, HPE.out⟩⟩
        · have HE5 : Hid (R = .inr ([s5.nodes.length], s5.add ⟨10, v.getD 0 0, u.getD 0 0, 0, 0, 0, [], p⟩)) := by
            show R = _
            rw [HE2.out, hy]; rfl
          have HX5 : Hid (ExS w4 o bp T sl s2.nxt s5 (u.getD 0 0) w5 (.iface t5 (.pointer (some ⟨b5, 0, none⟩)))) := X
          clear X hy
          go_wp2_with fail
          go_ret
          have X := HX5.out
          have f2 := HF.out
          have f5 := X.f.nxt
          have hve := f5.ve
          have hve2 := f2.ve
          have hlt2 := f2.lt
          have hlt5 := f5.lt
          have hz6 : (w5.setCell ⟨w.heap.size, 2, none⟩ (.iface t5 (.pointer (some ⟨b5, 0, none⟩)))).heap.size = w5.heap.size := by simp
          refine ⟨HQ5.out.own (p := ⟨w.heap.size, 2, none⟩) (Nat.le_refl _) _, .inr ⟨_, _, _, _, HE5.out, rfl, ExS.fin (kids := [(s.nodes.length - 1, v.getD 0 0, .iface tt (.pointer (some ⟨b, 0, none⟩)))] ++ [(v.getD 0 0, u.getD 0 0, .iface t5 (.pointer (some ⟨b5, 0, none⟩)))]) (m := [(w.heap.size, #[.int .i64 p, .iface tt (.pointer (some ⟨b, 0, none⟩)), .iface t5 (.pointer (some ⟨b5, 0, none⟩))], 381)]) (ls := []) (X.r.put hnew) (HF0.out _ _ HE5.out) rfl (fun x hx => ?_) (fun L hL => by cases hL) (Mm.cons ⟨Nat.le_refl _, by rw [hz6]; omega⟩ (HD5.out.put 2 _) (Mm.nil _ _)) ?_⟩⟩
          · rw [hz6]
            simp only [List.mem_append, List.mem_singleton] at hx
            rcases hx with rfl | rfl
            · refine ⟨?_, Nat.le_refl _, by dsimp only; omega, .inl (by dsimp only; rw [f5.kp.old _ (by omega)]; exact f2.nx)⟩
              have := (HT5.out.put (b := w.heap.size) (i := 2) (u := .iface t5 (.pointer (some ⟨b5, 0, none⟩))) (by omega) (by omega)).wide (a' := w.heap.size) (b' := w5.heap.size) (by omega) (by omega)
              exact this.grow (by omega) f5.kp.old
            · refine ⟨?_, by dsimp only; omega, by dsimp only; omega, .inl f5.nx⟩
              have h1 := X.t
              have := (h1.put (b := w.heap.size) (i := 2) (u := .iface t5 (.pointer (some ⟨b5, 0, none⟩))) (by omega) (Nat.le_refl _)).wide (a' := w.heap.size) (b' := w5.heap.size) (by omega) (Nat.le_refl _)
              rw [show s2.nxt.nodes.length = s2.nodes.length from rfl, show s2.nodes.length - 1 = v.getD 0 0 by omega] at this
              exact this
          · rw [← hve]
            exact .ret (.inr ⟨rfl, by omega, rfl⟩) (.inr ⟨rfl, by omega, rfl⟩)
      · rw [if_neg h45] at HE2
        have AC : Hid (Calls Tryz.prog 224 #[.pointer (some ⟨bp, 0, none⟩), .int .i64 45] (w2.setCell ⟨w.heap.size, 1, none⟩ (.iface tt (.pointer (some ⟨b, 0, none⟩)))) fun e w' => e = .returned (.bool false) ∧ w' = w2.setCell ⟨w.heap.size, 1, none⟩ (.iface tt (.pointer (some ⟨b, 0, none⟩)))) := HG3.out.r.accept_no h45
        go_wp2_with fail
        refine AC.out.mono ?_
        rintro e3 w4 ⟨rfl, rfl⟩
        go_wp2_with fail
        go_ret
        have f2 := HF.out
        have hve2 := f2.ve
        have hlt2 := f2.lt
        have hz3 : (w2.setCell ⟨w.heap.size, 1, none⟩ (.iface tt (.pointer (some ⟨b, 0, none⟩)))).heap.size = w2.heap.size := by simp
        refine ⟨HQ3.out, .inr ⟨_, _, _, _, HE2.out, rfl, ExS.fin (kids := [(s.nodes.length - 1, v.getD 0 0, .iface tt (.pointer (some ⟨b, 0, none⟩)))] ++ []) (m := [(w.heap.size, #[.int .i64 p, .iface tt (.pointer (some ⟨b, 0, none⟩)), .nilIface], 381)]) (ls := []) HG3.out.r (HF0.out _ _ HE2.out) rfl (fun x hx => ?_) (fun L hL => by cases hL) (Mm.cons ⟨Nat.le_refl _, by rw [hz3]; omega⟩ HD3.out (Mm.nil _ _)) ?_⟩⟩
        · rw [hz3]
          simp only [List.append_nil, List.mem_singleton] at hx
          subst hx
          exact ⟨HT3.out.wide (by omega) (Nat.le_refl _), Nat.le_refl _, by dsimp only; omega, .inl f2.nx⟩
        · rw [← hve2]
          exact .ret (.inr ⟨rfl, by omega, rfl⟩) (.inl ⟨rfl, rfl, rfl, rfl⟩)
end
end Go.Proofs.Qxb6500574aGreatDoor
