/-
  THE WALK of the parser layer: the parser: stmt.
-/
import Derived.Test.Qxb6500574aGreatDoorWPa16
namespace Go.Proofs.Qxb6500574aGreatDoor
open Go Go.RowKit
set_option linter.unusedVariables false
set_option linter.unusedSimpArgs false
open Go.Lib
section
set_option maxRecDepth 100000
set_option maxHeartbeats 2000000
variable {w : World} {o : Nat → Nat} {bp : Nat} {sl : Sl} {T : List Tok} {s : PSt} {n room : Nat}
def st11 (T : List Tok) (n room : Nat) (v : List Nat) (s : PSt) : PR :=
  if (curT T s).k ≠ 38 then (if (s.nodes.getD (v.getD 0 0) nd0).k = 19 then okP s ⟨5, v.getD 0 0, 0, 0, 0, 0, [], (s.nodes.getD (v.getD 0 0) nd0).p⟩ else failP T s 15)
  else if (s.nodes.getD (v.getD 0 0) nd0).k ≠ 17 ∧ (s.nodes.getD (v.getD 0 0) nd0).k ≠ 18 then failP T s 15
  else PBd (parN T n 0 (room - 1) [1] s.nxt) fun u s2 => okP s2 ⟨4, v.getD 0 0, u.getD 0 0, 0, 0, 0, [], (curT T s).p⟩
theorem par11 : parN T (n + 1) 11 room [] s = if (curT T s).k = 15 then parN T n 12 room [] s.nxt else if (curT T s).k = 13 then parN T n 13 room [] s else if (curT T s).k = 11 then parN T n 14 room [] s.nxt
    else if (curT T s).k = 21 then PBd (parN T n 0 (room - 1) [1] s.nxt) (fun v s1 => PBd (parN T n 15 room [0] s1) fun u s2 => okP s2 ⟨7, v.getD 0 0, u.getD 0 0, 0, 0, 0, [], (curT T s).p⟩)
    else if (curT T s).k = 5 then (if s.loops = 0 then failP T s 15 else okP s.nxt ⟨11, 0, 0, 0, 0, 0, [], (curT T s).p⟩)
    else if (curT T s).k = 18 then parN T n 16 room [(curT T s).p] s.nxt
    else PBd (parN T n 3 (room - 1) [] s) (st11 T n room) := by
  conv => lhs; unfold parN
  simp (config := {decide := true}) only [if_true, if_false]
  rfl
theorem stmt_any (C : PCs T n) (g : PGd w o bp T sl s) (r1 : 1 ≤ room) (hr : s.loops + room ≤ 12) (hx : parN T (n + 1) 11 room [] s ≠ x99) : Calls Tryz.prog 98 #[.pointer (some ⟨bp, 0, none⟩), .int .i64 (room : Nat)] w (ExQ w o bp T sl s (parN T (n + 1) 11 room [] s)) := by
  have E := @par11 T s n room
  obtain ⟨R, HR⟩ : ∃ R, Hid (parN T (n + 1) 11 room [] s = R) := ⟨_, rfl⟩
  have HF0 : Hid (∀ v s', R = .inr (v, s') → EF s s' (v.getD 0 0)) := fun v s' h => EF.stp g.k ((PA.all g.g.tok (n + 1)).p11 room [] s (v, s') g.k (HR.out.trans h) r1 (by omega))
  rw [HR.out] at hx E ⊢
  obtain ⟨hb, c2, c3, c4, c5, c6⟩ := g.r.cells
  have c8 := g.r.cells2.2.1
  have hnew := g.r.new
  have HG : Hid (PGd w o bp T sl s) := g
  have HC : Hid (PCs T n) := C
  have HX : Hid (R ≠ x99) := hx
  have hrm : ((room - 1 : Nat) : Int) = (room : Int) - 1 := by omega
  have hr12 : room ≤ 12 := by omega
  have HNXT : Hid (∀ ob, (curT T s).k ≠ 0 → (curT T s).k ≠ 1 → Calls Tryz.prog 155 #[.pointer (some ⟨bp, 0, none⟩)] (w.alloc ob) fun e w' => e = .returned (.tuple #[]) ∧ Stp (fun l => l = 1043) (w.alloc ob) o w' o ∧ PGd w' o bp T sl s.nxt) := fun ob h0 h1 => (g.alloc ob).nextC h0 h1
  clear g C hx HR
  by_cases k15 : (curT T s).k = 15
  · rw [if_pos k15] at E
    have HE : Hid (R = parN T n 12 room [] s.nxt) := E
    have HN := fun ob => HNXT.out ob (by omega) (by omega)
    rw [k15] at c2
    generalize curT T s = t at *
    clear E HNXT k15
    go_enter Tryz.func98, Tryz.ntmps98
    go_wp2_with fail
    refine (HN _).mono ?_
    rintro e1 w1 ⟨rfl, q1, q2⟩
    have HS1 : Hid (Stp (fun l => l = 1043) w o w1 o) := (Stp.fresh _ o ((Fr.refl _ _).alloc _)).trans q1
    have CA : Hid (Calls Tryz.prog 156 #[.pointer (some ⟨bp, 0, none⟩), .int .i64 (room : Nat)] w1 (ExQ w1 o bp T sl s.nxt R)) := by
      have := HC.out.c12 q2 r1 hr (by rw [← HE.out]; exact HX.out)
      rw [← HE.out] at this
      exact this
    clear q1 q2 HN
    go_wp2_with fail
    refine CA.out.mono ?_
    rintro e2 w2 hq
    have HQ : Hid (ExQ w1 o bp T sl s.nxt R e2 w2) := hq
    rcases hq with ⟨_, ⟨y, _, rfl, _⟩ | ⟨v, s', t', b, _, rfl, _⟩⟩
    all_goals
      go_wp2_with fail
      go_ret
      exact HQ.out.thru HS1.out (Alike.nxt s).symm
  rw [if_neg k15] at E
  by_cases k13 : (curT T s).k = 13
  · rw [if_pos k13] at E
    have HE : Hid (R = parN T n 13 room [] s) := E
    have CA : Hid (∀ ob, Calls Tryz.prog 157 #[.pointer (some ⟨bp, 0, none⟩), .int .i64 (room : Nat)] (w.alloc ob) (ExQ (w.alloc ob) o bp T sl s R)) := fun ob => by
      have := HC.out.c13 (HG.out.alloc ob) r1 hr (.inl k13) (by rw [← HE.out]; exact HX.out)
      rw [← HE.out] at this
      exact this
    rw [k13] at c2
    generalize curT T s = t at *
    clear E HNXT k15 k13
    go_enter Tryz.func98, Tryz.ntmps98
    go_wp2_with fail
    refine (CA.out _).mono ?_
    rintro e2 w2 hq
    have HQ : Hid (∃ ob, ExQ (w.alloc ob) o bp T sl s R e2 w2) := ⟨_, hq⟩
    rcases hq with ⟨_, ⟨y, _, rfl, _⟩ | ⟨v, s', t', b, _, rfl, _⟩⟩
    all_goals
      go_wp2_with fail
      go_ret
      obtain ⟨ob, hq⟩ := HQ.out
      exact hq.thru ((Stp.refl _ _ _).alloc _) (Alike.refl _)
  rw [if_neg k13] at E
  by_cases k11 : (curT T s).k = 11
  · rw [if_pos k11] at E
    have HE : Hid (R = parN T n 14 room [] s.nxt) := E
    have HN := fun ob => HNXT.out ob (by omega) (by omega)
    rw [k11] at c2
    generalize curT T s = t at *
    clear E HNXT k15 k13 k11
    go_enter Tryz.func98, Tryz.ntmps98
    go_wp2_with fail
    refine (HN _).mono ?_
    rintro e1 w1 ⟨rfl, q1, q2⟩
    have HS1 : Hid (Stp (fun l => l = 1043) w o w1 o) := (Stp.fresh _ o ((Fr.refl _ _).alloc _)).trans q1
    have CA : Hid (Calls Tryz.prog 158 #[.pointer (some ⟨bp, 0, none⟩), .int .i64 (room : Nat)] w1 (ExQ w1 o bp T sl s.nxt R)) := by
      have := HC.out.c14 q2 r1 hr (by rw [← HE.out]; exact HX.out)
      rw [← HE.out] at this
      exact this
    clear q1 q2 HN
    go_wp2_with fail
    refine CA.out.mono ?_
    rintro e2 w2 hq
    have HQ : Hid (ExQ w1 o bp T sl s.nxt R e2 w2) := hq
    rcases hq with ⟨_, ⟨y, _, rfl, _⟩ | ⟨v, s', t', b, _, rfl, _⟩⟩
    all_goals
      go_wp2_with fail
      go_ret
      exact HQ.out.thru HS1.out (Alike.nxt s).symm
  rw [if_neg k11] at E
  have EX : Hid (∀ w1 s1, PGd w1 o bp T sl s1 → parN T n 0 (room - 1) [1] s1 ≠ x99 → Calls Tryz.prog 159 #[.pointer (some ⟨bp, 0, none⟩), .int .i64 ((room : Int) - 1), .int .i64 1] w1 (ExQ w1 o bp T sl s1 (parN T n 0 (room - 1) [1] s1))) := fun w1 s1 g1 h1 => by
    have := HC.out.c0 (x := 1) g1 (room := room - 1) (by omega) (by omega) (by omega) h1
    rw [hrm] at this
    exact this
  by_cases k21 : (curT T s).k = 21
  · rw [if_pos k21] at E
    have HE : Hid (R = _) := E
    have HN := fun ob => HNXT.out ob (by omega) (by omega)
    have hx9 : parN T n 0 (room - 1) [1] s.nxt ≠ x99 := PB_ne (by rw [← HE.out]; exact HX.out)
    rw [k21] at c2
    generalize curT T s = t at *
    clear E HNXT k15 k13 k11 k21
    go_enter Tryz.func98, Tryz.ntmps98
    go_wp2_with fail
    refine (HN _).mono ?_
    rintro e1 w1 ⟨rfl, q1, q2⟩
    have HD1 : Hid (Has w1 w.heap.size #[.int .i64 21, .int .i64 t.p, sv t.s, .int .u64 t.n, .int .i64 t.e] 132) := q1.has (Has.new w _ 132) (by rw [hnew]; omega)
    have HS1 : Hid (Stp (fun l => l = 1043) w o w1 o) := (Stp.fresh _ o ((Fr.refl _ _).alloc _)).trans q1
    have HG1 : Hid (PGd w1 o bp T sl s.nxt) := q2
    have CA : Hid (Calls Tryz.prog 159 #[.pointer (some ⟨bp, 0, none⟩), .int .i64 ((room : Int) - 1), .int .i64 1] w1 (ExQ w1 o bp T sl s.nxt (parN T n 0 (room - 1) [1] s.nxt))) := EX.out w1 _ q2 hx9
    clear q1 q2 HN hx9
    go_wp2_with fail
    refine CA.out.mono ?_
    rintro e2 w2 ⟨q5, q6⟩
    have HD2 : Hid (Has w2 w.heap.size #[.int .i64 21, .int .i64 t.p, sv t.s, .int .u64 t.n, .int .i64 t.e] 132) := q5.has HD1.out (by rw [hnew]; omega)
    have HS2 : Hid (Stp (fun l => l = 1043) w1 o w2 o) := q5
    clear q5 CA HD1
    rcases q6 with ⟨y, hy, rfl, hpe⟩ | ⟨u, s5, t5, b5, hy, rfl, Y⟩
    · have HPE : Hid (PErr w2 o bp y.1 y.2) := hpe
      have HY : Hid (R = .inl y) := by
        show R = _
        rw [HE.out, hy]; rfl
      clear hpe hy
      go_wp2_with fail
      go_ret
      exact ExQ.bad (HS1.out.trans HS2.out) HY.out HPE.out
    have HY : Hid (ExS w1 o bp T sl s.nxt s5 (u.getD 0 0) w2 (.iface t5 (.pointer (some ⟨b5, 0, none⟩)))) := Y
    have HE2 : Hid (R = PBd (parN T n 15 room [0] s5) fun u' s2 => okP s2 ⟨7, u.getD 0 0, u'.getD 0 0, 0, 0, 0, [], t.p⟩) := by
      show R = _
      rw [HE.out, hy]; rfl
    have HG2 : Hid (PGd w2 o bp T sl s5) := HG1.out.st HS2.out Y.r Y.f.ok
    have hl5 : s5.loops = s.loops := Y.f.kp.lp
    have CB : Hid (Calls Tryz.prog 160 #[.pointer (some ⟨bp, 0, none⟩), .int .i64 (room : Nat), .int .i64 0] w2 (LsQ w2 o bp T sl s5 (parN T n 15 room [0] s5))) := HC.out.c15 (x := 0) HG2.out r1 (by rw [hl5]; exact hr) (by have := HG2.out.k.al; omega) (PB_ne (by rw [← HE2.out]; exact HX.out))
    clear Y hy HE
    go_wp2_with fail
    refine CB.out.mono ?_
    rintro e3 w3 ⟨q5, q6⟩
    have d := q5.has HD2.out (by rw [hnew]; omega)
    have d1 := d.cell 1
    have dl := d.lt
    simp only [List.getElem?_toArray, List.getElem?_cons_succ, List.getElem?_cons_zero] at d1
    have HS3 : Hid (Stp (fun l => l = 1043) w2 o w3 o) := q5
    clear q5 CB HD2 d
    rcases q6 with ⟨y, hy, rfl, hpe⟩ | ⟨u', s6, sa, ln, cp, ms, m, hy, rfl, Z⟩
    · have HPE : Hid (PErr w3 o bp y.1 y.2) := hpe
      have HY : Hid (R = .inl y) := by
        show R = _
        rw [HE2.out, hy]; rfl
      clear hpe hy
      go_wp2_with fail
      go_ret
      exact ExQ.bad (HS1.out.trans (HS2.out.trans HS3.out)) HY.out HPE.out
    have HZ : Hid (LsS w2 o bp T sl s5 s6 (u'.getD 0 0) w3 (.slice sa ln cp) ms m) := Z
    have HE3 : Hid (R = okP s6 ⟨7, u.getD 0 0, u'.getD 0 0, 0, 0, 0, [], t.p⟩) := by
      show R = _
      rw [HE2.out, hy]; rfl
    clear Z hy HE2
    go_wp2_with fail
    go_ret
    have ow := HG.out.r.ow
    have A := (((Acc.nil w HG.out.k).stp (s2 := s.nxt) HS1.out ow rfl).tree HY.out HS2.out ow).list HZ.out HS3.out ow
    have ve := HY.out.f.ve
    have hle := HZ.out.f.kp.le
    rw [show s5.nodes.length - 1 = u.getD 0 0 by omega] at A
    refine ⟨(HS1.out.trans (HS2.out.trans HS3.out)).alloc _, .inr ⟨_, _, _, _, HE3.out, rfl, A.fin (HS1.out.trans (HS2.out.trans HS3.out)) ow HZ.out.r (HF0.out _ _ HE3.out) rfl ?_⟩⟩
    have sh := Shp.whiles (p := t.p) (b := w3.heap.size) (lo := s.nodes.length - 1) (a := u.getD 0 0) (f := u'.getD 0 0) (hi := s6.nodes.length - 1) (x := .iface t5 (.pointer (some ⟨b5, 0, none⟩))) HZ.out.v
    rw [show s6.nodes.length - 1 + 1 = s6.nodes.length by omega] at sh
    exact sh
  rw [if_neg k21] at E
  by_cases k5 : (curT T s).k = 5
  · rw [if_pos k5] at E
    have HN := fun ob => HNXT.out ob (by omega) (by omega)
    have FA : Hid (∀ ob y, failP T s 15 = .inl y → Calls Tryz.prog 62 #[.pointer (some ⟨bp, 0, none⟩), .int .i64 15] (World.alloc w ob) fun e w' => e = .returned (.tuple #[]) ∧ PErr w' o bp y.1 y.2 ∧ Stp (fun l => l = 1043) (World.alloc w ob) o w' o) := fun ob y hy => (HG.out.r.alloc ob).fail hy
    rw [k5] at c2
    by_cases hl : s.loops = 0
    · rw [if_pos hl] at E
      obtain ⟨y, hy⟩ : ∃ y, failP T s 15 = .inl y := ⟨_, rfl⟩
      have HFA := fun ob => FA.out ob y hy
      have HY : Hid (R = .inl y) := E.trans hy
      have e8 : ((s.loops : Int) == 0) = true := by simp; omega
      generalize curT T s = t at *
      clear E HNXT k15 k13 k11 k21 k5 FA hl hy HN
      go_enter Tryz.func98, Tryz.ntmps98
      go_wp2_with fail
      refine (HFA _).mono ?_
      rintro e1 w1 ⟨rfl, q1, q2⟩
      have HPE : Hid (PErr w1 o bp y.1 y.2) := q1
      have HS1 : Hid (Stp (fun l => l = 1043) w o w1 o) := (Stp.fresh _ o ((Fr.refl _ _).alloc _)).trans q2
      clear q1 q2 HFA
      go_wp2_with fail
      go_ret
      exact ExQ.bad HS1.out HY.out HPE.out
    · rw [if_neg hl] at E
      have HE : Hid (R = okP s.nxt ⟨11, 0, 0, 0, 0, 0, [], (curT T s).p⟩) := E
      have e8 : ((s.loops : Int) == 0) = false := by simp; omega
      generalize curT T s = t at *
      clear E HNXT k15 k13 k11 k21 k5 FA hl
      go_enter Tryz.func98, Tryz.ntmps98
      go_wp2_with fail
      refine (HN _).mono ?_
      rintro e1 w1 ⟨rfl, q1, q2⟩
      have d := q1.has (Has.new w #[.int .i64 5, .int .i64 t.p, sv t.s, .int .u64 t.n, .int .i64 t.e] 132) (by rw [hnew]; omega)
      have d1 := d.cell 1
      have dl := d.lt
      simp only [List.getElem?_toArray, List.getElem?_cons_succ, List.getElem?_cons_zero] at d1
      have HS1 : Hid (Stp (fun l => l = 1043) w o w1 o) := (Stp.fresh _ o ((Fr.refl _ _).alloc _)).trans q1
      have HG1 : Hid (PGd w1 o bp T sl s.nxt) := q2
      clear q1 q2 d HN
      go_wp2_with fail
      go_ret
      exact ⟨HS1.out.alloc _, .inr ⟨_, _, _, _, HE.out, rfl, leaf_fin HS1.out HG.out.r.ow HG1.out.r HG.out.k (Alike.nxt s) rfl .brk⟩⟩
  rw [if_neg k5] at E
  by_cases k18 : (curT T s).k = 18
  · rw [if_pos k18] at E
    have HE : Hid (R = parN T n 16 room [(curT T s).p] s.nxt) := E
    have HN := fun ob => HNXT.out ob (by omega) (by omega)
    rw [k18] at c2
    generalize curT T s = t at *
    clear E HNXT k15 k13 k11 k21 k5 k18
    go_enter Tryz.func98, Tryz.ntmps98
    go_wp2_with fail
    refine (HN _).mono ?_
    rintro e1 w1 ⟨rfl, q1, q2⟩
    have d := q1.has (Has.new w #[.int .i64 18, .int .i64 t.p, sv t.s, .int .u64 t.n, .int .i64 t.e] 132) (by rw [hnew]; omega)
    have d1 := d.cell 1
    have dl := d.lt
    simp only [List.getElem?_toArray, List.getElem?_cons_succ, List.getElem?_cons_zero] at d1
    have HS1 : Hid (Stp (fun l => l = 1043) w o w1 o) := (Stp.fresh _ o ((Fr.refl _ _).alloc _)).trans q1
    have CA : Hid (Calls Tryz.prog 161 #[.pointer (some ⟨bp, 0, none⟩), .int .i64 (room : Nat), .int .i64 (t.p : Nat)] w1 (ExQ w1 o bp T sl s.nxt R)) := by
      have := HC.out.c16 q2 r1 hr (by rw [← HE.out]; exact HX.out)
      rw [← HE.out] at this
      exact this
    clear q1 q2 HN d
    go_wp2_with fail
    refine CA.out.mono ?_
    rintro e2 w2 hq
    have HQ : Hid (ExQ w1 o bp T sl s.nxt R e2 w2) := hq
    rcases hq with ⟨_, ⟨y, _, rfl, _⟩ | ⟨v, s', t', b, _, rfl, _⟩⟩
    all_goals
      go_wp2_with fail
      go_ret
      exact HQ.out.thru HS1.out (Alike.nxt s).symm
  rw [if_neg k18] at E
  have PO : Hid (∀ ob, Calls Tryz.prog 162 #[.pointer (some ⟨bp, 0, none⟩), .int .i64 ((room : Int) - 1)] (w.alloc ob) (ExQ (w.alloc ob) o bp T sl s (parN T n 3 (room - 1) [] s))) := fun ob => by
    have := HC.out.c3 (HG.out.alloc ob) (room := room - 1) (by omega) (PB_ne (by rw [← E]; exact HX.out))
    rw [hrm] at this
    exact this
  have HE : Hid (R = PBd (parN T n 3 (room - 1) [] s) (st11 T n room)) := E
  generalize curT T s = t at *
  have e1 : ((t.k : Int) == 15) = false := by simp; omega
  have e2 : ((t.k : Int) == 13) = false := by simp; omega
  have e3 : ((t.k : Int) == 11) = false := by simp; omega
  have e4 : ((t.k : Int) == 21) = false := by simp; omega
  have e5 : ((t.k : Int) == 5) = false := by simp; omega
  have e6 : ((t.k : Int) == 18) = false := by simp; omega
  clear E HNXT k15 k13 k11 k21 k5 k18
  go_enter Tryz.func98, Tryz.ntmps98
  go_wp2_with fail
  refine (PO.out _).mono ?_
  rintro e9 w2 ⟨q5, q6⟩
  have HS2 : Hid (Stp (fun l => l = 1043) w o w2 o) := ((Stp.refl _ _ _).alloc _).trans q5
  clear q5 PO
  rcases q6 with ⟨y, hy, rfl, hpe⟩ | ⟨u, s5, t5, b5, hy, rfl, Y⟩
  · have HPE : Hid (PErr w2 o bp y.1 y.2) := hpe
    have HY : Hid (R = .inl y) := by
      show R = _
      rw [HE.out, hy]; rfl
    clear hpe hy
    go_wp2_with fail
    go_ret
    exact ExQ.bad HS2.out HY.out HPE.out
  have HE2 : Hid (R = st11 T n room u s5) := by
    show R = _
    rw [HE.out, hy]; rfl
  have HY : Hid (ExS w o bp T sl s s5 (u.getD 0 0) w2 (.iface t5 (.pointer (some ⟨b5, 0, none⟩)))) := ⟨Y.r, Y.f, Y.t.wide (by simp) (Nat.le_refl _)⟩
  have HG2 : Hid (PGd w2 o bp T sl s5) := HG.out.st HS2.out Y.r Y.f.ok
  obtain ⟨_, _, kC, kN, kI⟩ := Y.t.kind
  obtain ⟨hb2, f2, f3, _, _, _⟩ := Y.r.cells
  clear hy Y HE
  obtain ⟨kd, HKD⟩ : ∃ kd, Hid ((s5.nodes.getD (u.getD 0 0) nd0).k = kd) := ⟨_, rfl⟩
  rw [HKD.out] at kC kN kI
  have HE3 : Hid (R = if (curT T s5).k ≠ 38 then (if kd = 19 then okP s5 ⟨5, u.getD 0 0, 0, 0, 0, 0, [], (s5.nodes.getD (u.getD 0 0) nd0).p⟩ else failP T s5 15)
    else if kd ≠ 17 ∧ kd ≠ 18 then failP T s5 15
    else PBd (parN T n 0 (room - 1) [1] s5.nxt) fun u' s2 => okP s2 ⟨4, u.getD 0 0, u'.getD 0 0, 0, 0, 0, [], (curT T s5).p⟩) := by
    show R = _
    rw [HE2.out, ← HKD.out]
    rfl
  clear HE2
  have FA : Hid (∀ y, failP T s5 15 = .inl y → Calls Tryz.prog 62 #[.pointer (some ⟨bp, 0, none⟩), .int .i64 15] w2 fun e w' => e = .returned (.tuple #[]) ∧ PErr w' o bp y.1 y.2 ∧ Stp (fun l => l = 1043) w2 o w' o) := fun y hy => HG2.out.r.fail hy
  by_cases h38 : (curT T s5).k = 38
  · rw [if_neg (by omega)] at HE3
    by_cases hkd : kd ≠ 17 ∧ kd ≠ 18
    · rw [if_pos hkd] at HE3
      obtain ⟨y, hy⟩ : ∃ y, failP T s5 15 = .inl y := ⟨_, rfl⟩
      have HFA := FA.out y hy
      have HY : Hid (R = .inl y) := HE3.out.trans hy
      have g1 : (t5 == 296) = false := by rw [kN]; simp; omega
      have g2 : (t5 == 297) = false := by rw [kI]; simp; omega
      have g3 : (((curT T s5).k : Int) != 38) = false := by rw [h38]; rfl
      have a1 := noName g1
      have a2 := noIndex g2
      clear hy HE3 FA hkd kC kN kI h38 g1 g2
      go_wp2_with fail
      refine HFA.mono ?_
      rintro e1 w3 ⟨rfl, q1, q2⟩
      have HPE : Hid (PErr w3 o bp y.1 y.2) := q1
      have HS3 : Hid (Stp (fun l => l = 1043) w2 o w3 o) := q2
      clear q1 q2 HFA
      go_wp2_with fail
      go_ret
      exact ExQ.bad (HS2.out.trans HS3.out) HY.out HPE.out
    · rw [if_neg hkd] at HE3
      have HN := HG2.out.nextC (by omega) (by omega)
      have hx9 : parN T n 0 (room - 1) [1] s5.nxt ≠ x99 := PB_ne (by rw [← HE3.out]; exact HX.out)
      have g3 : (((curT T s5).k : Int) != 38) = false := by rw [h38]; rfl
      have EX5 : Hid (∀ w1, PGd w1 o bp T sl s5.nxt → Calls Tryz.prog 159 #[.pointer (some ⟨bp, 0, none⟩), .int .i64 ((room : Int) - 1), .int .i64 1] w1 (ExQ w1 o bp T sl s5.nxt (parN T n 0 (room - 1) [1] s5.nxt))) := fun w1 g1 => EX.out w1 _ g1 hx9
      have hcase : (t5 = 296 ∨ t5 = 297) := by
        by_cases h17 : kd = 17
        · left
          rw [h17] at kN
          simpa using kN
        · right
          have h18 : kd = 18 := by omega
          rw [h18] at kI
          simpa using kI
      generalize curT T s5 = tc at *
      have b1 := isName
      have b2 := isIndex
      have b3 := @noIndex 296 rfl
      have b4 := @noName 297 rfl
      clear FA hkd kC kN kI h38 hx9 EX
      rcases hcase with rfl | rfl
      all_goals
        go_wp2_with fail
        refine HN.mono ?_
        rintro e1 w3 ⟨rfl, q1, q2⟩
        have HS3 : Hid (Stp (fun l => l = 1043) w2 o w3 o) := q1
        have HG3 : Hid (PGd w3 o bp T sl s5.nxt) := q2
        clear q1 q2
        go_wp2_with fail
        refine (EX5.out _ HG3.out).mono ?_
        rintro e1 w4 ⟨q5, q6⟩
        have HS4 : Hid (Stp (fun l => l = 1043) w3 o w4 o) := q5
        clear q5
        rcases q6 with ⟨y, hy, rfl, hpe⟩ | ⟨u', s6, t6, b6, hy, rfl, Z⟩
        · have HPE : Hid (PErr w4 o bp y.1 y.2) := hpe
          have HY : Hid (R = .inl y) := by
            show R = _
            rw [HE3.out, hy]; rfl
          clear hpe hy
          go_wp2_with fail
          go_ret
          exact ExQ.bad (HS2.out.trans (HS3.out.trans HS4.out)) HY.out HPE.out
        · have HZ : Hid (ExS w3 o bp T sl s5.nxt s6 (u'.getD 0 0) w4 (.iface t6 (.pointer (some ⟨b6, 0, none⟩)))) := Z
          have HE4 : Hid (R = okP s6 ⟨4, u.getD 0 0, u'.getD 0 0, 0, 0, 0, [], tc.p⟩) := by
            show R = _
            rw [HE3.out, hy]; rfl
          clear Z hy
          go_wp2_with fail
          go_ret
          exact ⟨(HS2.out.trans (HS3.out.trans HS4.out)).alloc _, .inr ⟨_, _, _, _, HE4.out, rfl, two_fin HS2.out HS3.out HS4.out HG.out.r.ow HY.out HZ.out (Alike.nxt s5) rfl .assign⟩⟩
  · rw [if_pos h38] at HE3
    have g3 : (((curT T s5).k : Int) != 38) = true := by simp; omega
    by_cases hkd : kd = 19
    · rw [if_pos hkd] at HE3
      have ht5 : t5 = 291 := by
        rw [hkd] at kC
        simpa using kC
      subst ht5
      have b1 := isCall
      clear FA hkd kC kN kI h38 EX
      go_wp2_with fail
      go_ret
      have ow := HG.out.r.ow
      have A := (Acc.nil w HG.out.k).tree HY.out HS2.out ow
      obtain ⟨cs, hcs, hPb, hHb⟩ := HY.out.t.callB
      have A2 := A.mem hHb hPb.1
      have ve := HY.out.f.ve
      refine ⟨HS2.out.alloc _, .inr ⟨_, _, _, _, HE3.out, rfl, A2.fin HS2.out ow HY.out.r (HF0.out _ _ HE3.out) rfl ?_⟩⟩
      have sh := Shp.callst (b := w2.heap.size) (d := b5) (lo := s.nodes.length - 1) (a := u.getD 0 0) hcs
      rw [ve] at sh
      exact sh
    · rw [if_neg hkd] at HE3
      obtain ⟨y, hy⟩ : ∃ y, failP T s5 15 = .inl y := ⟨_, rfl⟩
      have HFA := FA.out y hy
      have HY : Hid (R = .inl y) := HE3.out.trans hy
      have g1 : (t5 == 291) = false := by rw [kC]; simp; omega
      have a1 := noCall g1
      clear hy HE3 FA hkd kC kN kI h38 EX
      go_wp2_with fail
      refine HFA.mono ?_
      rintro e1 w3 ⟨rfl, q1, q2⟩
      have HPE : Hid (PErr w3 o bp y.1 y.2) := q1
      have HS3 : Hid (Stp (fun l => l = 1043) w2 o w3 o) := q2
      clear q1 q2 HFA
      go_wp2_with fail
      go_ret
      exact ExQ.bad (HS2.out.trans HS3.out) HY.out HPE.out
end
end Go.Proofs.Qxb6500574aGreatDoor
