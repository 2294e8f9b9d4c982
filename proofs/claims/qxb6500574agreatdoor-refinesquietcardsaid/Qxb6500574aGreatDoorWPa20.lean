/-
  THE WALK of the parser layer: the parser: loopFor.
-/
import Derived.Test.Qxb6500574aGreatDoorWPa16
namespace Go.Proofs.Qxb6500574aGreatDoor
open Go Go.RowKit
set_option linter.unusedVariables false
set_option linter.unusedSimpArgs false
open Go.Lib
section
set_option maxRecDepth 100000
set_option maxHeartbeats 2000000
variable {w : World} {o : Nat → Nat} {bp : Nat} {sl : Sl} {T : List Tok} {s : PSt} {n room : Nat}
def fo45 (T : List Tok) (n room : Nat) (m m2 : Tok) (s : PSt) : PR := PBd (parN T n 0 (room - 1) [1] ((s.add ⟨17, 0, 0, 0, s.nodes.length + 1, 0, m.s, m.p⟩).add ⟨17, 0, 0, 0, 0, 0, m2.s, m2.p⟩)) fun v s1 => PBd (parN T n 15 room [4] s1) fun u s2 => okP s2 ⟨9, s.nodes.length, v.getD 0 0, u.getD 0 0, 0, 0, [], m.p⟩
def fo38b (T : List Tok) (n room : Nat) (m : Tok) (v u : List Nat) (s1 : PSt) : PR := if (curT T s1).k = 45 then PBd (parN T n 0 (room - 1) [1] s1.nxt) fun z s => PBd (parN T n 15 room [4] (s.link (u.getD 0 0) (z.getD 0 0))) fun q s => okP s ⟨8, v.getD 0 0, q.getD 0 0, 0, 0, 0, m.s, m.p⟩ else PBd (parN T n 15 room [4] s1) fun q s => okP s ⟨8, v.getD 0 0, q.getD 0 0, 0, 0, 0, m.s, m.p⟩
def fo38 (T : List Tok) (n room : Nat) (m : Tok) (s : PSt) : PR := PBd (parN T n 0 (room - 1) [1] s) fun v s => expectP T s 45 fun s => PBd (parN T n 0 (room - 1) [1] s) fun u s => fo38b T n room m v u (s.link (v.getD 0 0) (u.getD 0 0))
theorem par14 : parN T (n + 1) 14 room [] s = nameP T s 4 fun m s => if (curT T s).k = 45 then nameP T s.nxt 0 fun m2 s => expectP T s 14 (fo45 T n room m m2) else expectP T s 38 (fo38 T n room m) := by
  conv => lhs; unfold parN
  simp (config := {decide := true}) only [if_true, if_false]
  rfl
theorem loopFor_any (C : PCs T n) (g : PGd w o bp T sl s) (r1 : 1 ≤ room) (hr : s.loops + room ≤ 12) (hx : parN T (n + 1) 14 room [] s ≠ x99) : Calls Tryz.prog 158 #[.pointer (some ⟨bp, 0, none⟩), .int .i64 (room : Nat)] w (ExQ w o bp T sl s (parN T (n + 1) 14 room [] s)) := by
  have E := @par14 T s n room
  obtain ⟨R, HR⟩ : ∃ R, Hid (parN T (n + 1) 14 room [] s = R) := ⟨_, rfl⟩
  have HF0 : Hid (∀ v s', R = .inr (v, s') → EF s s' (v.getD 0 0)) := fun v s' h => EF.stp g.k ((PA.all g.g.tok (n + 1)).p14 room [] s (v, s') g.k (HR.out.trans h) r1 (by omega))
  rw [HR.out] at hx E ⊢
  have hb := g.r.cells.1
  have HG : Hid (PGd w o bp T sl s) := g
  have HC : Hid (PCs T n) := C
  have HX : Hid (R ≠ x99) := hx
  have hrm : ((room - 1 : Nat) : Int) = (room : Int) - 1 := by omega
  have hr12 : room ≤ 12 := by omega
  have HE : Hid (R = _) := E
  have EX : Hid (∀ w1 s1, PGd w1 o bp T sl s1 → parN T n 0 (room - 1) [1] s1 ≠ x99 → Calls Tryz.prog 159 #[.pointer (some ⟨bp, 0, none⟩), .int .i64 ((room : Int) - 1), .int .i64 1] w1 (ExQ w1 o bp T sl s1 (parN T n 0 (room - 1) [1] s1))) := fun w1 s1 g1 h1 => by
    have := HC.out.c0 (x := 1) g1 (room := room - 1) (by omega) (by omega) (by omega) h1
    rw [hrm] at this
    exact this
  have AL0 : Hid (∀ v s1 s', SOk s1 → parN T n 0 (room - 1) [1] s1 = .inr (v, s') → s'.alive = s1.alive ∧ s'.loops = s1.loops) := fun v s1 s' hk h => by
    have := (PA.all HG.out.g.tok n).p0 (room - 1) [1] s1 (v, s') hk h (by decide) (by decide) (by omega)
    exact ⟨this.al, this.kp.lp⟩
  have BO : Hid (∀ w1 s1, PGd w1 o bp T sl s1 → s1.loops = s.loops → s1.alive = s.alive → s.alive + 4 ≤ 12 → parN T n 15 room [4] s1 ≠ x99 → Calls Tryz.prog 160 #[.pointer (some ⟨bp, 0, none⟩), .int .i64 (room : Nat), .int .i64 4] w1 (LsQ w1 o bp T sl s1 (parN T n 15 room [4] s1))) := fun w1 s1 g1 hl ha ha4 h1 => HC.out.c15 (x := 4) g1 r1 (by rw [hl]; exact hr) (by rw [ha]; exact ha4) h1
  clear g C hx HR E
  go_enter Tryz.func158, Tryz.ntmps158
  go_wp2_with fail
  refine (HG.out.nameC 4 (by decide)).mono ?_
  rintro e2 w2 ⟨a1, ⟨y, rfl, a2, a3⟩ | ⟨nb, rfl, hnb, a2, hN, a3, hal⟩⟩
  · have HS2 : Hid (Stp (fun l => l = 1043) w o w2 o) := a1
    have HY : Hid (R = .inl y) := by
      show R = _
      rw [HE.out, a2]
    have HPE : Hid (PErr w2 o bp y.1 y.2) := a3
    clear a1 a2 a3
    go_wp2_with fail
    go_ret
    exact ExQ.bad HS2.out HY.out HPE.out
  have HE2 : Hid (R = if (curT T s.nxt).k = 45 then nameP T s.nxt.nxt 0 fun m2 s' => expectP T s' 14 (fo45 T n room (curT T s) m2) else expectP T s.nxt 38 (fo38 T n room (curT T s))) := by
    show R = _
    rw [HE.out, a2]
  have hal4 : s.alive + 4 ≤ 12 := hal (by decide)
  have ho : o nb = 0 := HG.out.r.ow nb hnb
  generalize curT T s = t at *
  have HS2 : Hid (Stp (fun l => l = 1043) w o w2 o) := a1
  have HG2 : Hid (PGd w2 o bp T sl s.nxt) := a3
  have HN2 : Hid (Has w2 nb #[.int .i64 t.p, sv t.s] 357) := hN
  clear a1 a2 a3 HE hN hal
  go_wp2_with fail
  refine (HG2.out.acceptC 45 (by decide) (by decide)).mono ?_
  rintro e3 w3 ⟨a1, ⟨rfl, hk, a3⟩ | ⟨rfl, hk, a3⟩⟩
  · rw [if_neg hk] at HE2
    have HS3 : Hid (Stp (fun l => l = 1043) w o w3 o) := HS2.out.trans a1
    have HN3 : Hid (Has w3 nb #[.int .i64 t.p, sv t.s] 357) := a1.has HN2.out (by rw [ho]; omega)
    have HG3 : Hid (PGd w3 o bp T sl s.nxt) := a3
    clear a1 a3 hk HG2 HN2
    go_wp2_with fail
    refine (HG3.out.expectC 38 (by decide) (by decide)).mono ?_
    rintro e4 w4 ⟨a1, ⟨y, rfl, a2, a3⟩ | ⟨rfl, a2, a3⟩⟩
    · have HS4 : Hid (Stp (fun l => l = 1043) w o w4 o) := HS3.out.trans a1
      have HY : Hid (R = .inl y) := by
        show R = _
        rw [HE2.out, a2]
      have HPE : Hid (PErr w4 o bp y.1 y.2) := a3
      clear a1 a2 a3
      go_wp2_with fail
      go_ret
      exact ExQ.bad HS4.out HY.out HPE.out
    have HE4 : Hid (R = fo38 T n room t s.nxt.nxt) := by
      show R = _
      rw [HE2.out, a2]
    have HS4 : Hid (Stp (fun l => l = 1043) w o w4 o) := HS3.out.trans a1
    have HN4 : Hid (Has w4 nb #[.int .i64 t.p, sv t.s] 357) := a1.has HN3.out (by rw [ho]; omega)
    have HG4 : Hid (PGd w4 o bp T sl s.nxt.nxt) := a3
    have CE : Hid (Calls Tryz.prog 159 #[.pointer (some ⟨bp, 0, none⟩), .int .i64 ((room : Int) - 1), .int .i64 1] w4 (ExQ w4 o bp T sl s.nxt.nxt (parN T n 0 (room - 1) [1] s.nxt.nxt))) := EX.out w4 _ a3 (PB_ne (f := fun v s => expectP T s 45 fun s => PBd (parN T n 0 (room - 1) [1] s) fun u s => fo38b T n room t v u (s.link (v.getD 0 0) (u.getD 0 0))) (fun e => HX.out (HE4.out.trans e)))
    clear a1 a2 a3 HE2 HN3 HG3
    go_wp2_with fail
    refine CE.out.mono ?_
    rintro e5 w5 ⟨q5, q6⟩
    have HS5 : Hid (Stp (fun l => l = 1043) w4 o w5 o) := q5
    have HN5 : Hid (Has w5 nb #[.int .i64 t.p, sv t.s] 357) := q5.has HN4.out (by rw [ho]; omega)
    clear q5 CE
    rcases q6 with ⟨y, hy, rfl, hpe⟩ | ⟨v, s5, t5, b5, hy, rfl, X⟩
    · have HPE : Hid (PErr w5 o bp y.1 y.2) := hpe
      have HY : Hid (R = .inl y) := by
        show R = _
        rw [HE4.out]
        unfold fo38
        rw [hy]; rfl
      clear hpe hy
      go_wp2_with fail
      go_ret
      exact ExQ.bad (HS4.out.trans HS5.out) HY.out HPE.out
    have HX5 : Hid (ExS w4 o bp T sl s.nxt.nxt s5 (v.getD 0 0) w5 (.iface t5 (.pointer (some ⟨b5, 0, none⟩)))) := X
    have HE5 : Hid (R = expectP T s5 45 fun s => PBd (parN T n 0 (room - 1) [1] s) fun u s => fo38b T n room t v u (s.link (v.getD 0 0) (u.getD 0 0))) := by
      show R = _
      rw [HE4.out]
      unfold fo38
      rw [hy]; rfl
    have hAL5 := AL0.out _ _ _ HG4.out.k hy
    have HG5 : Hid (PGd w5 o bp T sl s5) := HG4.out.st HS5.out X.r X.f.ok
    clear X hy HE4
    go_wp2_with fail
    refine (HG5.out.expectC 45 (by decide) (by decide)).mono ?_
    rintro e6 w6 ⟨a1, ⟨y, rfl, a2, a3⟩ | ⟨rfl, a2, a3⟩⟩
    · have HS6 : Hid (Stp (fun l => l = 1043) w5 o w6 o) := a1
      have HY : Hid (R = .inl y) := by
        show R = _
        rw [HE5.out, a2]
      have HPE : Hid (PErr w6 o bp y.1 y.2) := a3
      clear a1 a2 a3
      go_wp2_with fail
      go_ret
      exact ExQ.bad (HS4.out.trans (HS5.out.trans HS6.out)) HY.out HPE.out
    have HE6 : Hid (R = PBd (parN T n 0 (room - 1) [1] s5.nxt) fun u s => fo38b T n room t v u (s.link (v.getD 0 0) (u.getD 0 0))) := by
      show R = _
      rw [HE5.out, a2]
    have HS6 : Hid (Stp (fun l => l = 1043) w5 o w6 o) := a1
    have HN6 : Hid (Has w6 nb #[.int .i64 t.p, sv t.s] 357) := a1.has HN5.out (by rw [ho]; omega)
    have HG6 : Hid (PGd w6 o bp T sl s5.nxt) := a3
    have CE : Hid (Calls Tryz.prog 159 #[.pointer (some ⟨bp, 0, none⟩), .int .i64 ((room : Int) - 1), .int .i64 1] w6 (ExQ w6 o bp T sl s5.nxt (parN T n 0 (room - 1) [1] s5.nxt))) := EX.out w6 _ a3 (PB_ne (by rw [← HE6.out]; exact HX.out))
    clear a1 a2 a3 HE5 HN5
    go_wp2_with fail
    refine CE.out.mono ?_
    rintro e7 w7 ⟨q5, q6⟩
    have HS7 : Hid (Stp (fun l => l = 1043) w6 o w7 o) := q5
    have HN7 : Hid (Has w7 nb #[.int .i64 t.p, sv t.s] 357) := q5.has HN6.out (by rw [ho]; omega)
    clear q5 CE
    rcases q6 with ⟨y, hy, rfl, hpe⟩ | ⟨u, s7, t7, b7, hy, rfl, X⟩
    · have HPE : Hid (PErr w7 o bp y.1 y.2) := hpe
      have HY : Hid (R = .inl y) := by
        show R = _
        rw [HE6.out, hy]; rfl
      clear hpe hy
      go_wp2_with fail
      go_ret
      exact ExQ.bad (HS4.out.trans (HS5.out.trans (HS6.out.trans HS7.out))) HY.out HPE.out
    have HE7 : Hid (R = fo38b T n room t v u (s7.link (v.getD 0 0) (u.getD 0 0))) := by
      show R = _
      rw [HE6.out, hy]; rfl
    have hAL7 := AL0.out _ _ _ HG6.out.k hy
    have ow := HG.out.r.ow
    have ow4 : Ow w4 o := HS4.out.hi ow
    have hL8 := LsI.two HX5.out HS5.out HS6.out (Alike.nxt s5) X HS7.out ow4
    obtain ⟨c1, c2, c3, c4⟩ := link_same s7 (v.getD 0 0) (u.getD 0 0)
    have hll : (s7.link (v.getD 0 0) (u.getD 0 0)).nodes.length = s7.nodes.length := link_len s7 _ _
    obtain ⟨s8, HS8'⟩ : ∃ s8, Hid (s7.link (v.getD 0 0) (u.getD 0 0) = s8) := ⟨_, rfl⟩
    obtain ⟨w8, HW8⟩ : ∃ w8, Hid (w7.alloc (.cells #[.iface t5 (.pointer (some ⟨b5, 0, none⟩)), .iface t7 (.pointer (some ⟨b7, 0, none⟩))] 206) = w8) := ⟨_, rfl⟩
    have hR8 : PRep w8 o bp T sl s8 := by
      rw [← HS8'.out, ← HW8.out]
      exact (X.r.alloc _).as c1 c2 c3 c4
    rw [HS8'.out, HW8.out] at hL8
    have HS8 : Hid (Stp (fun l => l = 1043) w4 o w8 o) := by
      show Stp _ _ _ _ _
      rw [← HW8.out]
      exact (HS5.out.trans (HS6.out.trans HS7.out)).alloc _
    have HL8 : Hid (LsI w4 w8 s.nxt.nxt s8 ⟨some ⟨w7.heap.size, 0, none⟩, 2⟩ [(s.nxt.nxt.nodes.length - 1, v.getD 0 0, .iface t5 (.pointer (some ⟨b5, 0, none⟩))), (v.getD 0 0, u.getD 0 0, .iface t7 (.pointer (some ⟨b7, 0, none⟩)))] (v.getD 0 0) (u.getD 0 0)) := hL8
    have HG8 : Hid (PGd w8 o bp T sl s8) := HG4.out.st HS8.out hR8 hL8.ok
    have HE8 : Hid (R = fo38b T n room t v u s8) := by
      show R = _
      rw [HE7.out, HS8'.out]
    have ha8 : s8.alive = s.alive ∧ s8.loops = s.loops := by
      rw [← HS8'.out]
      exact ⟨c2.trans (hAL7.1.trans hAL5.1), c3.trans (hAL7.2.trans hAL5.2)⟩
    have HN8 : Hid (Has w8 nb #[.int .i64 t.p, sv t.s] 357) := HS8.out.has HN4.out (by rw [ho]; omega)
    clear X hy HE6 HE7 hL8 hR8 c1 c2 c3 c4 HS8' HN7 HN6
    -- the tail
    have FIN : Hid (∀ w9 s9 sl9 ms9 la9 wA sA qn sa ln cp ns m', PGd w9 o bp T sl s9 → Stp (fun l => l = 1043) w4 o w9 o → LsI w4 w9 s.nxt.nxt s9 sl9 ms9 (v.getD 0 0) la9 → s9.alive = s.alive → LsS w9 o bp T sl s9 sA qn wA (.slice sa ln cp) ns m' → Stp (fun l => l = 1043) w9 o wA o → R = okP sA ⟨8, v.getD 0 0, qn, 0, 0, 0, t.s, t.p⟩ → ExQ w o bp T sl s R (.returned (.iface 371 (.pointer (some ⟨wA.heap.size, 0, none⟩)))) (wA.alloc (.cells #[.pointer (some ⟨nb, 0, none⟩), .slice sl9.a ms9.length sl9.c, .slice sa ln cp] 373))) := by
      intro w9 s9 sl9 ms9 la9 wA sA qn sa ln cp ns m' g9 h9 L9 ha9 X hA hR
      obtain ⟨m, Z⟩ := L9.fin g9.r ha9
      have hSA := (HS4.out.trans h9).trans hA
      have A := ((((Acc.nil w HG.out.k).stp (s2 := s.nxt.nxt) HS4.out ow rfl).mem HN4.out hnb).list Z h9 ow).list X hA ow
      rw [show s.nxt.nxt.nodes.length - 1 = s.nodes.length - 1 from rfl] at A
      simp only [List.nil_append, List.append_assoc, List.cons_append] at A
      have sh := Shp.fors (s := t.s) (p := t.p) (b := wA.heap.size) (c := nb) (lo := s.nodes.length - 1) (f := v.getD 0 0) (g := qn) (h1 := s9.nodes.length - 1) (hi := sA.nodes.length - 1) Z.v X.v
      rw [show sA.nodes.length - 1 + 1 = sA.nodes.length by have := A.n; have := A.le; omega] at sh
      exact ⟨hSA.alloc _, .inr ⟨_, _, _, _, hR, rfl, A.fin hSA ow X.r (HF0.out _ _ hR) rfl sh⟩⟩
    go_wp2_with fail
    rw [HW8.out]
    refine (HG8.out.acceptC 45 (by decide) (by decide)).mono ?_
    rintro e9 w9 ⟨a1, ⟨rfl, hk, a3⟩ | ⟨rfl, hk, a3⟩⟩
    · have HE9 : Hid (R = PBd (parN T n 15 room [4] s8) fun q s => okP s ⟨8, v.getD 0 0, q.getD 0 0, 0, 0, 0, t.s, t.p⟩) := by
        show R = _
        rw [HE8.out]
        unfold fo38b
        rw [if_neg hk]
      have HS9 : Hid (Stp (fun l => l = 1043) w8 o w9 o) := a1
      have HG9 : Hid (PGd w9 o bp T sl s8) := a3
      have CB : Hid (Calls Tryz.prog 160 #[.pointer (some ⟨bp, 0, none⟩), .int .i64 (room : Nat), .int .i64 4] w9 (LsQ w9 o bp T sl s8 (parN T n 15 room [4] s8))) := BO.out w9 s8 a3 ha8.2 ha8.1 hal4 (PB_ne (by rw [← HE9.out]; exact HX.out))
      clear a1 a3 hk HE8
      go_wp2_with fail
      refine CB.out.mono ?_
      rintro eA wA ⟨q5, q6⟩
      have HSA : Hid (Stp (fun l => l = 1043) w9 o wA o) := q5
      clear q5 CB
      rcases q6 with ⟨y, hy, rfl, hpe⟩ | ⟨q, sA, sa, ln, cp, ns, m', hy, rfl, Z⟩
      · have HPE : Hid (PErr wA o bp y.1 y.2) := hpe
        have HY : Hid (R = .inl y) := by
          show R = _
          rw [HE9.out, hy]; rfl
        clear hpe hy
        go_wp2_with fail
        go_ret
        exact ExQ.bad (HS4.out.trans (HS8.out.trans (HS9.out.trans HSA.out))) HY.out HPE.out
      have HZ : Hid (LsS w9 o bp T sl s8 sA (q.getD 0 0) wA (.slice sa ln cp) ns m') := Z
      have HEA : Hid (R = okP sA ⟨8, v.getD 0 0, q.getD 0 0, 0, 0, 0, t.s, t.p⟩) := by
        show R = _
        rw [HE9.out, hy]; rfl
      clear Z hy HE9
      go_wp2_with fail
      go_ret
      exact FIN.out _ _ _ _ _ _ _ _ _ _ _ _ _ HG9.out (HS8.out.trans HS9.out) (HL8.out.stp HS9.out ow4 (Alike.refl _)) ha8.1 HZ.out HSA.out HEA.out
    · have HE9 : Hid (R = PBd (parN T n 0 (room - 1) [1] s8.nxt) fun z s => PBd (parN T n 15 room [4] (s.link (u.getD 0 0) (z.getD 0 0))) fun q s => okP s ⟨8, v.getD 0 0, q.getD 0 0, 0, 0, 0, t.s, t.p⟩) := by
        show R = _
        rw [HE8.out]
        unfold fo38b
        rw [if_pos hk]
      have HS9 : Hid (Stp (fun l => l = 1043) w8 o w9 o) := a1
      have HG9 : Hid (PGd w9 o bp T sl s8.nxt) := a3
      have CE : Hid (Calls Tryz.prog 159 #[.pointer (some ⟨bp, 0, none⟩), .int .i64 ((room : Int) - 1), .int .i64 1] w9 (ExQ w9 o bp T sl s8.nxt (parN T n 0 (room - 1) [1] s8.nxt))) := EX.out w9 _ a3 (PB_ne (by rw [← HE9.out]; exact HX.out))
      clear a1 a3 hk HE8
      go_wp2_with fail
      refine CE.out.mono ?_
      rintro e10 w10 ⟨q5, q6⟩
      have HS10 : Hid (Stp (fun l => l = 1043) w9 o w10 o) := q5
      clear q5 CE
      rcases q6 with ⟨y, hy, rfl, hpe⟩ | ⟨z, s10, t10, b10, hy, rfl, X⟩
      · have HPE : Hid (PErr w10 o bp y.1 y.2) := hpe
        have HY : Hid (R = .inl y) := by
          show R = _
          rw [HE9.out, hy]; rfl
        clear hpe hy
        go_wp2_with fail
        go_ret
        exact ExQ.bad (HS4.out.trans (HS8.out.trans (HS9.out.trans HS10.out))) HY.out HPE.out
      have HX10 : Hid (ExS w9 o bp T sl s8.nxt s10 (z.getD 0 0) w10 (.iface t10 (.pointer (some ⟨b10, 0, none⟩)))) := X
      have HE10 : Hid (R = PBd (parN T n 15 room [4] (s10.link (u.getD 0 0) (z.getD 0 0))) fun q s => okP s ⟨8, v.getD 0 0, q.getD 0 0, 0, 0, 0, t.s, t.p⟩) := by
        show R = _
        rw [HE9.out, hy]; rfl
      have hAL10 := AL0.out _ _ _ HG9.out.k hy
      have HL9 : Hid (LsI w4 w9 s.nxt.nxt s8.nxt ⟨some ⟨w7.heap.size, 0, none⟩, 2⟩ [(s.nxt.nxt.nodes.length - 1, v.getD 0 0, .iface t5 (.pointer (some ⟨b5, 0, none⟩))), (v.getD 0 0, u.getD 0 0, .iface t7 (.pointer (some ⟨b7, 0, none⟩)))] (v.getD 0 0) (u.getD 0 0)) := HL8.out.stp HS9.out ow4 (Alike.nxt s8)
      have OWN : Hid (w10.ownsRow 0 206 1 (.slice (some ⟨w7.heap.size, 0, none⟩) 2 2) 2 [.iface t5 (.pointer (some ⟨b5, 0, none⟩)), .iface t7 (.pointer (some ⟨b7, 0, none⟩))]) := (HL9.out.stp (s2 := s8.nxt) HS10.out ow4 (Alike.refl _)).own
      clear X hy HE9
      go_wp2_with (at_builtin; go_must (refine wpList_app row_list _ rfl (.tmp 86) (.tmp 88) rfl _ _ _ rfl (owns_alloc OWN.out _) _ [.iface t10 (.pointer (some ⟨b10, 0, none⟩))] rfl (Has.new _ _ _) rfl ?one ?bd ?go))
      case one => intro u hu; simp at hu; subst hu; rfl
      case bd => omega
      case go =>
        intro g cap w11 q1 q2 q3 q4
        have LL := HL9.out.snoc (HS8.out.trans HS9.out).fr.size HX10.out HS10.out ow4 (g := g) (cap := cap) q1 q2 (by simpa using q3) q4
        have hs10 := HS8.out.trans (HS9.out.trans HS10.out)
        have HS11 : Hid (Stp (fun l => l = 1043) w4 o w11 o) := HL9.out.far hs10 q2
        have hR11 := (HX10.out.r.st (HL9.out.near ow4 q2) (by omega) (by omega))
        obtain ⟨c1, c2, c3, c4⟩ := link_same s10 (u.getD 0 0) (z.getD 0 0)
        have hu0 : ¬ u.getD 0 0 = 0 := by
          have h1 := HL8.out.la.2 (by simp)
          have h2 := HL8.out.l
          have h3 := h2.2.2.2.2.1
          have h4 := h2.2.1
          dsimp only at h3 h4
          omega
        rw [if_neg hu0] at LL
        obtain ⟨s11, HS11'⟩ : ∃ s11, Hid (s10.link (u.getD 0 0) (z.getD 0 0) = s11) := ⟨_, rfl⟩
        have ha11 : s11.alive = s.alive ∧ s11.loops = s.loops := by
          rw [← HS11'.out]
          exact ⟨c2.trans (hAL10.1.trans ha8.1), c3.trans (hAL10.2.trans ha8.2)⟩
        have hR11' := hR11.as (s' := s10.link (u.getD 0 0) (z.getD 0 0)) c1 c2 c3 c4
        rw [HS11'.out] at LL HE10 hR11'
        have HL11 : Hid (LsI w4 w11 s.nxt.nxt s11 ⟨some ⟨g, 0, none⟩, cap⟩ _ (v.getD 0 0) (z.getD 0 0)) := LL
        have HG11 : Hid (PGd w11 o bp T sl s11) := HG4.out.st HS11.out hR11' LL.ok
        have CB : Hid (Calls Tryz.prog 160 #[.pointer (some ⟨bp, 0, none⟩), .int .i64 (room : Nat), .int .i64 4] w11 (LsQ w11 o bp T sl s11 (parN T n 15 room [4] s11))) := BO.out w11 s11 HG11.out ha11.2 ha11.1 hal4 (PB_ne (by rw [← HE10.out]; exact HX.out))
        clear q1 q2 q3 q4 OWN LL hR11 hR11' c1 c2 c3 c4
        go_wp2_with fail
        refine CB.out.mono ?_
        rintro eA wA ⟨q5, q6⟩
        have HSA : Hid (Stp (fun l => l = 1043) w11 o wA o) := q5
        clear q5 CB
        rcases q6 with ⟨y, hy, rfl, hpe⟩ | ⟨q, sA, sa, ln, cp, ns, m', hy, rfl, Z⟩
        · have HPE : Hid (PErr wA o bp y.1 y.2) := hpe
          have HY : Hid (R = .inl y) := by
            show R = _
            rw [HE10.out, hy]; rfl
          clear hpe hy
          go_wp2_with fail
          go_ret
          exact ExQ.bad (HS4.out.trans (HS11.out.trans HSA.out)) HY.out HPE.out
        have HZ : Hid (LsS w11 o bp T sl s11 sA (q.getD 0 0) wA (.slice sa ln cp) ns m') := Z
        have HEA : Hid (R = okP sA ⟨8, v.getD 0 0, q.getD 0 0, 0, 0, 0, t.s, t.p⟩) := by
          show R = _
          rw [HE10.out, hy]; rfl
        clear Z hy HE10
        go_wp2_with fail
        go_ret
        exact FIN.out _ _ _ _ _ _ _ _ _ _ _ _ _ HG11.out HS11.out HL11.out ha11.1 HZ.out HSA.out HEA.out
  · rw [if_pos hk] at HE2
    have HS3 : Hid (Stp (fun l => l = 1043) w o w3 o) := HS2.out.trans a1
    have HN3 : Hid (Has w3 nb #[.int .i64 t.p, sv t.s] 357) := a1.has HN2.out (by rw [ho]; omega)
    have HG3 : Hid (PGd w3 o bp T sl s.nxt.nxt) := a3
    clear a1 a3 hk
    go_wp2_with fail
    refine (HG3.out.nameC 0 (by decide)).mono ?_
    rintro e4 w4 ⟨a1, ⟨y, rfl, a2, a3⟩ | ⟨nc, rfl, hnc, a2, hN, a3, hal⟩⟩
    · have HS4 : Hid (Stp (fun l => l = 1043) w o w4 o) := HS3.out.trans a1
      have HY : Hid (R = .inl y) := by
        show R = _
        rw [HE2.out, a2]
      have HPE : Hid (PErr w4 o bp y.1 y.2) := a3
      clear a1 a2 a3
      go_wp2_with fail
      go_ret
      exact ExQ.bad HS4.out HY.out HPE.out
    have HE4 : Hid (R = expectP T s.nxt.nxt.nxt 14 (fo45 T n room t (curT T s.nxt.nxt))) := by
      show R = _
      rw [HE2.out, a2]
    have hnc2 : w.heap.size ≤ nc := Nat.le_trans HS3.out.fr.size hnc
    have hoc : o nc = 0 := HG.out.r.ow nc hnc2
    generalize curT T s.nxt.nxt = t2 at *
    have HS4 : Hid (Stp (fun l => l = 1043) w o w4 o) := HS3.out.trans a1
    have HN4 : Hid (Has w4 nb #[.int .i64 t.p, sv t.s] 357) := a1.has HN3.out (by rw [ho]; omega)
    have HM4 : Hid (Has w4 nc #[.int .i64 t2.p, sv t2.s] 357) := hN
    have HG4 : Hid (PGd w4 o bp T sl s.nxt.nxt.nxt) := a3
    clear a1 a2 a3 HE2 hN hal
    go_wp2_with fail
    refine (HG4.out.expectC 14 (by decide) (by decide)).mono ?_
    rintro e5 w5 ⟨a1, ⟨y, rfl, a2, a3⟩ | ⟨rfl, a2, a3⟩⟩
    · have HS5 : Hid (Stp (fun l => l = 1043) w o w5 o) := HS4.out.trans a1
      have HY : Hid (R = .inl y) := by
        show R = _
        rw [HE4.out, a2]
      have HPE : Hid (PErr w5 o bp y.1 y.2) := a3
      clear a1 a2 a3
      go_wp2_with fail
      go_ret
      exact ExQ.bad HS5.out HY.out HPE.out
    have HE5 : Hid (R = fo45 T n room t t2 s.nxt.nxt.nxt.nxt) := by
      show R = _
      rw [HE4.out, a2]
    have HS5 : Hid (Stp (fun l => l = 1043) w o w5 o) := HS4.out.trans a1
    have HN5 : Hid (Has w5 nb #[.int .i64 t.p, sv t.s] 357) := a1.has HN4.out (by rw [ho]; omega)
    have HM5 : Hid (Has w5 nc #[.int .i64 t2.p, sv t2.s] 357) := a1.has HM4.out (by rw [hoc]; omega)
    obtain ⟨s5, HS5'⟩ : ∃ s5, Hid (s.nxt.nxt.nxt.nxt = s5) := ⟨_, rfl⟩
    have hn5 : s5.nodes = s.nodes ∧ s5.alive = s.alive ∧ s5.loops = s.loops := by
      rw [← HS5'.out]
      exact ⟨rfl, rfl, rfl⟩
    rw [HS5'.out] at HE5 a3
    have hA := ((Acc.nil w HG.out.k).stp (s2 := s5) HS5.out HG.out.r.ow hn5.1).names HN5.out hnb HM5.out hnc2
    obtain ⟨s6, HS6'⟩ : ∃ s6, Hid ((s5.add ⟨17, 0, 0, 0, s5.nodes.length + 1, 0, t.s, t.p⟩).add ⟨17, 0, 0, 0, 0, 0, t2.s, t2.p⟩ = s6) := ⟨_, rfl⟩
    have HE6 : Hid (R = PBd (parN T n 0 (room - 1) [1] s6) fun v s1 => PBd (parN T n 15 room [4] s1) fun u s2 => okP s2 ⟨9, s5.nodes.length, v.getD 0 0, u.getD 0 0, 0, 0, [], t.p⟩) := by
      show R = _
      rw [HE5.out, ← HS6'.out]
      rfl
    have HG6 : Hid (PGd w5 o bp T sl s6) := by
      show PGd _ _ _ _ _ _
      rw [← HS6'.out]
      refine ⟨a3.g, a3.r.as rfl rfl rfl rfl, ⟨?_, a3.k.fu, a3.k.al⟩, a3.b⟩
      rw [add_len]
      omega
    have hA6 : s6.alive = s.alive ∧ s6.nodes.length = s.nodes.length + 2 ∧ s6.loops = s.loops := by
      rw [← HS6'.out]
      refine ⟨hn5.2.1, ?_, hn5.2.2⟩
      rw [add_len, add_len, hn5.1]
    rw [hn5.1] at hA HE6
    have HA6 : Hid (Acc w w5 s s6 [(s.nodes.length - 1, s.nodes.length, .iface 296 (.pointer (some ⟨nb, 0, none⟩))), (s.nodes.length, s.nodes.length + 1, .iface 296 (.pointer (some ⟨nc, 0, none⟩)))] [] [(s.nodes.length - 1, s.nodes.length + 1, s.nodes.length, [(s.nodes.length - 1, s.nodes.length, .iface 296 (.pointer (some ⟨nb, 0, none⟩))), (s.nodes.length, s.nodes.length + 1, .iface 296 (.pointer (some ⟨nc, 0, none⟩)))])]) := by
      show Acc _ _ _ _ _ _ _
      rw [← HS6'.out, hn5.1]
      exact hA
    have CE : Hid (Calls Tryz.prog 159 #[.pointer (some ⟨bp, 0, none⟩), .int .i64 ((room : Int) - 1), .int .i64 1] w5 (ExQ w5 o bp T sl s6 (parN T n 0 (room - 1) [1] s6))) := EX.out w5 _ HG6.out (PB_ne (by rw [← HE6.out]; exact HX.out))
    clear a1 a2 a3 HE4 HE5 hA
    go_wp2_with fail
    refine CE.out.mono ?_
    rintro e7 w7 ⟨q5, q6⟩
    have HS7 : Hid (Stp (fun l => l = 1043) w5 o w7 o) := q5
    clear q5 CE
    rcases q6 with ⟨y, hy, rfl, hpe⟩ | ⟨v, s7, t7, b7, hy, rfl, Y⟩
    · have HPE : Hid (PErr w7 o bp y.1 y.2) := hpe
      have HY : Hid (R = .inl y) := by
        show R = _
        rw [HE6.out, hy]; rfl
      clear hpe hy
      go_wp2_with fail
      go_ret
      exact ExQ.bad (HS5.out.trans HS7.out) HY.out HPE.out
    have HE7 : Hid (R = PBd (parN T n 15 room [4] s7) fun u s2 => okP s2 ⟨9, s.nodes.length, v.getD 0 0, u.getD 0 0, 0, 0, [], t.p⟩) := by
      show R = _
      rw [HE6.out, hy]; rfl
    have hAL7 := AL0.out _ _ _ HG6.out.k hy
    have HY : Hid (ExS w5 o bp T sl s6 s7 (v.getD 0 0) w7 (.iface t7 (.pointer (some ⟨b7, 0, none⟩)))) := Y
    have HG7 : Hid (PGd w7 o bp T sl s7) := HG6.out.st HS7.out Y.r Y.f.ok
    have CB : Hid (Calls Tryz.prog 160 #[.pointer (some ⟨bp, 0, none⟩), .int .i64 (room : Nat), .int .i64 4] w7 (LsQ w7 o bp T sl s7 (parN T n 15 room [4] s7))) := BO.out w7 s7 HG7.out (hAL7.2.trans hA6.2.2) (hAL7.1.trans hA6.1) hal4 (PB_ne (by rw [← HE7.out]; exact HX.out))
    clear Y hy HE6
    go_wp2_with fail
    refine CB.out.mono ?_
    rintro e8 w8 ⟨q5, q6⟩
    have HS8 : Hid (Stp (fun l => l = 1043) w7 o w8 o) := q5
    clear q5 CB
    rcases q6 with ⟨y, hy, rfl, hpe⟩ | ⟨u, s8, sa, ln, cp, ns, m', hy, rfl, Z⟩
    · have HPE : Hid (PErr w8 o bp y.1 y.2) := hpe
      have HYY : Hid (R = .inl y) := by
        show R = _
        rw [HE7.out, hy]; rfl
      clear hpe hy
      go_wp2_with fail
      go_ret
      exact ExQ.bad (HS5.out.trans (HS7.out.trans HS8.out)) HYY.out HPE.out
    have HZ : Hid (LsS w7 o bp T sl s7 s8 (u.getD 0 0) w8 (.slice sa ln cp) ns m') := Z
    have HE8 : Hid (R = okP s8 ⟨9, s.nodes.length, v.getD 0 0, u.getD 0 0, 0, 0, [], t.p⟩) := by
      show R = _
      rw [HE7.out, hy]; rfl
    clear Z hy HE7
    go_wp2_with fail
    go_ret
    have ow := HG.out.r.ow
    have hSA := HS5.out.trans (HS7.out.trans HS8.out)
    have hN8 : Has w8 nb #[.int .i64 t.p, sv t.s] 357 := (HS7.out.trans HS8.out).has HN5.out (by rw [ho]; omega)
    have ve := HY.out.f.ve
    have n1 := HG.out.k.n1
    have hle := HZ.out.f.kp.le
    obtain ⟨q, hq⟩ : ∃ q, s.nodes.length = q + 1 := ⟨s.nodes.length - 1, by omega⟩
    -- the names' slice comes ahead of the body's list
    have hsl := Has.new w8 #[.iface 296 (.pointer (some ⟨nb, 0, none⟩)), .iface 296 (.pointer (some ⟨nc, 0, none⟩))] 206
    have hs9 : Stp (fun l => l = 1043) w8 o (w8.alloc (.cells #[.iface 296 (.pointer (some ⟨nb, 0, none⟩)), .iface 296 (.pointer (some ⟨nc, 0, none⟩))] 206)) o := (Stp.refl _ _ _).alloc _
    have A0 := ((HA6.out.tree HY.out HS7.out ow).list HZ.out HS8.out ow).stp (s2 := s8) hs9 ow rfl
    have hz9 : (w8.alloc (.cells #[.iface 296 (.pointer (some ⟨nb, 0, none⟩)), .iface 296 (.pointer (some ⟨nc, 0, none⟩))] 206)).heap.size = w8.heap.size + 1 := by simp
    have zz := hSA.fr.size
    have A : Acc w (w8.alloc (.cells #[.iface 296 (.pointer (some ⟨nb, 0, none⟩)), .iface 296 (.pointer (some ⟨nc, 0, none⟩))] 206)) s s8 _ ((nb, #[.int .i64 t.p, sv t.s], 357) :: ([(w8.heap.size, #[.iface 296 (.pointer (some ⟨nb, 0, none⟩)), .iface 296 (.pointer (some ⟨nc, 0, none⟩))], 206)] ++ m')) _ := ⟨A0.k, Mm.cons ⟨hnb, (hs9.has hN8 (by rw [ho]; omega)).lt⟩ (hs9.has hN8 (by rw [ho]; omega)) ((Mm.cons ⟨zz, hsl.lt⟩ hsl (Mm.nil _ _)).app A0.m), A0.l, A0.n, A0.le, A0.z⟩
    rw [show s7.nodes.length - 1 = v.getD 0 0 by omega, show s6.nodes.length - 1 = s.nodes.length + 1 by omega] at A
    have sh := Shp.forin (s := t.s) (x := .iface t7 (.pointer (some ⟨b7, 0, none⟩))) (y := .slice (some ⟨w8.heap.size, 0, none⟩) 2 2) (z := .iface 296 (.pointer (some ⟨nc, 0, none⟩))) (p := t.p) (b := w8.heap.size + 1) (c := nb) (lo := q) (a := v.getD 0 0) (g := u.getD 0 0) (hi := s8.nodes.length - 1) (m := [(w8.heap.size, #[.iface 296 (.pointer (some ⟨nb, 0, none⟩)), .iface 296 (.pointer (some ⟨nc, 0, none⟩))], 206)])
      (.inr ⟨_, 2, _, rfl, by simp, Nat.le_refl _, fun i x hx => by
        match i, hx with
        | 0, hx => simp at hx; rw [← hx]; rfl
        | 1, hx => simp at hx; rw [← hx]; rfl
        | i + 2, hx => simp at hx, rfl⟩) HZ.out.v
    rw [show s8.nodes.length - 1 + 1 = s8.nodes.length by omega] at sh
    have FI := A.fin (d := ⟨9, s.nodes.length, v.getD 0 0, u.getD 0 0, 0, 0, [], t.p⟩) (hSA.trans hs9) ow (HZ.out.r.alloc _) (HF0.out _ _ HE8.out) rfl (by rw [hz9, hq]; exact sh)
    rw [hz9] at FI
    exact ⟨(hSA.trans hs9).alloc _, .inr ⟨_, _, _, _, HE8.out, rfl, FI⟩⟩
end
end Go.Proofs.Qxb6500574aGreatDoor
