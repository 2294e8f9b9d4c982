/-
  THE WALK of the parser layer: the parser: local.
-/
import Derived.Test.Qxb6500574aGreatDoorWPa16
namespace Go.Proofs.Qxb6500574aGreatDoor
open Go Go.RowKit
set_option linter.unusedVariables false
set_option linter.unusedSimpArgs false
open Go.Lib
section
set_option maxRecDepth 100000
set_option maxHeartbeats 2000000
variable {w : World} {o : Nat → Nat} {bp : Nat} {sl : Sl} {T : List Tok} {s : PSt} {n room : Nat}
theorem PGd.functionC (g : PGd w o bp T sl s) (h0 : (curT T s).k ≠ 0) (h1 : (curT T s).k ≠ 1) : Calls Tryz.prog 221 #[.pointer (some ⟨bp, 0, none⟩)] w fun e w' => Stp (fun l => l = 1043) w o w' o ∧ ((∃ y, 12 ≤ s.funcs ∧ e = .returned (.bool false) ∧ failP T s 20 = .inl y ∧ PErr w' o bp y.1 y.2) ∨ (s.funcs < 12 ∧ e = .returned (.bool true) ∧ PGd w' o bp T sl s.nxt)) := by
  by_cases hf : s.funcs < 12
  · refine (g.r.func_yes g.g hf h0 h1).mono ?_
    rintro e w' ⟨rfl, q1, q2⟩
    exact ⟨q2, .inr ⟨hf, rfl, g.st q2 q1 ((Alike.nxt s).sok g.k)⟩⟩
  · obtain ⟨y, hy⟩ : ∃ y, failP T s 20 = .inl y := ⟨_, rfl⟩
    refine (g.r.func_no (by omega) hy).mono ?_
    rintro e w' ⟨rfl, q1, q2⟩
    exact ⟨q2, .inl ⟨y, by omega, rfl, hy, q1⟩⟩
def lo45 (T : List Tok) (n room : Nat) (m m2 : Tok) (s : PSt) : PR := PBd (parN T n 0 (room - 1) [1] ((s.add ⟨17, 0, 0, 0, s.nodes.length + 1, 0, m.s, m.p⟩).add ⟨17, 0, 0, 0, 0, 0, m2.s, m2.p⟩)) fun v s1 => if (s1.nodes.getD (v.getD 0 0) nd0).k ≠ 19 then failP T s1 15 else okP { s1 with alive := s1.alive + 2 } ⟨2, s.nodes.length, v.getD 0 0, 0, 0, 0, [], m.p⟩
def lo12 (T : List Tok) (n room : Nat) (m : Tok) (s : PSt) : PR := if (curT T s).k = 45 then nameP T s.nxt 2 fun m2 s => expectP T s 38 (lo45 T n room m m2) else if (curT T s).k = 38 then PBd (parN T n 0 (room - 1) [1] s.nxt) fun v s => okP { s with alive := s.alive + 1 } ⟨1, v.getD 0 0, 0, 0, 0, 0, m.s, m.p⟩ else okP { s with alive := s.alive + 1 } ⟨1, 0, 0, 0, 0, 0, m.s, m.p⟩
theorem par12 : parN T (n + 1) 12 room [] s = if (curT T s).k = 12 then (if 12 ≤ s.funcs then failP T s 20 else nameP T s.nxt 1 fun m s => PBd (parN T n 7 room [m.p] { s with alive := s.alive + 1 }) fun v s => okP s ⟨3, v.getD 0 0, 0, 0, 0, 0, m.s, m.p⟩) else nameP T s 1 (lo12 T n room) := by
  conv => lhs; unfold parN
  simp (config := {decide := true}) only [if_true, if_false]
  rfl
theorem local_any (C : PCs T n) (g : PGd w o bp T sl s) (r1 : 1 ≤ room) (hr : s.loops + room ≤ 12) (hx : parN T (n + 1) 12 room [] s ≠ x99) : Calls Tryz.prog 156 #[.pointer (some ⟨bp, 0, none⟩), .int .i64 (room : Nat)] w (ExQ w o bp T sl s (parN T (n + 1) 12 room [] s)) := by
  have E := @par12 T s n room
  obtain ⟨R, HR⟩ : ∃ R, Hid (parN T (n + 1) 12 room [] s = R) := ⟨_, rfl⟩
  have HF0 : Hid (∀ v s', R = .inr (v, s') → EF s s' (v.getD 0 0)) := fun v s' h => EF.stp g.k ((PA.all g.g.tok (n + 1)).p12 room [] s (v, s') g.k (HR.out.trans h) r1 (by omega))
  rw [HR.out] at hx E ⊢
  obtain ⟨hb, c2, _, _, _, _⟩ := g.r.cells
  have HG : Hid (PGd w o bp T sl s) := g
  have HC : Hid (PCs T n) := C
  have HX : Hid (R ≠ x99) := hx
  have hrm : ((room - 1 : Nat) : Int) = (room : Int) - 1 := by omega
  have hr12 : room ≤ 12 := by omega
  clear g C hx HR
  by_cases k12 : (curT T s).k = 12
  · rw [if_pos k12] at E
    have HE : Hid (R = _) := E
    have FU := HG.out.functionC (by omega) (by omega)
    rw [k12] at c2
    clear E k12
    go_enter Tryz.func156, Tryz.ntmps156
    go_wp2_with fail
    refine FU.mono ?_
    rintro e1 w1 ⟨a1, ⟨y, hf, rfl, a2, a3⟩ | ⟨hf, rfl, a3⟩⟩
    · have HS1 : Hid (Stp (fun l => l = 1043) w o w1 o) := a1
      have HY : Hid (R = .inl y) := by
        show R = _
        rw [HE.out, if_pos hf, a2]
      have HPE : Hid (PErr w1 o bp y.1 y.2) := a3
      clear a1 a2 a3 FU hf
      go_wp2_with fail
      go_ret
      exact ExQ.bad HS1.out HY.out HPE.out
    have HS1 : Hid (Stp (fun l => l = 1043) w o w1 o) := a1
    have HG1 : Hid (PGd w1 o bp T sl s.nxt) := a3
    have HE1 : Hid (R = nameP T s.nxt 1 fun m s => PBd (parN T n 7 room [m.p] { s with alive := s.alive + 1 }) fun v s => okP s ⟨3, v.getD 0 0, 0, 0, 0, 0, m.s, m.p⟩) := by
      show R = _
      rw [HE.out, if_neg (by omega)]
    have HFU : Hid (s.funcs < 12) := hf
    clear a1 a3 FU HE hf
    go_wp2_with fail
    refine (HG1.out.nameC 1 (by decide)).mono ?_
    rintro e2 w2 ⟨a1, ⟨y, rfl, a2, a3⟩ | ⟨nb, rfl, hnb, a2, hN, a3, hal⟩⟩
    · have HS2 : Hid (Stp (fun l => l = 1043) w1 o w2 o) := a1
      have HY : Hid (R = .inl y) := by
        show R = _
        rw [HE1.out, a2]
      have HPE : Hid (PErr w2 o bp y.1 y.2) := a3
      clear a1 a2 a3
      go_wp2_with fail
      go_ret
      exact ExQ.bad (HS1.out.trans HS2.out) HY.out HPE.out
    have HE2 : Hid (R = PBd (parN T n 7 room [(curT T s.nxt).p] { s.nxt.nxt with alive := s.alive + 1 }) fun v s1 => okP s1 ⟨3, v.getD 0 0, 0, 0, 0, 0, (curT T s.nxt).s, (curT T s.nxt).p⟩) := by
      show R = _
      rw [HE1.out, a2]
      rfl
    have hal2 : s.alive + 1 ≤ 12 := hal (by decide)
    generalize curT T s.nxt = t at *
    obtain ⟨G3, S3⟩ := a3.alive (x := s.alive + 1) (u := (s.alive : Int) + 1) hal2 (by simp)
    have HG3 : Hid (PGd (w2.setCell ⟨bp, 7, none⟩ (.int .i64 ((s.alive : Int) + 1))) o bp T sl { s.nxt.nxt with alive := s.alive + 1 }) := G3
    have HS3 : Hid (Stp (fun l => l = 1043) w o (w2.setCell ⟨bp, 7, none⟩ (.int .i64 ((s.alive : Int) + 1))) o) := HS1.out.trans (a1.trans S3)
    have c7 := a3.r.cells2.1
    have z7 := a3.r.cells2.2.2.2 7
    have hb2 := a3.r.cells.1
    rw [show s.nxt.nxt.alive = s.alive from rfl] at c7
    have hnb2 : w.heap.size ≤ nb := Nat.le_trans HS1.out.fr.size hnb
    have ho : o nb = 0 := HG.out.r.ow nb hnb2
    have HN3 : Hid (Has (w2.setCell ⟨bp, 7, none⟩ (.int .i64 ((s.alive : Int) + 1))) nb #[.int .i64 t.p, sv t.s] 357) := S3.has hN (by rw [ho]; omega)
    have hal3 : (s.alive : Int) + 1 ≤ 12 := by omega
    obtain ⟨s3, HS0⟩ : ∃ s0 : PSt, Hid (({ s.nxt.nxt with alive := s.alive + 1 } : PSt) = s0) := ⟨_, rfl⟩
    rw [HS0.out] at HG3 HE2
    have hne : nb ≠ bp := fun e => by
      have := a3.r.blk.lb
      rw [← e, ho] at this
      cases this
    have n2 : w2.cell? ⟨nb, 0, none⟩ = some (.int .i64 t.p) := by
      rw [hN.cell 0]
      rfl
    have nl := hN.lt
    have LT : Hid (∀ w3, PGd w3 o bp T sl s3 → Calls Tryz.prog 223 #[.pointer (some ⟨bp, 0, none⟩), .int .i64 (room : Nat), .int .i64 (t.p : Nat)] w3 (FnQ w3 o bp T sl s3 (parN T n 7 room [t.p] s3))) := fun w3 g3 => HC.out.c7 g3 r1 hr12 (by rw [← HS0.out]; exact HFU.out) (PB_ne (by rw [← HE2.out]; exact HX.out))
    clear a1 a2 a3 G3 S3 hN HE1 hal hal2
    go_wp2_with fail
    refine (LT.out _ HG3.out).mono ?_
    rintro e5 w5 ⟨q1, ⟨y, hy, rfl, hpe⟩ | ⟨v, s5, b5, hy, rfl, X⟩⟩
    · have HPE : Hid (PErr w5 o bp y.1 y.2) := hpe
      have HY : Hid (R = .inl y) := by
        show R = _
        rw [HE2.out, hy]; rfl
      have HS5 : Hid (Stp (fun l => l = 1043) w o w5 o) := HS3.out.trans q1
      clear q1 hpe hy
      go_wp2_with fail
      go_ret
      exact ExQ.bad HS5.out HY.out HPE.out
    have HE5 : Hid (R = okP s5 ⟨3, v.getD 0 0, 0, 0, 0, 0, t.s, t.p⟩) := by
      show R = _
      rw [HE2.out, hy]; rfl
    have HX5 : Hid (ExS (w2.setCell ⟨bp, 7, none⟩ (.int .i64 ((s.alive : Int) + 1))) o bp T sl s3 s5 (v.getD 0 0) w5 (.iface 354 (.pointer (some ⟨b5, 0, none⟩)))) := X
    have HS5 : Hid (Stp (fun l => l = 1043) (w2.setCell ⟨bp, 7, none⟩ (.int .i64 ((s.alive : Int) + 1))) o w5 o) := q1
    have HN5 : Hid (Has w5 nb #[.int .i64 t.p, sv t.s] 357) := q1.has HN3.out (by rw [ho]; omega)
    clear q1 X hy HE2
    go_wp2_with fail
    go_ret
    have ow := HG.out.r.ow
    have A := (((Acc.nil w HG.out.k).stp (s2 := s3) HS3.out ow (by rw [← HS0.out]; rfl)).tree HX5.out HS5.out ow).mem HN5.out hnb2
    have ve := HX5.out.f.ve
    have hln : s3.nodes.length - 1 = s.nodes.length - 1 := by rw [← HS0.out]; rfl
    rw [hln] at A
    refine ⟨(HS3.out.trans HS5.out).alloc _, .inr ⟨_, _, _, _, HE5.out, rfl, A.fin (HS3.out.trans HS5.out) ow HX5.out.r (HF0.out _ _ HE5.out) rfl ?_⟩⟩
    rw [← ve]
    exact .localfn
  rw [if_neg k12] at E
  have HE : Hid (R = nameP T s 1 (lo12 T n room)) := E
  have e12 : (((curT T s).k : Int) == 12) = false := by simp; omega
  clear E k12
  go_enter Tryz.func156, Tryz.ntmps156
  go_wp2_with fail
  refine (HG.out.nameC 1 (by decide)).mono ?_
  rintro e2 w2 ⟨a1, ⟨y, rfl, a2, a3⟩ | ⟨nb, rfl, hnb, a2, hN, a3, hal⟩⟩
  · have HS2 : Hid (Stp (fun l => l = 1043) w o w2 o) := a1
    have HY : Hid (R = .inl y) := by
      show R = _
      rw [HE.out, a2]
    have HPE : Hid (PErr w2 o bp y.1 y.2) := a3
    clear a1 a2 a3
    go_wp2_with fail
    go_ret
    exact ExQ.bad HS2.out HY.out HPE.out
  have HE2 : Hid (R = lo12 T n room (curT T s) s.nxt) := by
    show R = _
    rw [HE.out, a2]
  have hal1 : s.alive + 1 ≤ 12 := hal (by decide)
  have ho : o nb = 0 := HG.out.r.ow nb hnb
  generalize curT T s = t at *
  have HS2 : Hid (Stp (fun l => l = 1043) w o w2 o) := a1
  have HG2 : Hid (PGd w2 o bp T sl s.nxt) := a3
  have HN2 : Hid (Has w2 nb #[.int .i64 t.p, sv t.s] 357) := hN
  clear a1 a2 a3 HE hN hal c2 e12
  go_wp2_with fail
  refine (HG2.out.acceptC 45 (by decide) (by decide)).mono ?_
  rintro e3 w3 ⟨a1, ⟨rfl, hk, a3⟩ | ⟨rfl, hk, a3⟩⟩
  · have HE3 : Hid (R = if (curT T s.nxt).k = 38 then PBd (parN T n 0 (room - 1) [1] s.nxt.nxt) (fun v s => okP { s with alive := s.alive + 1 } ⟨1, v.getD 0 0, 0, 0, 0, 0, t.s, t.p⟩) else okP { s.nxt with alive := s.nxt.alive + 1 } ⟨1, 0, 0, 0, 0, 0, t.s, t.p⟩) := by
      show R = _
      rw [HE2.out]
      unfold lo12
      rw [if_neg hk]
    have HS3 : Hid (Stp (fun l => l = 1043) w o w3 o) := HS2.out.trans a1
    have HN3 : Hid (Has w3 nb #[.int .i64 t.p, sv t.s] 357) := a1.has HN2.out (by rw [ho]; omega)
    have HG3 : Hid (PGd w3 o bp T sl s.nxt) := a3
    clear a1 a3 HE2 hk
    go_wp2_with fail
    obtain ⟨w4, HW4⟩ : ∃ w4, Hid ((w3.alloc (.cells #[.iface 296 (.pointer (some ⟨nb, 0, none⟩))] 206)).alloc (.cells #[.slice (some ⟨w3.heap.size, 0, none⟩) 1 1, .nilIface] 364) = w4) := ⟨_, rfl⟩
    rw [HW4.out]
    have hs4 : Stp (fun l => l = 1043) w3 o w4 o := by
      rw [← HW4.out]
      exact ((Stp.refl _ _ _).alloc _).alloc _
    have HS4 : Hid (Stp (fun l => l = 1043) w o w4 o) := HS3.out.trans hs4
    have HG4 : Hid (PGd w4 o bp T sl s.nxt) := by
      show PGd _ _ _ _ _ _
      rw [← HW4.out]
      exact (HG3.out.alloc _).alloc _
    have HN4 : Hid (Has w4 nb #[.int .i64 t.p, sv t.s] 357) := hs4.has HN3.out (by rw [ho]; omega)
    have HL4 : Hid (Has w4 w3.heap.size #[.iface 296 (.pointer (some ⟨nb, 0, none⟩))] 206) := by
      show Has _ _ _ _
      rw [← HW4.out]
      exact (Has.new _ _ _).alloc _
    have HB4 : Hid (Has w4 (w3.heap.size + 1) #[.slice (some ⟨w3.heap.size, 0, none⟩) 1 1, .nilIface] 364) := by
      show Has _ _ _ _
      rw [← HW4.out]
      have := Has.new (w3.alloc (.cells #[.iface 296 (.pointer (some ⟨nb, 0, none⟩))] 206)) #[.slice (some ⟨w3.heap.size, 0, none⟩) 1 1, .nilIface] 364
      rw [show (w3.alloc (.cells #[.iface 296 (.pointer (some ⟨nb, 0, none⟩))] 206)).heap.size = w3.heap.size + 1 by simp] at this
      exact this
    have hz3 := HS3.out.fr.size
    have hz4 : w4.heap.size = w3.heap.size + 2 := by
      rw [← HW4.out]
      simp
    have hoL : o w3.heap.size = 0 := HG.out.r.ow _ hz3
    have hoB : o (w3.heap.size + 1) = 0 := HG.out.r.ow _ (by omega)
    have SLM : Hid (∀ lo, SlM [(lo, lo + 1, .iface 296 (.pointer (some ⟨nb, 0, none⟩)))] (.slice (some ⟨w3.heap.size, 0, none⟩) 1 1) [(w3.heap.size, #[.iface 296 (.pointer (some ⟨nb, 0, none⟩))], 206)]) := fun lo =>
      .inr ⟨_, 1, _, rfl, by simp, Nat.le_refl _, fun i x hx => by
          match i, hx with
          | 0, hx => simp at hx; rw [← hx]; rfl
          | i + 1, hx => simp at hx, rfl⟩
    clear HW4 hs4 HN3 HG3
    refine (HG4.out.acceptC 38 (by decide) (by decide)).mono ?_
    rintro e5 w5 ⟨a1, ⟨rfl, hk, a3⟩ | ⟨rfl, hk, a3⟩⟩
    · rw [if_neg hk] at HE3
      obtain ⟨G6, S6⟩ := a3.alive (x := s.alive + 1) (u := (s.alive : Int) + 1) hal1 (by simp)
      have HG6 : Hid (PGd (w5.setCell ⟨bp, 7, none⟩ (.int .i64 ((s.alive : Int) + 1))) o bp T sl { s.nxt with alive := s.alive + 1 }) := G6
      have HS6 : Hid (Stp (fun l => l = 1043) w4 o (w5.setCell ⟨bp, 7, none⟩ (.int .i64 ((s.alive : Int) + 1))) o) := a1.trans S6
      have c7 := a3.r.cells2.1
      have z7 := a3.r.cells2.2.2.2 7
      have hb5 := a3.r.cells.1
      rw [show s.nxt.alive = s.alive from rfl] at c7
      have hal3 : (s.alive : Int) + 1 ≤ 12 := by omega
      clear a1 a3 G6 S6 hk
      go_wp2_with fail
      go_ret
      have ow := HG.out.r.ow
      have HSA := HS4.out.trans HS6.out
      have A := (((Acc.nil w HG.out.k).stp (s2 := { s.nxt with alive := s.alive + 1 }) HSA ow rfl).mem (HS6.out.has HN4.out (by rw [ho]; omega)) hnb).mem (HS6.out.has HL4.out (by rw [hoL]; omega)) hz3
      have n1 := HG.out.k.n1
      have sh := Shp.local1 (s := t.s) (p := t.p) (b := w3.heap.size + 1) (c := nb) (SLM.out (s.nodes.length - 1)) (.inl ⟨rfl, rfl, rfl, rfl⟩)
      rw [show s.nodes.length - 1 + 1 = s.nodes.length by omega] at sh
      exact ⟨HSA, .inr ⟨_, _, _, _, HE3.out, rfl, A.fin3 HG6.out.r (HF0.out _ _ HE3.out) rfl (HS6.out.has HB4.out (by rw [hoB]; omega)) (by omega) sh⟩⟩
    · rw [if_pos hk] at HE3
      have hx9 : parN T n 0 (room - 1) [1] s.nxt.nxt ≠ x99 := PB_ne (by rw [← HE3.out]; exact HX.out)
      have EX : Hid (Calls Tryz.prog 159 #[.pointer (some ⟨bp, 0, none⟩), .int .i64 ((room : Int) - 1), .int .i64 1] w5 (ExQ w5 o bp T sl s.nxt.nxt (parN T n 0 (room - 1) [1] s.nxt.nxt))) := by
        have := HC.out.c0 (x := 1) a3 (room := room - 1) (by omega) (by omega) (by omega) hx9
        rw [hrm] at this
        exact this
      have HS5 : Hid (Stp (fun l => l = 1043) w4 o w5 o) := a1
      have HG5 : Hid (PGd w5 o bp T sl s.nxt.nxt) := a3
      clear a1 a3 hk hx9
      go_wp2_with fail
      refine EX.out.mono ?_
      rintro e6 w6 ⟨q5, q6⟩
      have HS6 : Hid (Stp (fun l => l = 1043) w5 o w6 o) := q5
      have HB6 : Hid (Has w6 (w3.heap.size + 1) #[.slice (some ⟨w3.heap.size, 0, none⟩) 1 1, .nilIface] 364) := (HS5.out.trans q5).has HB4.out (by rw [hoB]; omega)
      have i1 := HB6.out.cell 1
      have iz := HB6.out.frozen 1
      have il := HB6.out.lt
      simp only [List.getElem?_toArray, List.getElem?_cons_succ, List.getElem?_cons_zero] at i1
      clear q5
      rcases q6 with ⟨y, hy, rfl, hpe⟩ | ⟨u, s6, t6, b6, hy, rfl, Y⟩
      · have HPE : Hid (PErr (w6.setCell ⟨w3.heap.size + 1, 1, none⟩ .nilIface) o bp y.1 y.2) := hpe.put hoB
        have HY : Hid (R = .inl y) := by
          show R = _
          rw [HE3.out, hy]; rfl
        clear hpe hy
        go_wp2_with fail
        go_ret
        exact ExQ.bad ((HS4.out.trans (HS5.out.trans HS6.out)).own (p := ⟨w3.heap.size + 1, 1, none⟩) (by simp only; omega) _) HY.out HPE.out
      have HE6 : Hid (R = okP { s6 with alive := s6.alive + 1 } ⟨1, u.getD 0 0, 0, 0, 0, 0, t.s, t.p⟩) := by
        show R = _
        rw [HE3.out, hy]; rfl
      have ha6 : s6.alive = s.alive := ((PA.all HG.out.g.tok n).p0 (room - 1) [1] s.nxt.nxt (u, s6) HG5.out.k hy (by decide) (by decide) (by omega)).al
      have HVE : Hid (u.getD 0 0 + 1 = s6.nodes.length ∧ s.nodes.length ≤ u.getD 0 0) := ⟨Y.f.ve, Y.f.lt⟩
      have hG7 : PGd (w6.setCell ⟨w3.heap.size + 1, 1, none⟩ (.iface t6 (.pointer (some ⟨b6, 0, none⟩)))) o bp T sl s6 := (HG5.out.st HS6.out Y.r Y.f.ok).put hoB
      have hA7 := (((Acc.nil w4 HG.out.k).stp (s2 := s.nxt.nxt) HS5.out (HS4.out.hi HG.out.r.ow) rfl).tree Y HS6.out (HS4.out.hi HG.out.r.ow)).put (b := w3.heap.size + 1) (i := 1) (u := .iface t6 (.pointer (some ⟨b6, 0, none⟩))) (by omega)
      obtain ⟨G8, S8⟩ := hG7.alive (x := s6.alive + 1) (u := (s.alive : Int) + 1) (by rw [ha6]; exact hal1) (by rw [ha6]; simp)
      have HG8 : Hid (PGd ((w6.setCell ⟨w3.heap.size + 1, 1, none⟩ (.iface t6 (.pointer (some ⟨b6, 0, none⟩)))).setCell ⟨bp, 7, none⟩ (.int .i64 ((s.alive : Int) + 1))) o bp T sl { s6 with alive := s6.alive + 1 }) := G8
      have HS8 : Hid (Stp (fun l => l = 1043) (w6.setCell ⟨w3.heap.size + 1, 1, none⟩ (.iface t6 (.pointer (some ⟨b6, 0, none⟩)))) o ((w6.setCell ⟨w3.heap.size + 1, 1, none⟩ (.iface t6 (.pointer (some ⟨b6, 0, none⟩)))).setCell ⟨bp, 7, none⟩ (.int .i64 ((s.alive : Int) + 1))) o) := S8
      have HS7 : Hid (Stp (fun l => l = 1043) w o (w6.setCell ⟨w3.heap.size + 1, 1, none⟩ (.iface t6 (.pointer (some ⟨b6, 0, none⟩)))) o) := (HS4.out.trans (HS5.out.trans HS6.out)).own (p := ⟨w3.heap.size + 1, 1, none⟩) (by simp only; omega) _
      have HA7 : Hid (Acc w4 (w6.setCell ⟨w3.heap.size + 1, 1, none⟩ (.iface t6 (.pointer (some ⟨b6, 0, none⟩)))) s s6 [(s.nodes.length - 1, u.getD 0 0, .iface t6 (.pointer (some ⟨b6, 0, none⟩)))] [] []) := hA7
      have c7 := Y.r.cells2.1
      have z7 := Y.r.cells2.2.2.2 7
      have hb6 := Y.r.cells.1
      rw [ha6] at c7
      have hne : w3.heap.size + 1 ≠ bp := fun e => by
        have := Y.r.blk.lb
        rw [← e, hoB] at this
        cases this
      have hne2 : bp ≠ w3.heap.size + 1 := fun e => hne e.symm
      have hal3 : (s.alive : Int) + 1 ≤ 12 := by omega
      have HB7 : Hid (Has (w6.setCell ⟨w3.heap.size + 1, 1, none⟩ (.iface t6 (.pointer (some ⟨b6, 0, none⟩)))) (w3.heap.size + 1) #[.slice (some ⟨w3.heap.size, 0, none⟩) 1 1, .iface t6 (.pointer (some ⟨b6, 0, none⟩))] 364) := HB6.out.put 1 _
      have HN7 : Hid (Has (w6.setCell ⟨w3.heap.size + 1, 1, none⟩ (.iface t6 (.pointer (some ⟨b6, 0, none⟩)))) nb #[.int .i64 t.p, sv t.s] 357) := ((HS5.out.trans HS6.out).has HN4.out (by rw [ho]; omega)).other (p := ⟨w3.heap.size + 1, 1, none⟩) (((HS5.out.trans HS6.out).has HN4.out (by rw [ho]; omega)).ne HB6.out (by decide)) _
      have HL7 : Hid (Has (w6.setCell ⟨w3.heap.size + 1, 1, none⟩ (.iface t6 (.pointer (some ⟨b6, 0, none⟩)))) w3.heap.size #[.iface 296 (.pointer (some ⟨nb, 0, none⟩))] 206) := ((HS5.out.trans HS6.out).has HL4.out (by rw [hoL]; omega)).other (p := ⟨w3.heap.size + 1, 1, none⟩) (by simp) _
      clear Y hy HE3 hG7 hA7 G8 S8 hne EX
      go_wp2_with fail
      go_ret
      have ow := HG.out.r.ow
      have A := ((((HA7.out.wide (w0 := w) (by omega)).mem HN7.out hnb).mem HL7.out hz3).stp (s2 := { s6 with alive := s6.alive + 1 }) HS8.out ow rfl)
      have ve := HVE.out.1
      have lt := HVE.out.2
      have n1 := HG.out.k.n1
      have sh := Shp.local1 (s := t.s) (x := .iface t6 (.pointer (some ⟨b6, 0, none⟩))) (p := t.p) (b := w3.heap.size + 1) (c := nb) (a := u.getD 0 0) (hi := u.getD 0 0) (SLM.out (s.nodes.length - 1)) (.inr ⟨rfl, by omega, rfl⟩)
      rw [ve] at sh
      exact ⟨HS7.out.trans HS8.out, .inr ⟨_, _, _, _, HE6.out, rfl, A.fin3 HG8.out.r (HF0.out _ _ HE6.out) rfl (HS8.out.has HB7.out (by rw [hoB]; omega)) (by omega) sh⟩⟩
  · have HE3 : Hid (R = nameP T s.nxt.nxt 2 fun m2 s => expectP T s 38 (lo45 T n room t m2)) := by
      show R = _
      rw [HE2.out]
      unfold lo12
      rw [if_pos hk]
    have HS3 : Hid (Stp (fun l => l = 1043) w o w3 o) := HS2.out.trans a1
    have HN3 : Hid (Has w3 nb #[.int .i64 t.p, sv t.s] 357) := a1.has HN2.out (by rw [ho]; omega)
    have HG3 : Hid (PGd w3 o bp T sl s.nxt.nxt) := a3
    clear a1 a3 HE2 hk
    go_wp2_with fail
    refine (HG3.out.nameC 2 (by decide)).mono ?_
    rintro e4 w4 ⟨a1, ⟨y, rfl, a2, a3⟩ | ⟨nc, rfl, hnc, a2, hN, a3, hal⟩⟩
    · have HS4 : Hid (Stp (fun l => l = 1043) w o w4 o) := HS3.out.trans a1
      have HY : Hid (R = .inl y) := by
        show R = _
        rw [HE3.out, a2]
      have HPE : Hid (PErr w4 o bp y.1 y.2) := a3
      clear a1 a2 a3
      go_wp2_with fail
      go_ret
      exact ExQ.bad HS4.out HY.out HPE.out
    have HE4 : Hid (R = expectP T s.nxt.nxt.nxt 38 (lo45 T n room t (curT T s.nxt.nxt))) := by
      show R = _
      rw [HE3.out, a2]
    have hal2 : s.alive + 2 ≤ 12 := hal (by decide)
    have hnc2 : w.heap.size ≤ nc := Nat.le_trans HS3.out.fr.size hnc
    have hoc : o nc = 0 := HG.out.r.ow nc hnc2
    generalize curT T s.nxt.nxt = t2 at *
    have HS4 : Hid (Stp (fun l => l = 1043) w o w4 o) := HS3.out.trans a1
    have HN4 : Hid (Has w4 nb #[.int .i64 t.p, sv t.s] 357) := a1.has HN3.out (by rw [ho]; omega)
    have HM4 : Hid (Has w4 nc #[.int .i64 t2.p, sv t2.s] 357) := hN
    have HG4 : Hid (PGd w4 o bp T sl s.nxt.nxt.nxt) := a3
    clear a1 a2 a3 HE3 hN hal
    go_wp2_with fail
    refine (HG4.out.expectC 38 (by decide) (by decide)).mono ?_
    rintro e5 w5 ⟨a1, ⟨y, rfl, a2, a3⟩ | ⟨rfl, a2, a3⟩⟩
    · have HS5 : Hid (Stp (fun l => l = 1043) w o w5 o) := HS4.out.trans a1
      have HY : Hid (R = .inl y) := by
        show R = _
        rw [HE4.out, a2]
      have HPE : Hid (PErr w5 o bp y.1 y.2) := a3
      clear a1 a2 a3
      go_wp2_with fail
      go_ret
      exact ExQ.bad HS5.out HY.out HPE.out
    have HE5 : Hid (R = lo45 T n room t t2 s.nxt.nxt.nxt.nxt) := by
      show R = _
      rw [HE4.out, a2]
    have HS5 : Hid (Stp (fun l => l = 1043) w o w5 o) := HS4.out.trans a1
    have HN5 : Hid (Has w5 nb #[.int .i64 t.p, sv t.s] 357) := a1.has HN4.out (by rw [ho]; omega)
    have HM5 : Hid (Has w5 nc #[.int .i64 t2.p, sv t2.s] 357) := a1.has HM4.out (by rw [hoc]; omega)
    obtain ⟨s5, HS5'⟩ : ∃ s5, Hid (s.nxt.nxt.nxt.nxt = s5) := ⟨_, rfl⟩
    have hn5 : s5.nodes = s.nodes ∧ s5.alive = s.alive ∧ s5.loops = s.loops := by
      rw [← HS5'.out]
      exact ⟨rfl, rfl, rfl⟩
    rw [HS5'.out] at HE5 a3
    have hA := ((Acc.nil w HG.out.k).stp (s2 := s5) HS5.out HG.out.r.ow hn5.1).names HN5.out hnb HM5.out hnc2
    obtain ⟨s6, HS6'⟩ : ∃ s6, Hid ((s5.add ⟨17, 0, 0, 0, s5.nodes.length + 1, 0, t.s, t.p⟩).add ⟨17, 0, 0, 0, 0, 0, t2.s, t2.p⟩ = s6) := ⟨_, rfl⟩
    have HE6 : Hid (R = PBd (parN T n 0 (room - 1) [1] s6) fun v s1 => if (s1.nodes.getD (v.getD 0 0) nd0).k ≠ 19 then failP T s1 15 else okP { s1 with alive := s1.alive + 2 } ⟨2, s5.nodes.length, v.getD 0 0, 0, 0, 0, [], t.p⟩) := by
      show R = _
      rw [HE5.out, ← HS6'.out]
      rfl
    have HG6 : Hid (PGd w5 o bp T sl s6) := by
      show PGd _ _ _ _ _ _
      rw [← HS6'.out]
      refine ⟨a3.g, a3.r.as rfl rfl rfl rfl, ⟨?_, a3.k.fu, a3.k.al⟩, a3.b⟩
      rw [add_len]
      omega
    have hA6 : s6.alive = s.alive ∧ s6.nodes.length = s.nodes.length + 2 ∧ s6.loops = s.loops := by
      rw [← HS6'.out]
      refine ⟨hn5.2.1, ?_, hn5.2.2⟩
      rw [add_len, add_len, hn5.1]
    rw [hn5.1] at hA HE6
    have HA6 : Hid (Acc w w5 s s6 [(s.nodes.length - 1, s.nodes.length, .iface 296 (.pointer (some ⟨nb, 0, none⟩))), (s.nodes.length, s.nodes.length + 1, .iface 296 (.pointer (some ⟨nc, 0, none⟩)))] [] [(s.nodes.length - 1, s.nodes.length + 1, s.nodes.length, [(s.nodes.length - 1, s.nodes.length, .iface 296 (.pointer (some ⟨nb, 0, none⟩))), (s.nodes.length, s.nodes.length + 1, .iface 296 (.pointer (some ⟨nc, 0, none⟩)))])]) := by
      show Acc _ _ _ _ _ _ _
      rw [← HS6'.out, hn5.1]
      exact hA
    have hx9 : parN T n 0 (room - 1) [1] s6 ≠ x99 := PB_ne (by rw [← HE6.out]; exact HX.out)
    have EX : Hid (Calls Tryz.prog 159 #[.pointer (some ⟨bp, 0, none⟩), .int .i64 ((room : Int) - 1), .int .i64 1] w5 (ExQ w5 o bp T sl s6 (parN T n 0 (room - 1) [1] s6))) := by
      have := HC.out.c0 (x := 1) HG6.out (room := room - 1) (by omega) (by omega) (by omega) hx9
      rw [hrm] at this
      exact this
    clear a1 a2 a3 HE4 HE5 hA hx9
    go_wp2_with fail
    refine EX.out.mono ?_
    rintro e7 w7 ⟨q5, q6⟩
    have HS7 : Hid (Stp (fun l => l = 1043) w5 o w7 o) := q5
    clear q5 EX
    rcases q6 with ⟨y, hy, rfl, hpe⟩ | ⟨u, s7, t7, b7, hy, rfl, Y⟩
    · have HPE : Hid (PErr w7 o bp y.1 y.2) := hpe
      have HY : Hid (R = .inl y) := by
        show R = _
        rw [HE6.out, hy]; rfl
      clear hpe hy
      go_wp2_with fail
      go_ret
      exact ExQ.bad (HS5.out.trans HS7.out) HY.out HPE.out
    obtain ⟨_, _, kC, _, _⟩ := Y.t.kind
    obtain ⟨kd, HKD⟩ : ∃ kd, Hid ((s7.nodes.getD (u.getD 0 0) nd0).k = kd) := ⟨_, rfl⟩
    rw [HKD.out] at kC
    have HE7 : Hid (R = if kd ≠ 19 then failP T s7 15 else okP { s7 with alive := s7.alive + 2 } ⟨2, s.nodes.length, u.getD 0 0, 0, 0, 0, [], t.p⟩) := by
      show R = _
      rw [HE6.out, hy, ← HKD.out]; rfl
    have HY : Hid (ExS w5 o bp T sl s6 s7 (u.getD 0 0) w7 (.iface t7 (.pointer (some ⟨b7, 0, none⟩)))) := Y
    have HG7 : Hid (PGd w7 o bp T sl s7) := HG6.out.st HS7.out Y.r Y.f.ok
    have ha7 : s7.alive = s.alive := ((PA.all HG.out.g.tok n).p0 (room - 1) [1] s6 (u, s7) HG6.out.k hy (by decide) (by decide) (by omega)).al.trans hA6.1
    have HN7 : Hid (Has w7 nb #[.int .i64 t.p, sv t.s] 357) := HS7.out.has HN5.out (by rw [ho]; omega)
    clear Y hy HE6
    by_cases hkd : kd = 19
    · rw [if_neg (by omega)] at HE7
      have ht7 : t7 = 291 := by
        rw [hkd] at kC
        simpa using kC
      subst ht7
      have b1 := isCall
      obtain ⟨G8, S8⟩ := HG7.out.alive (x := s7.alive + 2) (u := (s.alive : Int) + 2) (by rw [ha7]; exact hal2) (by rw [ha7]; simp)
      have HG8 : Hid (PGd (w7.setCell ⟨bp, 7, none⟩ (.int .i64 ((s.alive : Int) + 2))) o bp T sl { s7 with alive := s7.alive + 2 }) := G8
      have HS8 : Hid (Stp (fun l => l = 1043) w7 o (w7.setCell ⟨bp, 7, none⟩ (.int .i64 ((s.alive : Int) + 2))) o) := S8
      have c7 := HG7.out.r.cells2.1
      have z7 := HG7.out.r.cells2.2.2.2 7
      have hb7 := HG7.out.r.cells.1
      rw [ha7] at c7
      have hal3 : (s.alive : Int) + 2 ≤ 12 := by omega
      clear kC hkd G8 S8
      go_wp2_with fail
      go_ret
      have ow := HG.out.r.ow
      have A := (HA6.out.tree HY.out HS7.out ow).mem HN7.out hnb
      have ve := HY.out.f.ve
      have A2 := A.stp (s2 := { s7 with alive := s7.alive + 2 }) HS8.out ow rfl
      have hz8 : (w7.setCell ⟨bp, 7, none⟩ (.int .i64 ((s.alive : Int) + 2))).heap.size = w7.heap.size := by simp
      have HSA : Stp (fun l => l = 1043) w o (w7.setCell ⟨bp, 7, none⟩ (.int .i64 ((s.alive : Int) + 2))) o := HS5.out.trans (HS7.out.trans HS8.out)
      have hsl : Has ((w7.setCell ⟨bp, 7, none⟩ (.int .i64 ((s.alive : Int) + 2))).alloc (.cells #[.iface 296 (.pointer (some ⟨nb, 0, none⟩)), .iface 296 (.pointer (some ⟨nc, 0, none⟩))] 206)) w7.heap.size #[.iface 296 (.pointer (some ⟨nb, 0, none⟩)), .iface 296 (.pointer (some ⟨nc, 0, none⟩))] 206 := by
        have := Has.new (w7.setCell ⟨bp, 7, none⟩ (.int .i64 ((s.alive : Int) + 2))) #[.iface 296 (.pointer (some ⟨nb, 0, none⟩)), .iface 296 (.pointer (some ⟨nc, 0, none⟩))] 206
        rw [hz8] at this
        exact this
      have hs9 : Stp (fun l => l = 1043) (w7.setCell ⟨bp, 7, none⟩ (.int .i64 ((s.alive : Int) + 2))) o ((w7.setCell ⟨bp, 7, none⟩ (.int .i64 ((s.alive : Int) + 2))).alloc (.cells #[.iface 296 (.pointer (some ⟨nb, 0, none⟩)), .iface 296 (.pointer (some ⟨nc, 0, none⟩))] 206)) o := (Stp.refl _ _ _).alloc _
      have A3 := (A2.stp (s2 := { s7 with alive := s7.alive + 2 }) hs9 ow rfl).mem hsl (by have := HSA.fr.size; rw [hz8] at this; exact this)
      have hz9 : ((w7.setCell ⟨bp, 7, none⟩ (.int .i64 ((s.alive : Int) + 2))).alloc (.cells #[.iface 296 (.pointer (some ⟨nb, 0, none⟩)), .iface 296 (.pointer (some ⟨nc, 0, none⟩))] 206)).heap.size = w7.heap.size + 1 := by simp
      have n1 := HG.out.k.n1
      obtain ⟨q, hq⟩ : ∃ q, s.nodes.length = q + 1 := ⟨s.nodes.length - 1, by omega⟩
      have sh := Shp.local2 (s := t.s) (x := .iface 291 (.pointer (some ⟨b7, 0, none⟩))) (y := .slice (some ⟨w7.heap.size, 0, none⟩) 2 2) (z := .iface 296 (.pointer (some ⟨nc, 0, none⟩))) (p := t.p) (b := w7.heap.size + 1) (c := nb) (lo := q) (a := u.getD 0 0) (m := [(w7.heap.size, #[.iface 296 (.pointer (some ⟨nb, 0, none⟩)), .iface 296 (.pointer (some ⟨nc, 0, none⟩))], 206)])
        (.inr ⟨_, 2, _, rfl, by simp, Nat.le_refl _, fun i x hx => by
          match i, hx with
          | 0, hx => simp at hx; rw [← hx]; rfl
          | 1, hx => simp at hx; rw [← hx]; rfl
          | i + 2, hx => simp at hx, rfl⟩)
      rw [ve] at sh
      have FI := A3.fin (d := ⟨2, s.nodes.length, u.getD 0 0, 0, 0, 0, [], t.p⟩) (HSA.trans hs9) ow (HG8.out.alloc _).r (HF0.out _ _ HE7.out) rfl (by rw [hz9, hq, hA6.2.1, hq]; exact sh)
      rw [hz9] at FI
      exact ⟨(HSA.trans hs9).alloc _, .inr ⟨_, _, _, _, HE7.out, rfl, FI⟩⟩
    · rw [if_pos hkd] at HE7
      obtain ⟨y, hy⟩ : ∃ y, failP T s7 15 = .inl y := ⟨_, rfl⟩
      have HFA := HG7.out.r.fail hy
      have HYY : Hid (R = .inl y) := HE7.out.trans hy
      have g1 : (t7 == 291) = false := by rw [kC]; simp; omega
      have a1 := noCall g1
      clear hy HE7 hkd kC
      go_wp2_with fail
      refine HFA.mono ?_
      rintro e1 w8 ⟨rfl, q1, q2⟩
      have HPE : Hid (PErr w8 o bp y.1 y.2) := q1
      have HS8 : Hid (Stp (fun l => l = 1043) w7 o w8 o) := q2
      clear q1 q2 HFA
      go_wp2_with fail
      go_ret
      exact ExQ.bad (HS5.out.trans (HS7.out.trans HS8.out)) HYY.out HPE.out
end
end Go.Proofs.Qxb6500574aGreatDoor
