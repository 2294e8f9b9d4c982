/-
  THE WALK of the parser layer: the parser: literal.
-/
import Derived.Test.Qxb6500574aGreatDoorWPa12
namespace Go.Proofs.Qxb6500574aGreatDoor
open Go Go.RowKit
set_option linter.unusedVariables false
set_option linter.unusedSimpArgs false
open Go.Lib
section
set_option maxRecDepth 100000
set_option maxHeartbeats 2000000
variable {w : World} {o : Nat → Nat} {bp : Nat} {sl : Sl} {T : List Tok} {s : PSt} {n room : Nat}
/-- a name that was passed, as a tree -/
theorem name_leaf {w' : World} {b : Nat} {t : Tok} (k : SOk s) (st : Stp (fun l => l = 1043) w o w' o) (r : PRep w' o bp T sl s.nxt) (hb : w.heap.size ≤ b) (h : Has w' b #[.int .i64 t.p, sv t.s] 357) : ExS w o bp T sl s (s.nxt.add ⟨17, 0, 0, 0, 0, 0, t.s, t.p⟩) s.nodes.length w' (.iface 296 (.pointer (some ⟨b, 0, none⟩))) := by
  have k1 := k.n1
  have kx := (Alike.nxt s).sok k
  have hsz := st.fr.size
  refine ExS.fin (kids := []) (ls := []) (m := [(b, #[.int .i64 t.p, sv t.s], 357)]) r ⟨(Kpt.add kx _).alike (Alike.nxt s).symm (Alike.refl _), by rw [add_len], ⟨by rw [add_len]; omega, kx.fu, kx.al⟩, Nat.le_refl _, k1, add_next s.nxt rfl⟩ rfl (fun x hx => by cases hx) (fun L hL => by cases hL) (Mm.cons ⟨hb, h.lt⟩ h (Mm.nil _ _)) ?_
  have : Shp ⟨17, 0, 0, 0, 0, 0, t.s, t.p⟩ (s.nodes.length - 1) (s.nodes.length - 1 + 1) (.iface 296 (.pointer (some ⟨b, 0, none⟩))) [] [(b, #[.int .i64 t.p, sv t.s], 357)] [] := .name
  rw [show s.nodes.length - 1 + 1 = s.nodes.length by omega] at this
  exact this
/-- a parameter -/
def go8 (T : List Tok) (n room x0 x1 x2 : Nat) (s : PSt) : PR := if x0 = 3 then failP T s 19 else nameP T s 0 fun m s => parN T n 8 room [x0 + 1, if x2 = 0 then s.nodes.length else x1, s.nodes.length] ((s.add ⟨17, 0, 0, 0, 0, 0, m.s, m.p⟩).link x2 s.nodes.length)
theorem par8 {x0 x1 x2 : Nat} : parN T (n + 1) 8 room [x0, x1, x2] s = if (curT T s).k = 40 then .inr ([x1, x0], s.nxt) else if 0 < x0 then expectP T s 45 (go8 T n room x0 x1 x2) else go8 T n room x0 x1 x2 s := by
  conv => lhs; unfold parN
  simp (config := {decide := true}) only [if_true, if_false]
  rfl
/-- behind the parameters -/
def lit7 (T : List Tok) (n room p : Nat) (s : PSt) (v : List Nat) (s1 : PSt) : PR := PBd (parN T n 9 (room - 1) [] { s1 with alive := v.getD 1 0, loops := 0 }) fun u s2 => expectP T s2 9 fun s3 => okP { s3 with alive := s.alive, loops := s.loops } ⟨20, v.getD 0 0, u.getD 0 0, 0, 0, s.funcs + 1, [], p⟩
theorem par7 {p : Nat} : parN T (n + 1) 7 room [p] s = expectP T s 39 fun s => PBd (parN T n 8 room [0, 0, 0] { s with funcs := s.funcs + 1 }) (lit7 T n room p s) := by
  conv => lhs; unfold parN
  simp (config := {decide := true}) only [if_true, if_false]
  rfl
/-- a round's state -/
def PaI (w : World) (o : Nat → Nat) (bp : Nat) (T : List Tok) (sl : Sl) (s0 : PSt) (n room : Nat) (K : List Nat → PSt → PR) (R : PR) (m : Nat) (v8 : Value) (w1 : World) : Prop :=
  ∃ s1 sl2 ms first last, v8 = .slice sl2.a ms.length sl2.c ∧ PBd (parN T m 8 room [ms.length, first, last] s1) K = R ∧ m ≤ n ∧ Stp (fun l => l = 1043) w o w1 o ∧ PRep w1 o bp T sl s1 ∧ LsI w w1 s0 s1 sl2 ms first last ∧ s1.alive = s0.alive ∧ ms.length ≤ 3
theorem literal_any {p : Nat} (C : ∀ m, m ≤ n → PCs T m) (g : PGd w o bp T sl s) (r1 : 1 ≤ room) (hr : room ≤ 12) (hf : s.funcs < 12) (hx : parN T (n + 1) 7 room [p] s ≠ x99) : Calls Tryz.prog 223 #[.pointer (some ⟨bp, 0, none⟩), .int .i64 (room : Nat), .int .i64 (p : Nat)] w (FnQ w o bp T sl s (parN T (n + 1) 7 room [p] s)) := by
  have E := @par7 T s n room p
  obtain ⟨R, HR⟩ : ∃ R, Hid (parN T (n + 1) 7 room [p] s = R) := ⟨_, rfl⟩
  have HF0 : Hid (∀ v s', R = .inr (v, s') → EF s s' (v.getD 0 0)) := fun v s' h => EF.exp g.k ((PA.all g.g.tok (n + 1)).p7 room [p] s (v, s') g.k hf (HR.out.trans h) r1 hr).1
  rw [HR.out] at hx E ⊢
  have HX : Hid (R ≠ x99) := hx
  have HG : Hid (PGd w o bp T sl s) := g
  have HC : Hid (∀ m, m ≤ n → PCs T m) := C
  have HLEN : Hid (T.length ≤ 2049) := g.g.len
  have HE : Hid (R = expectP T s 39 fun s => PBd (parN T n 8 room [0, 0, 0] { s with funcs := s.funcs + 1 }) (lit7 T n room p s)) := E
  have hb := g.r.cells.1
  clear g C hx HR E
  go_enter Tryz.func223, Tryz.ntmps223
  go_wp2_with fail
  refine (HG.out.expectC 39 (by decide) (by decide)).mono ?_
  rintro e1 w1 ⟨a1, ⟨y, rfl, a2, a3⟩ | ⟨rfl, a2, a3⟩⟩
  · have HS1 : Hid (Stp (fun l => l = 1043) w o w1 o) := a1
    have HY : Hid (R = .inl y) := by
      show R = _
      rw [HE.out, a2]
    have HPE : Hid (PErr w1 o bp y.1 y.2) := a3
    clear a1 a2 a3
    go_wp2_with fail
    go_ret
    exact FnQ.bad HS1.out HY.out HPE.out
  have HS1 : Hid (Stp (fun l => l = 1043) w o w1 o) := a1
  obtain ⟨KL, HKL⟩ : ∃ K, Hid (lit7 T n room p s = K) := ⟨_, rfl⟩
  have HE1 : Hid (R = PBd (parN T n 8 room [0, 0, 0] { s.nxt with funcs := s.funcs + 1 }) KL) := by
    show R = _
    rw [HE.out, a2, ← HKL.out]
    rfl
  obtain ⟨G2, S2⟩ := a3.funcs (x := s.funcs + 1) (u := (s.funcs : Int) + 1) (by omega) (by simp)
  have HG2 : Hid (PGd (w1.setCell ⟨bp, 9, none⟩ (.int .i64 ((s.funcs : Int) + 1))) o bp T sl { s.nxt with funcs := s.funcs + 1 }) := G2
  have HS2 : Hid (Stp (fun l => l = 1043) w o (w1.setCell ⟨bp, 9, none⟩ (.int .i64 ((s.funcs : Int) + 1))) o) := a1.trans S2
  have hb1 := a3.r.cells.1
  have c9 := a3.r.cells2.2.2.1
  have z9 := a3.r.cells2.2.2.2 9
  rw [show s.nxt.funcs = s.funcs from rfl] at c9
  have hf2 : (s.funcs : Int) < 12 := by omega
  have c9' := G2.r.cells2.2.2.1
  have hb1' := G2.r.cells.1
  rw [show ((({ s.nxt with funcs := s.funcs + 1 } : PSt).funcs : Nat) : Int) = (s.funcs : Int) + 1 by simp] at c9'
  obtain ⟨s0, HS0⟩ : ∃ s0 : PSt, Hid (({ s.nxt with funcs := s.funcs + 1 } : PSt) = s0) := ⟨_, rfl⟩
  rw [HS0.out] at HG2 HE1
  clear a1 a2 a3 G2 S2 HE
  obtain ⟨w2, HW2⟩ : ∃ w2, Hid (w1.setCell ⟨bp, 9, none⟩ (.int .i64 ((s.funcs : Int) + 1)) = w2) := ⟨_, rfl⟩
  go_wp2_with fail
  rw [HW2.out] at HG2 HS2 c9' hb1' ⊢
  clear HW2
  have HS : Hid (PaI w o bp T sl s0 n room KL R n (.slice none 0 0) w2) := ⟨s0, sl0, [], 0, 0, rfl, HE1.out.symm, Nat.le_refl _, HS2.out, HG2.out.r, LsI.nil HG2.out.k, rfl, Nat.zero_le _⟩
  have HN0 : Hid (s0.nodes = s.nodes ∧ s0.loops = s.loops ∧ s0.alive = s.alive) := by
    show s0.nodes = _ ∧ s0.loops = _ ∧ s0.alive = _
    rw [← HS0.out]
    exact ⟨rfl, rfl, rfl⟩
  clear c9 z9 hb1 HE1
  go_loopg [8] n (fun m v8 w1 => Hid (PaI w o bp T sl s0 n room KL R m v8 w1))
  case atStart => exact HS
  case round =>
    obtain ⟨s1, sl2, ms, first, last, rfl, hp, hm, hst, hR1, hL, hal, hi⟩ := hrel.out
    obtain ⟨m', rfl⟩ : ∃ m', gk = m' + 1 := by
      cases gk with
      | zero => exact absurd hp.symm HX.out
      | succ m' => exact ⟨m', rfl⟩
    rw [par8] at hp
    obtain ⟨hbr, c2, _⟩ := hR1.cells
    have HST : Hid (Stp (fun l => l = 1043) w o wr o) := hst
    have HL : Hid (LsI w wr s0 s1 sl2 ms first last) := hL
    have HR1 : Hid (PRep wr o bp T sl s1) := hR1
    have HP : Hid (_ = R) := hp
    have HGR : Hid (PGd wr o bp T sl s1) := HG.out.st hst hR1 hL.ok
    obtain ⟨c, HCC⟩ : ∃ c, Hid (ms.length = c) := ⟨_, rfl⟩
    rw [HCC.out] at HP hi ⊢
    clear hrel hst HS hR1 hL hp
    by_cases hk : (curT T s1).k = 40
    · rw [if_pos hk] at HP
      have e1 : (((curT T s1).k : Int) != 40) = false := by rw [hk]; rfl
      have NX := HGR.out.nextC (by omega) (by omega)
      clear hk
      go_wp2_with fail
      refine NX.mono ?_
      rintro e9 w4 ⟨rfl, q1, q2⟩
      have HS4 : Hid (Stp (fun l => l = 1043) wr o w4 o) := q1
      have HG4 : Hid (PGd w4 o bp T sl s1.nxt) := q2
      obtain ⟨d7, d8, _, z⟩ := q2.r.cells2
      have hb4 := q2.r.cells.1
      have z7 := z 7
      have z8 := z 8
      clear q1 q2 NX
      obtain ⟨G5, S5⟩ := HG4.out.alive (x := c) (u := (c : Int)) (by omega) rfl
      obtain ⟨G6, S6⟩ := G5.loops (x := 0) (u := 0) rfl
      have HG7 : Hid (∀ ob, PGd (((w4.setCell ⟨bp, 7, none⟩ (.int .i64 (c : Int))).setCell ⟨bp, 8, none⟩ (.int .i64 0)).alloc ob) o bp T sl { s1.nxt with alive := c, loops := 0 }) := fun ob => G6.alloc ob
      have HS7 : Hid (∀ ob, Stp (fun l => l = 1043) w4 o (((w4.setCell ⟨bp, 7, none⟩ (.int .i64 (c : Int))).setCell ⟨bp, 8, none⟩ (.int .i64 0)).alloc ob) o) := fun ob => (S5.trans S6).alloc ob
      rw [show s1.nxt.alive = s1.alive from rfl, hal, HN0.out.2.2] at d7
      rw [show s1.nxt.loops = s1.loops from rfl, HL.out.kp.lp, HN0.out.2.1] at d8
      have HD : Hid (Has (((w4.setCell ⟨bp, 7, none⟩ (.int .i64 (c : Int))).setCell ⟨bp, 8, none⟩ (.int .i64 0)).alloc (.cells #[.int .i64 s.alive, .int .i64 s.loops] 144)) w4.heap.size #[.int .i64 s.alive, .int .i64 s.loops] 144) := by
        have := Has.new ((w4.setCell ⟨bp, 7, none⟩ (.int .i64 (c : Int))).setCell ⟨bp, 8, none⟩ (.int .i64 0)) #[.int .i64 s.alive, .int .i64 s.loops] 144
        rw [show ((w4.setCell ⟨bp, 7, none⟩ (.int .i64 (c : Int))).setCell ⟨bp, 8, none⟩ (.int .i64 0)).heap.size = w4.heap.size by simp] at this
        exact this
      have hnew4 : o w4.heap.size = 0 := HG4.out.r.new
      obtain ⟨sB, HSB⟩ : ∃ sB : PSt, Hid (({ s1.nxt with alive := c, loops := 0 } : PSt) = sB) := ⟨_, rfl⟩
      have HP4 : Hid (R = PBd (parN T n 9 (room - 1) [] sB) fun u s2 => expectP T s2 9 fun s3 => okP { s3 with alive := s.alive, loops := s.loops } ⟨20, first, u.getD 0 0, 0, 0, s.funcs + 1, [], p⟩) := by
        show R = _
        rw [← HP.out, ← HKL.out, ← HSB.out]
        rfl
      rw [HSB.out] at HG7
      have hx9 : parN T n 9 (room - 1) [] sB ≠ x99 := PB_ne (by rw [← HP4.out]; exact HX.out)
      have hrm : ((room - 1 : Nat) : Int) = (room : Int) - 1 := by omega
      have hlB : sB.loops = 0 := by rw [← HSB.out]
      have HNB : Hid (sB.nodes = s1.nodes) := by
        show sB.nodes = _
        rw [← HSB.out]; rfl
      have BL : Hid (∀ w3, PGd w3 o bp T sl sB → Calls Tryz.prog 61 #[.pointer (some ⟨bp, 0, none⟩), .int .i64 ((room : Int) - 1)] w3 (LsQ w3 o bp T sl sB (parN T n 9 (room - 1) [] sB))) := fun w3 g3 => by
        have := (HC.out n (Nat.le_refl _)).c9 g3 (by rw [hlB]; omega) hx9
        rw [hrm] at this
        exact this
      clear G5 S5 G6 S6 hx9 z HP
      go_wp2_with fail
      obtain ⟨w7, HW7⟩ : ∃ w7, Hid (((w4.setCell ⟨bp, 7, none⟩ (.int .i64 (c : Int))).setCell ⟨bp, 8, none⟩ (.int .i64 0)).alloc (.cells #[.int .i64 s.alive, .int .i64 s.loops] 144) = w7) := ⟨_, rfl⟩
      have HG7' := HG7.out (.cells #[.int .i64 s.alive, .int .i64 s.loops] 144)
      have HS7' := HS7.out (.cells #[.int .i64 s.alive, .int .i64 s.loops] 144)
      rw [HW7.out] at HD HG7' HS7' ⊢
      have HG8 : Hid (PGd w7 o bp T sl sB) := HG7'
      have HS8 : Hid (Stp (fun l => l = 1043) w4 o w7 o) := HS7'
      clear HG7 HS7 HW7 HG7' HS7' d7 d8 z7 z8 hb4
      refine (BL.out _ HG8.out).mono ?_
      rintro e8 w8 ⟨q1, ⟨y, hy, rfl, hpe⟩ | ⟨v, s8, sa, ln, cp, ns, m', hy, rfl, X⟩⟩
      · have HPE : Hid (PErr w8 o bp y.1 y.2) := hpe
        have HY : Hid (R = .inl y) := by
          show R = _
          rw [HP4.out, hy]; rfl
        have HS9 : Hid (Stp (fun l => l = 1043) w7 o w8 o) := q1
        clear q1 hpe hy
        go_wp2_with fail
        go_ret
        exact FnQ.bad (HST.out.trans (HS4.out.trans (HS8.out.trans HS9.out))) HY.out HPE.out
      have HX8 : Hid (LsS w7 o bp T sl sB s8 (v.getD 0 0) w8 (.slice sa ln cp) ns m') := X
      have HS9 : Hid (Stp (fun l => l = 1043) w7 o w8 o) := q1
      have HG9 : Hid (PGd w8 o bp T sl s8) := HG8.out.st q1 X.r X.f.ok
      have HD8 : Hid (Has w8 w4.heap.size #[.int .i64 s.alive, .int .i64 s.loops] 144) := q1.has HD.out (by rw [hnew4]; omega)
      have HE8 : Hid (R = expectP T s8 9 fun s3 => okP { s3 with alive := s.alive, loops := s.loops } ⟨20, first, v.getD 0 0, 0, 0, s.funcs + 1, [], p⟩) := by
        show R = _
        rw [HP4.out, hy]; rfl
      clear q1 X hy HP4 HD
      go_wp2_with fail
      refine (HG9.out.expectC 9 (by decide) (by decide)).mono ?_
      rintro e9 w9 ⟨a1, ⟨y, rfl, a2, a3⟩ | ⟨rfl, a2, a3⟩⟩
      · have HS10 : Hid (Stp (fun l => l = 1043) w8 o w9 o) := a1
        have HY : Hid (R = .inl y) := by
          show R = _
          rw [HE8.out, a2]
        have HPE : Hid (PErr w9 o bp y.1 y.2) := a3
        clear a1 a2 a3
        go_wp2_with fail
        go_ret
        exact FnQ.bad (HST.out.trans (HS4.out.trans (HS8.out.trans (HS9.out.trans HS10.out)))) HY.out HPE.out
      have HE9 : Hid (R = okP { s8.nxt with alive := s.alive, loops := s.loops } ⟨20, first, v.getD 0 0, 0, 0, s.funcs + 1, [], p⟩) := by
        show R = _
        rw [HE8.out, a2]
      obtain ⟨G10, S10⟩ := a3.alive (x := s.alive) (u := (s.alive : Int)) HG.out.k.al rfl
      obtain ⟨G11, S11⟩ := G10.loops (x := s.loops) (u := (s.loops : Int)) rfl
      have HG11 : Hid (PGd ((w9.setCell ⟨bp, 7, none⟩ (.int .i64 (s.alive : Int))).setCell ⟨bp, 8, none⟩ (.int .i64 (s.loops : Int))) o bp T sl { s8.nxt with alive := s.alive, loops := s.loops }) := G11
      have HS11 : Hid (Stp (fun l => l = 1043) w8 o ((w9.setCell ⟨bp, 7, none⟩ (.int .i64 (s.alive : Int))).setCell ⟨bp, 8, none⟩ (.int .i64 (s.loops : Int))) o) := a1.trans (S10.trans S11)
      have d9 := a1.has HD8.out (by rw [hnew4]; omega)
      have e0 := d9.cell 0
      have e1 := d9.cell 1
      have dl9 := d9.lt
      simp only [List.getElem?_toArray, List.getElem?_cons_succ, List.getElem?_cons_zero] at e0 e1
      have hb9 := a3.r.cells.1
      have z7 := a3.r.cells2.2.2.2 7
      have z8 := a3.r.cells2.2.2.2 8
      have hc7 := a3.r.cells2.1
      have hc8 := a3.r.cells2.2.1
      have hne : w4.heap.size ≠ bp := fun e => by
        have := a3.r.blk.lb
        rw [← e, hnew4] at this
        cases this
      clear a1 a2 a3 G10 G11 S10 S11 HE8 d9
      go_wp2_with fail
      go_ret
      have ow := HG.out.r.ow
      obtain ⟨m, Z⟩ := HL.out.fin HR1.out hal
      rw [HCC.out] at Z
      have k0 := HL.out.kp
      have kB := HX8.out.f.kp
      have hz11 : ((w9.setCell ⟨bp, 7, none⟩ (.int .i64 (s.alive : Int))).setCell ⟨bp, 8, none⟩ (.int .i64 (s.loops : Int))).heap.size = w9.heap.size := by simp
      have A2 : Acc w w s0 s0 [] [] [] := Acc.nil w HG2.out.k
      have A3 := ((A2.list Z HST.out ow).stp (s2 := sB) (HS4.out.trans HS8.out) ow HNB.out).list HX8.out HS9.out ow
      have A4 := (A3.stp (s2 := { s8.nxt with alive := s.alive, loops := s.loops }) HS11.out ow rfl).base (s0 := s) HN0.out.1.symm
      have HSA : Stp (fun l => l = 1043) w o ((w9.setCell ⟨bp, 7, none⟩ (.int .i64 (s.alive : Int))).setCell ⟨bp, 8, none⟩ (.int .i64 (s.loops : Int))) o := HST.out.trans (HS4.out.trans (HS8.out.trans (HS9.out.trans HS11.out)))
      have sh := Shp.func (p := p) (b := w9.heap.size) (lo := s.nodes.length - 1) (f := first) (g := v.getD 0 0) (h1 := s1.nodes.length - 1) (hi := s8.nodes.length - 1) (num := s.funcs + 1) Z.v HX8.out.v (by omega)
      rw [show s8.nodes.length - 1 + 1 = s8.nodes.length by have := kB.le; rw [HNB.out] at this; have := k0.le; rw [HN0.out.1] at this; have := HG.out.k.n1; omega] at sh
      rw [HN0.out.1, HNB.out] at A4
      rw [show ((s.funcs + 1 : Nat) : Int) = (s.funcs : Int) + 1 by simp] at sh
      have FI := A4.fin (d := ⟨20, first, v.getD 0 0, 0, 0, s.funcs + 1, [], p⟩) HSA ow HG11.out.r (HF0.out _ _ HE9.out) rfl (by rw [hz11]; exact sh)
      rw [hz11] at FI
      exact ⟨HSA.alloc _, .inr ⟨_, _, _, HE9.out, rfl, FI⟩⟩
    · rw [if_neg hk] at HP
      have e1 : (((curT T s1).k : Int) != 40) = true := by simp; omega
      have START : Hid ((c = 0 ∧ PBd (go8 T m' room c first last s1) KL = R) ∨ (0 < c ∧ Calls Tryz.prog 225 #[.pointer (some ⟨bp, 0, none⟩), .int .i64 45] wr fun e w' => Stp (fun l => l = 1043) wr o w' o ∧ ((∃ y, e = .returned (.bool false) ∧ R = .inl y ∧ PErr w' o bp y.1 y.2) ∨ (e = .returned (.bool true) ∧ PBd (go8 T m' room c first last s1.nxt) KL = R ∧ PGd w' o bp T sl s1.nxt)))) := by
        by_cases h0 : 0 < c
        · have hp := HP.out
          rw [if_pos h0] at hp
          refine .inr ⟨h0, (HGR.out.expectC 45 (by decide) (by decide)).mono ?_⟩
          rintro e w' ⟨a1, ⟨y, rfl, a2, a3⟩ | ⟨rfl, a2, a3⟩⟩
          · exact ⟨a1, .inl ⟨y, rfl, by rw [← hp, a2]; rfl, a3⟩⟩
          · exact ⟨a1, .inr ⟨rfl, by rw [← hp, a2], a3⟩⟩
        · have hp := HP.out
          rw [if_neg h0] at hp
          exact .inl ⟨by omega, hp⟩
      have TAIL : ∃ (w4 : World) (s4 : PSt), Hid (w4 = wr ∧ s4 = s1) := ⟨_, _, rfl, rfl⟩
      obtain ⟨w4, s4, HW⟩ := TAIL
      rcases START.out with ⟨h0, hg⟩ | ⟨h0, HEX⟩
      case' inl =>
        have e2 : decide (0 < c) = false := decide_eq_false (by omega)
        obtain ⟨q4, q5⟩ := HW.out
        subst q4
        subst q5
        have HS4 : Hid (Stp (fun l => l = 1043) w4 o w4 o) := Stp.refl _ _ _
        have HL4 : Hid (LsI w w4 s0 s4 sl2 ms first last) := HL.out
        have HG4 : Hid (PGd w4 o bp T sl s4) := HGR.out
        have HP4 : Hid (PBd (go8 T m' room c first last s4) KL = R) := hg
        have HAL : Hid (s4.alive = s0.alive) := hal
        clear START hg HW h0
      case' inr =>
        have e2 : decide (0 < c) = true := decide_eq_true (by omega)
        clear START h0 HW w4 s4
        obtain ⟨s4, hs4⟩ : ∃ s4, s4 = s1.nxt := ⟨_, rfl⟩
        rw [← hs4] at HEX
        go_wp2_with fail
        refine HEX.mono ?_
        rintro e9 w4 ⟨a1, ⟨y, rfl, a2, a3⟩ | ⟨rfl, a2, a3⟩⟩
        · have HY : Hid (R = .inl y) := a2
          have HPE : Hid (PErr w4 o bp y.1 y.2) := a3
          have HS4 : Hid (Stp (fun l => l = 1043) wr o w4 o) := a1
          clear a1 a2 a3 HEX
          go_wp2_with fail
          go_ret
          exact FnQ.bad (HST.out.trans HS4.out) HY.out HPE.out
        have HS4 : Hid (Stp (fun l => l = 1043) wr o w4 o) := a1
        have HL4 : Hid (LsI w w4 s0 s4 sl2 ms first last) := HL.out.stp a1 HG.out.r.ow (by rw [hs4]; exact Alike.nxt s1)
        have HG4 : Hid (PGd w4 o bp T sl s4) := a3
        have HP4 : Hid (PBd (go8 T m' room c first last s4) KL = R) := a2
        have HAL : Hid (s4.alive = s0.alive) := by
          show s4.alive = _
          rw [hs4]
          exact hal
        clear a1 a2 a3 HEX hs4
      all_goals
        by_cases hM : c = 3
        · have e3 : ((c : Int) == 3) = true := by simp; omega
          obtain ⟨y, hy⟩ : ∃ y, failP T s4 19 = .inl y := ⟨_, rfl⟩
          have HY : Hid (R = .inl y) := by
            show R = _
            rw [← HP4.out]
            unfold go8
            rw [if_pos hM, hy]
            rfl
          have HFA : Hid (Calls Tryz.prog 62 #[.pointer (some ⟨bp, 0, none⟩), .int .i64 19] w4 fun e w' => e = .returned (.tuple #[]) ∧ PErr w' o bp y.1 y.2 ∧ Stp (fun l => l = 1043) w4 o w' o) := HG4.out.r.fail hy
          have HM3 : Hid (c = 3) := hM
          clear hy hM
          go_wp2_with fail
          refine HFA.out.mono ?_
          rintro e10 w5 ⟨rfl, q1, q2⟩
          have HPE : Hid (PErr w5 o bp y.1 y.2) := q1
          have HS5 : Hid (Stp (fun l => l = 1043) w4 o w5 o) := q2
          clear q1 q2
          go_wp2_with fail
          go_ret
          exact FnQ.bad (HST.out.trans (HS4.out.trans HS5.out)) HY.out HPE.out
        · have e3 : ((c : Int) == 3) = false := by simp; omega
          have HP5 : Hid (PBd (nameP T s4 0 fun m s => parN T m' 8 room [c + 1, if last = 0 then s.nodes.length else first, s.nodes.length] ((s.add ⟨17, 0, 0, 0, 0, 0, m.s, m.p⟩).link last s.nodes.length)) KL = R) := by
            show _ = R
            rw [← HP4.out]
            unfold go8
            rw [if_neg hM]
          have HM3 : Hid (c + 1 ≤ 3) := by
            show c + 1 ≤ 3
            omega
          clear hM
          go_wp2_with fail
          refine (HG4.out.nameC 0 (by decide)).mono ?_
          rintro e10 w5 ⟨q5, ⟨y, rfl, a2, a3⟩ | ⟨nb, rfl, hnb, a2, hN, a3, _⟩⟩
          · have HS5 : Hid (Stp (fun l => l = 1043) w4 o w5 o) := q5
            have HY : Hid (R = .inl y) := by
              show R = _
              rw [← HP5.out, a2]
              rfl
            have HPE : Hid (PErr w5 o bp y.1 y.2) := a3
            clear q5 a2 a3
            go_wp2_with fail
            go_ret
            exact FnQ.bad (HST.out.trans (HS4.out.trans HS5.out)) HY.out HPE.out
          · have HE5 : Hid (PBd (parN T m' 8 room [c + 1, if last = 0 then s4.nodes.length else first, s4.nodes.length] ((s4.nxt.add ⟨17, 0, 0, 0, 0, 0, (curT T s4).s, (curT T s4).p⟩).link last s4.nodes.length)) KL = R) := by
              show _ = R
              rw [← HP5.out, a2]
              rfl
            generalize curT T s4 = t at *
            have HS5 : Hid (Stp (fun l => l = 1043) w4 o w5 o) := q5
            have HY : Hid (ExS w4 o bp T sl s4 (s4.nxt.add ⟨17, 0, 0, 0, 0, 0, t.s, t.p⟩) s4.nodes.length w5 (.iface 296 (.pointer (some ⟨nb, 0, none⟩)))) := name_leaf HG4.out.k q5 a3.r hnb hN
            have OWN : Hid (w5.ownsRow 0 206 1 (.slice sl2.a c sl2.c) c (ms.map fun x => x.2.2)) := by
              show w5.ownsRow _ _ _ _ _ _
              rw [← HCC.out]
              exact (HL4.out.stp (s2 := s4) HS5.out HG.out.r.ow (Alike.refl _)).own
            clear q5 a2 a3 hN
            go_wp2_with (at_builtin; go_must (refine wpList_app row_list _ rfl (.tmp 50) (.tmp 53) rfl _ _ _ rfl (owns_alloc OWN.out _) _ [.iface 296 (.pointer (some ⟨nb, 0, none⟩))] rfl (Has.new _ _ _) rfl ?one ?bd ?go))
            case one => intro u hu; simp at hu; subst hu; rfl
            case bd => omega
            case go =>
              intro g cap w6 q1 q2 q3 q4
              have HQ1 : Hid (w6.ownsRow 0 206 1 (.slice (some ⟨g, 0, none⟩) (ms.length + 1) cap) (ms.length + 1) ((ms.map fun x => x.2.2) ++ [.iface 296 (.pointer (some ⟨nb, 0, none⟩))])) := by
                show w6.ownsRow _ _ _ _ _ _
                rw [HCC.out]
                exact q1
              have HQ2 : Hid (∃ b, Fr (fun k => (sl2.v ms.length).ownBlock = some k) (w5.alloc b) w6) := by
                show ∃ b, _
                rw [HCC.out]
                exact ⟨_, q2⟩
              have HQ3 : Hid ((sl2.v ms.length).ownBlock = some g ∨ g = w5.heap.size + 1) := by
                show _ ∨ _
                rw [HCC.out]
                simpa using q3
              have HQ4 : Hid (g < w6.heap.size) := q4
              clear q1 q2 q3 q4 OWN
              go_wp2_with fail
              go_roundg m'
              case measure => omega
              case rel =>
                obtain ⟨b, q2⟩ := HQ2.out
                have hs1 := HST.out.trans (HS4.out.trans HS5.out)
                have ow := HG.out.r.ow
                have hz := (HST.out.trans HS4.out).fr.size
                have LL := HL4.out.snoc hz HY.out HS5.out ow HQ1.out q2 HQ3.out HQ4.out
                have hn6 := HL4.out.near ow q2
                have hR6 := (HY.out.r.st hn6 (by omega) (by omega))
                obtain ⟨c1, c2, c3, c4⟩ := link_same (s4.nxt.add ⟨17, 0, 0, 0, 0, 0, t.s, t.p⟩) last s4.nodes.length
                refine ⟨_, ⟨some ⟨g, 0, none⟩, cap⟩, _, _, _, ?_, ?_, by omega, HL4.out.far hs1 q2, hR6.as c1 c2 c3 c4, LL, ?_, ?_⟩
                · rw [List.length_append, HCC.out]
                  rfl
                · rw [List.length_append, HCC.out]
                  exact HE5.out
                · rw [c2]
                  exact HAL.out
                · rw [List.length_append, HCC.out]
                  exact HM3.out
end
end Go.Proofs.Qxb6500574aGreatDoor
