/-
  THE WALK of the parser layer: the parser: block.
-/
import Derived.Test.Qxb6500574aGreatDoorWPa12
import Derived.Test.Qxb6500574aGreatDoorWTa
namespace Go.Proofs.Qxb6500574aGreatDoor
open Go Go.RowKit
set_option linter.unusedVariables false
set_option linter.unusedSimpArgs false
open Go.Lib
section
set_option maxRecDepth 100000
set_option maxHeartbeats 2000000
variable {w w1 : World} {o : Nat → Nat} {bp : Nat} {sl : Sl} {T : List Tok} {s s1 : PSt} {n room : Nat}
theorem LsI.alive {sl2 : Sl} {ms : List Mb} {first last : Nat} (h : LsI w w1 s s1 sl2 ms first last) {x : Nat} (hx : x ≤ 12) : LsI w w1 s { s1 with alive := x } sl2 ms first last :=
  ⟨h.own, h.fz, h.e0, h.l, h.la, h.t, ⟨h.kp.le, h.kp.old, h.kp.fu, h.kp.f12, h.kp.lp⟩, ⟨h.ok.n1, h.ok.fu, hx⟩, h.n1⟩
/-- a value's type says its node's kind -/
theorem Shp.kind {d : Nd} {lo m : Nat} {v : Value} {kids : List Mb} {mem : Bks} {ls : List Ls} (h : Shp d lo m v kids mem ls) : ∃ t b, v = .iface t (.pointer (some ⟨b, 0, none⟩)) ∧ (t == 203) = decide (d.k = 10) ∧ (t == 204) = decide (d.k = 11) ∧ (t == 291) = decide (d.k = 19) ∧ (t == 296) = decide (d.k = 17) ∧ (t == 297) = decide (d.k = 18) := by
  cases h using Shp.on with
  | lit hk => rcases hk with rfl | rfl | rfl <;> exact ⟨_, _, rfl, rfl, rfl, rfl, rfl, rfl⟩
  | binary hk ho => rcases hk with rfl | rfl | rfl <;> exact ⟨_, _, rfl, rfl, rfl, rfl, rfl, rfl⟩
  | _ => exact ⟨_, _, rfl, rfl, rfl, rfl, rfl, rfl⟩
theorem TrA.kind {P : Nat → Prop} {N : List Nd} {lo m b : Nat} {t : TypeId} (h : TrA w P N lo m (.iface t (.pointer (some ⟨b, 0, none⟩)))) :
    (t == 203) = decide ((N.getD m nd0).k = 10) ∧ (t == 204) = decide ((N.getD m nd0).k = 11) ∧ (t == 291) = decide ((N.getD m nd0).k = 19) ∧ (t == 296) = decide ((N.getD m nd0).k = 17) ∧ (t == 297) = decide ((N.getD m nd0).k = 18) := by
  generalize hv : (Value.iface t (.pointer (some ⟨b, 0, none⟩))) = v at h
  cases h using TrA.on with
  | mk lo n v d kids mem ls hd hm hl hk hb hz hn sh =>
    have hk0 : (N.getD m nd0).k = d.k := by rw [← hd]; rfl
    rw [hk0]
    obtain ⟨t', b', h1, h2⟩ := sh.kind
    rw [← hv] at h1
    injection h1 with h3 h4
    subst h3
    exact h2
theorem par9 : parN T (n + 1) 9 room [] s = if room = 0 then failP T s 16 else PBd (parN T n 10 room [0, 0, 0] s) fun v s1 => .inr (v, { s1 with alive := s.alive }) := by
  conv => lhs; unfold parN
  simp (config := {decide := true}) only [if_true, if_false]
theorem par10 {x0 x1 x2 : Nat} : parN T (n + 1) 10 room [x0, x1, x2] s = if endsB (curT T s).k = true then .inr ([x1], s) else if x0 = 1 then failP T s 15 else PBd (parN T n 11 room [] s) fun v s => parN T n 10 room [if (s.nodes.getD (v.getD 0 0) nd0).k = 10 ∨ (s.nodes.getD (v.getD 0 0) nd0).k = 11 then 1 else 0, if x2 = 0 then v.getD 0 0 else x1, v.getD 0 0] (s.link x2 (v.getD 0 0)) := by
  conv => lhs; unfold parN
  simp (config := {decide := true}) only [if_true, if_false]
  rfl
/-- a round's state -/
def BlI (w : World) (o : Nat → Nat) (bp : Nat) (T : List Tok) (sl : Sl) (s : PSt) (n room : Nat) (K : List Nat → PSt → PR) (R : PR) (m : Nat) (v7 v8 : Value) (w1 : World) : Prop :=
  ∃ s1 sl2 ms x0 first last, v7 = .slice sl2.a ms.length sl2.c ∧ v8 = .bool (decide (x0 = 1)) ∧ PBd (parN T m 10 room [x0, first, last] s1) K = R ∧ m ≤ n ∧ Stp (fun l => l = 1043) w o w1 o ∧ PRep w1 o bp T sl s1 ∧ LsI w w1 s s1 sl2 ms first last ∧ ms.length ≤ s1.i
theorem block_any (C : ∀ m, m ≤ n → PCs T m) (g : PGd w o bp T sl s) (hr : s.loops + room ≤ 12) (hx : parN T (n + 1) 9 room [] s ≠ x99) : Calls Tryz.prog 61 #[.pointer (some ⟨bp, 0, none⟩), .int .i64 (room : Nat)] w (LsQ w o bp T sl s (parN T (n + 1) 9 room [] s)) := by
  have E := @par9 T s n room
  obtain ⟨R, HR⟩ : ∃ R, Hid (parN T (n + 1) 9 room [] s = R) := ⟨_, rfl⟩
  rw [HR.out] at hx E ⊢
  have HX : Hid (R ≠ x99) := hx
  have HG : Hid (PGd w o bp T sl s) := g
  have HC : Hid (∀ m, m ≤ n → PCs T m) := C
  have HLEN : Hid (T.length ≤ 2049) := g.g.len
  have hb := g.r.cells.1
  have c7 := g.r.cells2.1
  have hal := g.k.al
  by_cases h0 : room = 0
  · rw [if_pos h0] at E
    subst h0
    obtain ⟨y, hy⟩ : ∃ y, failP T s 16 = .inl y := ⟨_, rfl⟩
    have HF : Hid (Calls Tryz.prog 62 #[.pointer (some ⟨bp, 0, none⟩), .int .i64 16] w fun e w' => e = .returned (.tuple #[]) ∧ PErr w' o bp y.1 y.2 ∧ Stp (fun l => l = 1043) w o w' o) := g.r.fail hy
    have HE : Hid (R = .inl y) := E.trans hy
    clear g E hy hx HR C
    go_enter Tryz.func61, Tryz.ntmps61
    go_wp2_with fail
    refine HF.out.mono ?_
    rintro e1 w1 ⟨rfl, q1, q2⟩
    have HQ1 : Hid (PErr w1 o bp y.1 y.2) := q1
    have HQ2 : Hid (Stp (fun l => l = 1043) w o w1 o) := q2
    clear q1 q2
    go_wp2_with fail
    go_ret2
    exact LsQ.bad HQ2.out HE.out HQ1.out
  rw [if_neg h0] at E
  obtain ⟨KB, HKB⟩ : ∃ K, Hid ((fun v (s1 : PSt) => (.inr (v, { s1 with alive := s.alive }) : PR)) = K) := ⟨_, rfl⟩
  rw [HKB.out] at E
  have HS : Hid (BlI w o bp T sl s n room KB R n (.slice none 0 0) (.bool false) w) := ⟨s, sl0, [], 0, 0, 0, rfl, rfl, E.symm, Nat.le_refl _, Stp.refl _ _ _, g.r, LsI.nil g.k, Nat.zero_le _⟩
  have r1 : 1 ≤ room := by omega
  have hle : decide (room = 0) = false := decide_eq_false h0
  clear g C hx HR E h0
  go_enter Tryz.func61, Tryz.ntmps61
  go_wp2_with fail
  go_loopg [7, 8] n (fun m v7 v8 w1 => Hid (BlI w o bp T sl s n room KB R m v7 v8 w1))
  case atStart => exact HS
  case round =>
    obtain ⟨s1, sl2, ms, x0, first, last, rfl, rfl, hp, hm, hst, hR1, hL, hi⟩ := hrel.out
    obtain ⟨m', rfl⟩ : ∃ m', gk = m' + 1 := by
      cases gk with
      | zero => exact absurd hp.symm HX.out
      | succ m' => exact ⟨m', rfl⟩
    rw [par10] at hp
    have hbr := hR1.cells.1
    have HST : Hid (Stp (fun l => l = 1043) w o wr o) := hst
    have HL : Hid (LsI w wr s s1 sl2 ms first last) := hL
    have HR1 : Hid (PRep wr o bp T sl s1) := hR1
    have HP : Hid (_ = R) := hp
    have HGR : Hid (PGd wr o bp T sl s1) := HG.out.st hst hR1 hL.ok
    have HLT := hR1.lt
    have hlen := HLEN.out
    have HLP : Hid (s1.loops = s.loops) := hL.kp.lp
    have HEN : Hid (Calls Tryz.prog 97 #[.pointer (some ⟨bp, 0, none⟩)] wr fun e w' => e = .returned (.bool (endsB (curT T s1).k)) ∧ w' = wr) := hR1.ends
    have c7r := hR1.cells2.1
    have z7r := hR1.cells2.2.2.2 7
    clear hrel hst HS hR1 hL hp
    by_cases hk : endsB (curT T s1).k = true
    · rw [if_pos hk] at HP
      rw [hk] at HEN
      have HE : Hid (R = .inr ([first], { s1 with alive := s.alive })) := by
        show R = _
        rw [← HP.out, ← HKB.out]
        rfl
      obtain ⟨G2, S2⟩ := HGR.out.alive (x := s.alive) (u := (s.alive : Int)) hal rfl
      have HG2 : Hid (PGd (wr.setCell ⟨bp, 7, none⟩ (.int .i64 (s.alive : Int))) o bp T sl { s1 with alive := s.alive }) := G2
      have HS2 : Hid (Stp (fun l => l = 1043) wr o (wr.setCell ⟨bp, 7, none⟩ (.int .i64 (s.alive : Int))) o) := S2
      clear G2 S2 hk HP
      go_wp2_with fail
      refine HEN.out.mono ?_
      rintro e9 w4 ⟨rfl, hw⟩
      rw [hw]
      go_wp2_with fail
      go_ret2
      obtain ⟨m, Z⟩ := ((HL.out.stp HS2.out HG.out.r.ow (Alike.refl _)).alive hal).fin HG2.out.r rfl
      exact ⟨HST.out.trans HS2.out, .inr ⟨_, _, _, _, _, _, _, HE.out, rfl, Z⟩⟩
    · rw [if_neg hk] at HP
      rw [show endsB (curT T s1).k = false by simpa using hk] at HEN
      by_cases hx0 : x0 = 1
      · rw [if_pos hx0] at HP
        have e2 : decide (x0 = 1) = true := by simpa using hx0
        obtain ⟨y, hy⟩ : ∃ y, failP T s1 15 = .inl y := ⟨_, rfl⟩
        have HFA : Hid (Calls Tryz.prog 62 #[.pointer (some ⟨bp, 0, none⟩), .int .i64 15] wr fun e w' => e = .returned (.tuple #[]) ∧ PErr w' o bp y.1 y.2 ∧ Stp (fun l => l = 1043) wr o w' o) := HR1.out.fail hy
        have HY : Hid (R = .inl y) := by
          show R = _
          rw [← HP.out, hy]
          rfl
        clear hy hx0 hk HP
        rw [e2]
        go_wp2_with fail
        refine HEN.out.mono ?_
        rintro e9 w4 ⟨rfl, hw⟩
        rw [hw]
        clear hw w4
        go_wp2_with fail
        refine HFA.out.mono ?_
        rintro e10 w5 ⟨rfl, q1, q2⟩
        have HPE : Hid (PErr w5 o bp y.1 y.2) := q1
        have HS5 : Hid (Stp (fun l => l = 1043) wr o w5 o) := q2
        clear q1 q2
        go_wp2_with fail
        go_ret2
        exact LsQ.bad (HST.out.trans HS5.out) HY.out HPE.out
      · rw [if_neg hx0] at HP
        have e2 : decide (x0 = 1) = false := by simpa using hx0
        have hx9 : parN T m' 11 room [] s1 ≠ x99 := fun e => HX.out (by rw [← HP.out, e]; rfl)
        have STC : Hid (Calls Tryz.prog 98 #[.pointer (some ⟨bp, 0, none⟩), .int .i64 (room : Nat)] wr (ExQ wr o bp T sl s1 (parN T m' 11 room [] s1))) := (HC.out m' (by omega)).c11 HGR.out r1 (by rw [HLP.out]; exact hr) hx9
        clear hx9 hx0 hk
        rw [e2]
        go_wp2_with fail
        refine HEN.out.mono ?_
        rintro e9 w4 ⟨rfl, hw⟩
        rw [hw]
        clear hw w4
        go_wp2_with fail
        refine STC.out.mono ?_
        rintro e10 w5 ⟨q5, q6⟩
        have HS5 : Hid (Stp (fun l => l = 1043) wr o w5 o) := q5
        clear q5
        rcases q6 with ⟨y, hy, rfl, hpe⟩ | ⟨u, s5, t5, b5, hy, rfl, Y⟩
        · have HPE : Hid (PErr w5 o bp y.1 y.2) := hpe
          have HY : Hid (R = .inl y) := by
            show R = _
            rw [← HP.out, hy]; rfl
          clear hpe hy
          go_wp2_with fail
          go_ret2
          exact LsQ.bad (HST.out.trans HS5.out) HY.out HPE.out
        · have HY : Hid (ExS wr o bp T sl s1 s5 (u.getD 0 0) w5 (.iface t5 (.pointer (some ⟨b5, 0, none⟩)))) := Y
          have hkd := Y.t.kind
          obtain ⟨kd, HKD⟩ : ∃ kd, Hid ((s5.nodes.getD (u.getD 0 0) nd0).k = kd) := ⟨_, rfl⟩
          have HE5 : Hid (PBd (parN T m' 10 room [if kd = 10 ∨ kd = 11 then 1 else 0, if last = 0 then u.getD 0 0 else first, u.getD 0 0] (s5.link last (u.getD 0 0))) KB = R) := by
            show _ = R
            rw [← HP.out, hy, ← HKD.out]; rfl
          have HPG : Hid (s1.i < s5.i) := (par_pr _ _ _ _ _ _ hy : Pg 11 s1 s5).2 rfl
          rw [HKD.out] at hkd
          obtain ⟨k10, k11, _, _, _⟩ := hkd
          have OWN : Hid (w5.ownsRow 0 206 1 (.slice sl2.a ms.length sl2.c) ms.length (ms.map fun x => x.2.2)) := (HL.out.stp (s2 := s1) HS5.out HG.out.r.ow (Alike.refl _)).own
          have FIN : ∀ g cap w6 b, w6.ownsRow 0 206 1 (.slice (some ⟨g, 0, none⟩) (ms.length + 1) cap) (ms.length + 1) ((ms.map fun x => x.2.2) ++ [.iface t5 (.pointer (some ⟨b5, 0, none⟩))]) → Fr (fun k => (sl2.v ms.length).ownBlock = some k) (w5.alloc b) w6 → ((sl2.v ms.length).ownBlock = some g ∨ g = w5.heap.size + 1) → g < w6.heap.size → BlI w o bp T sl s n room KB R m' (.slice (some ⟨g, 0, none⟩) (ms.length + 1) cap) (.bool (decide (kd = 10 ∨ kd = 11))) w6 := by
            intro g cap w6 b q1 q2 q3 q4
            have hs1 := HST.out.trans HS5.out
            have ow := HG.out.r.ow
            have LL := HL.out.snoc HST.out.fr.size HY.out HS5.out ow q1 q2 q3 q4
            have hR6 := (HY.out.r.st (HL.out.near ow q2) (by omega) (by omega))
            obtain ⟨c1, c2, c3, c4⟩ := link_same s5 last (u.getD 0 0)
            refine ⟨_, ⟨some ⟨g, 0, none⟩, cap⟩, _, _, _, _, ?_, ?_, HE5.out, by omega, HL.out.far hs1 q2, hR6.as c1 c2 c3 c4, LL, ?_⟩
            · rw [List.length_append]
              rfl
            · by_cases h9 : kd = 10 ∨ kd = 11
              · rw [if_pos h9]
                simp [h9]
              · rw [if_neg h9]
                simp [h9]
            · rw [c1, List.length_append]
              have h1 := HPG.out
              show ms.length + 1 ≤ _
              omega
          have HFIN : Hid (∀ g cap w6 b, _) := FIN
          clear Y hy FIN HP
          by_cases h9 : kd = 10 ∨ kd = 11
          · have hd : decide (kd = 10 ∨ kd = 11) = true := by simpa using h9
            rw [hd] at HFIN
            have hcase : t5 = 203 ∨ t5 = 204 := by
              rcases h9 with h9 | h9
              · left
                rw [h9] at k10
                simpa using k10
              · right
                rw [h9] at k11
                simpa using k11
            clear k10 k11 h9 hd
            have b1 := isReturn
            have b2 := isBreak
            have b3 := @noBreak 203 rfl
            have b4 := @noReturn 204 rfl
            rcases hcase with rfl | rfl
            all_goals
              go_wp2_with (at_builtin; go_must (refine wpList_app row_list _ rfl (.tmp 38) (.tmp 40) rfl _ _ _ rfl (owns_alloc OWN.out _) _ [.iface _ (.pointer (some ⟨b5, 0, none⟩))] rfl (Has.new _ _ _) rfl ?one ?bd ?go))
              case one => intro u hu; simp at hu; subst hu; rfl
              case bd => omega
              case go =>
                intro g cap w6 q1 q2 q3 q4
                have HQ : Hid (BlI w o bp T sl s n room KB R m' (.slice (some ⟨g, 0, none⟩) (ms.length + 1) cap) (.bool true) w6) := HFIN.out g cap w6 _ q1 q2 (by simpa using q3) q4
                clear q1 q2 q3 q4 OWN
                go_wp2_with fail
                go_roundg m'
                case measure => omega
                case rel => exact HQ
          · have e3 : (t5 == 203) = false := by rw [k10]; simp; omega
            have e4 : (t5 == 204) = false := by rw [k11]; simp; omega
            have hd : decide (kd = 10 ∨ kd = 11) = false := by simpa using h9
            rw [hd] at HFIN
            clear k10 k11 h9 hd
            have a1 := noReturn e3
            have a2 := noBreak e4
            clear e3 e4
            go_wp2_with (at_builtin; go_must (refine wpList_app row_list _ rfl (.tmp 38) (.tmp 40) rfl _ _ _ rfl (owns_alloc OWN.out _) _ [.iface t5 (.pointer (some ⟨b5, 0, none⟩))] rfl (Has.new _ _ _) rfl ?one ?bd ?go))
            case one => intro u hu; simp at hu; subst hu; rfl
            case bd => omega
            case go =>
              intro g cap w6 q1 q2 q3 q4
              have HQ : Hid (BlI w o bp T sl s n room KB R m' (.slice (some ⟨g, 0, none⟩) (ms.length + 1) cap) (.bool false) w6) := HFIN.out g cap w6 _ q1 q2 (by simpa using q3) q4
              clear q1 q2 q3 q4 OWN
              go_wp2_with fail
              go_roundg m'
              case measure => omega
              case rel => exact HQ
end
end Go.Proofs.Qxb6500574aGreatDoor
