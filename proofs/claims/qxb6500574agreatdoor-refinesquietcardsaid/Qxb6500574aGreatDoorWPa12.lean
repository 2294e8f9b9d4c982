/-
  THE WALK of the parser layer: the parser: list.
-/
import Derived.Test.Qxb6500574aGreatDoorWPa11
namespace Go.Proofs.Qxb6500574aGreatDoor
open Go Go.RowKit
set_option linter.unusedVariables false
set_option linter.unusedSimpArgs false
open Go.Lib
section
set_option maxRecDepth 100000
set_option maxHeartbeats 2000000
variable {w : World} {o : Nat → Nat} {bp : Nat} {sl : Sl} {T : List Tok} {s : PSt} {n room : Nat}
/-- a member of a list -/
def go6 (T : List Tok) (n room x0 x1 x2 x3 x4 : Nat) (s : PSt) : PR := if x1 ≠ 0 ∧ x2 + 1 = x1 then failP T s 19 else PBd (parN T n 0 room [1] s) fun v s => parN T n 6 room [x0, x1, x2 + 1, if x4 = 0 then v.getD 0 0 else x3, v.getD 0 0] (s.link x4 (v.getD 0 0))
theorem par6 {x0 x1 x2 x3 x4 : Nat} : parN T (n + 1) 6 room [x0, x1, x2, x3, x4] s = if (curT T s).k = x0 then .inr ([x3, x2], s.nxt) else if 0 < x2 then expectP T s 45 (go6 T n room x0 x1 x2 x3 x4) else go6 T n room x0 x1 x2 x3 x4 s := by
  conv => lhs; unfold parN
  simp (config := {decide := true}) only [if_true, if_false]
  rfl
/-- a round's state -/
def LiI (w : World) (o : Nat → Nat) (bp : Nat) (T : List Tok) (sl : Sl) (s : PSt) (n room k M : Nat) (R : PR) (m : Nat) (v10 : Value) (w1 : World) : Prop :=
  ∃ s1 sl2 ms first last, v10 = .slice sl2.a ms.length sl2.c ∧ parN T m 6 room [k, M, ms.length, first, last] s1 = R ∧ m ≤ n + 1 ∧ Stp (fun l => l = 1043) w o w1 o ∧ PRep w1 o bp T sl s1 ∧ LsI w w1 s s1 sl2 ms first last ∧ s1.alive = s.alive ∧ ms.length ≤ s1.i
theorem list_any (C : ∀ m, m ≤ n → PCs T m) (g : PGd w o bp T sl s) (hr : room ≤ 12) (k M : Nat) (hkM : (k = 40 ∧ M = 4) ∨ (k = 42 ∧ M = 0)) (hx : parN T (n + 1) 6 room [k, M, 0, 0, 0] s ≠ x99) : Calls Tryz.prog 228 #[.pointer (some ⟨bp, 0, none⟩), .int .i64 (room : Nat), .int .i64 (k : Nat), .int .i64 ((M : Int) - 1)] w (LsQ w o bp T sl s (parN T (n + 1) 6 room [k, M, 0, 0, 0] s)) := by
  obtain ⟨R, HR⟩ : ∃ R, Hid (parN T (n + 1) 6 room [k, M, 0, 0, 0] s = R) := ⟨_, rfl⟩
  rw [HR.out] at hx ⊢
  have HS : Hid (LiI w o bp T sl s n room k M R (n + 1) (.slice none 0 0) w) := ⟨s, sl0, [], 0, 0, rfl, HR.out, Nat.le_refl _, Stp.refl _ _ _, g.r, LsI.nil g.k, rfl, Nat.zero_le _⟩
  have HX : Hid (R ≠ x99) := hx
  have HG : Hid (PGd w o bp T sl s) := g
  have HC : Hid (∀ m, m ≤ n → PCs T m) := C
  have HLEN : Hid (T.length ≤ 2049) := g.g.len
  have hk0 : k ≠ 0 ∧ k ≠ 1 := by omega
  have HM : Hid (∀ c : Nat, ((c : Int) == (M : Int) - 1) = decide (M ≠ 0 ∧ c + 1 = M)) := fun c => by
    rw [Bool.eq_iff_iff]
    simp
    omega
  clear g C hx hkM HR
  obtain ⟨mo, HMO⟩ : ∃ mo : Int, Hid ((M : Int) - 1 = mo) := ⟨_, rfl⟩
  rw [HMO.out] at HM ⊢
  go_enter Tryz.func228, Tryz.ntmps228
  go_wp2_with fail
  go_loopg [10] (n + 1) (fun m v10 w1 => Hid (LiI w o bp T sl s n room k M R m v10 w1))
  case atStart => exact HS
  case round =>
    obtain ⟨s1, sl2, ms, first, last, rfl, hp, hm, hst, hR1, hL, hal, hi⟩ := hrel.out
    obtain ⟨m', rfl⟩ : ∃ m', gk = m' + 1 := by
      cases gk with
      | zero => exact absurd hp.symm HX.out
      | succ m' => exact ⟨m', rfl⟩
    rw [par6] at hp
    obtain ⟨hb, c2, _⟩ := hR1.cells
    have HST : Hid (Stp (fun l => l = 1043) w o wr o) := hst
    have HL : Hid (LsI w wr s s1 sl2 ms first last) := hL
    have HR1 : Hid (PRep wr o bp T sl s1) := hR1
    have HP : Hid (_ = R) := hp
    have HGR : Hid (PGd wr o bp T sl s1) := HG.out.st hst hR1 hL.ok
    have HLT := hR1.lt
    have hlen := HLEN.out
    obtain ⟨c, HCC⟩ : ∃ c, Hid (ms.length = c) := ⟨_, rfl⟩
    rw [HCC.out] at HP hi ⊢
    clear hrel hst HS hR1 hL hp
    by_cases hk : (curT T s1).k = k
    · rw [if_pos hk] at HP
      have e1 : (((curT T s1).k : Int) != (k : Int)) = false := by simp; omega
      have NX : Hid (Calls Tryz.prog 155 #[.pointer (some ⟨bp, 0, none⟩)] wr fun e w' => e = .returned (.tuple #[]) ∧ PRep w' o bp T sl s1.nxt ∧ Stp (fun l => l = 1043) wr o w' o) := HR1.out.next HG.out.g (by omega) (by omega)
      clear hk
      go_wp2_with fail
      refine NX.out.mono ?_
      rintro e9 w4 ⟨rfl, q1, q2⟩
      have HQ4 : Hid (Stp (fun l => l = 1043) wr o w4 o) := q2
      have HR4 : Hid (PRep w4 o bp T sl s1.nxt) := q1
      clear q1 q2 NX
      go_wp2_with fail
      go_ret2
      rw [← HCC.out]
      obtain ⟨m, Z⟩ := (HL.out.stp HQ4.out HG.out.r.ow (Alike.nxt s1)).fin HR4.out hal
      exact ⟨HST.out.trans HQ4.out, .inr ⟨_, _, _, _, _, _, _, HP.out.symm, rfl, Z⟩⟩
    · rw [if_neg hk] at HP
      have e1 : (((curT T s1).k : Int) != (k : Int)) = true := by simp; omega
      have hml : c ≤ 3000 := by omega
      have START : Hid ((c = 0 ∧ go6 T m' room k M c first last s1 = R) ∨ (0 < c ∧ Calls Tryz.prog 225 #[.pointer (some ⟨bp, 0, none⟩), .int .i64 45] wr fun e w' => Stp (fun l => l = 1043) wr o w' o ∧ ((∃ y, e = .returned (.bool false) ∧ R = .inl y ∧ PErr w' o bp y.1 y.2) ∨ (e = .returned (.bool true) ∧ go6 T m' room k M c first last s1.nxt = R ∧ PGd w' o bp T sl s1.nxt)))) := by
        by_cases h0 : 0 < c
        · have hp := HP.out
          rw [if_pos h0] at hp
          refine .inr ⟨h0, (HGR.out.expectC 45 (by decide) (by decide)).mono ?_⟩
          rintro e w' ⟨a1, ⟨y, rfl, a2, a3⟩ | ⟨rfl, a2, a3⟩⟩
          · exact ⟨a1, .inl ⟨y, rfl, by rw [← hp, a2], a3⟩⟩
          · exact ⟨a1, .inr ⟨rfl, by rw [← hp, a2], a3⟩⟩
        · have hp := HP.out
          rw [if_neg h0] at hp
          exact .inl ⟨by omega, hp⟩
      have TAIL : ∃ (w4 : World) (s4 : PSt), Hid (w4 = wr ∧ s4 = s1) := ⟨_, _, rfl, rfl⟩
      obtain ⟨w4, s4, HW⟩ := TAIL
      rcases START.out with ⟨h0, hg⟩ | ⟨h0, HEX⟩
      case' inl =>
        have e2 : decide (0 < c) = false := decide_eq_false (by omega)
        obtain ⟨q4, q5⟩ := HW.out
        subst q4
        subst q5
        have HS4 : Hid (Stp (fun l => l = 1043) w4 o w4 o) := Stp.refl _ _ _
        have HL4 : Hid (LsI w w4 s s4 sl2 ms first last) := HL.out
        have HG4 : Hid (PGd w4 o bp T sl s4) := HGR.out
        have HP4 : Hid (go6 T m' room k M c first last s4 = R) := hg
        have HAL : Hid (s4.alive = s.alive) := hal
        have HI4 : Hid (c ≤ s4.i) := hi
        clear START hg HW h0
      case' inr =>
        have e2 : decide (0 < c) = true := decide_eq_true (by omega)
        clear START h0 HW w4 s4
        obtain ⟨s4, hs4⟩ : ∃ s4, s4 = s1.nxt := ⟨_, rfl⟩
        rw [← hs4] at HEX
        go_wp2_with fail
        refine HEX.mono ?_
        rintro e9 w4 ⟨a1, ⟨y, rfl, a2, a3⟩ | ⟨rfl, a2, a3⟩⟩
        · have HY : Hid (R = .inl y) := a2
          have HPE : Hid (PErr w4 o bp y.1 y.2) := a3
          have HS4 : Hid (Stp (fun l => l = 1043) wr o w4 o) := a1
          clear a1 a2 a3 HEX
          go_wp2_with fail
          go_ret2
          exact LsQ.bad (HST.out.trans HS4.out) HY.out HPE.out
        have HS4 : Hid (Stp (fun l => l = 1043) wr o w4 o) := a1
        have HL4 : Hid (LsI w w4 s s4 sl2 ms first last) := HL.out.stp a1 HG.out.r.ow (by rw [hs4]; exact Alike.nxt s1)
        have HG4 : Hid (PGd w4 o bp T sl s4) := a3
        have HP4 : Hid (go6 T m' room k M c first last s4 = R) := a2
        have HAL : Hid (s4.alive = s.alive) := by
          show s4.alive = _
          rw [hs4]
          exact hal
        have HI4 : Hid (c ≤ s4.i) := by
          show _ ≤ s4.i
          rw [hs4]
          exact Nat.le_succ_of_le hi
        clear a1 a2 a3 HEX hs4
      all_goals
        by_cases hM : M ≠ 0 ∧ c + 1 = M
        · have e3 : ((c : Int) == mo) = true := by
            rw [HM.out]
            simpa using hM
          obtain ⟨y, hy⟩ : ∃ y, failP T s4 19 = .inl y := ⟨_, rfl⟩
          have HY : Hid (R = .inl y) := by
            show R = _
            rw [← HP4.out]
            unfold go6
            rw [if_pos hM, hy]
          have HFA : Hid (Calls Tryz.prog 62 #[.pointer (some ⟨bp, 0, none⟩), .int .i64 19] w4 fun e w' => e = .returned (.tuple #[]) ∧ PErr w' o bp y.1 y.2 ∧ Stp (fun l => l = 1043) w4 o w' o) := HG4.out.r.fail hy
          clear hy hM
          go_wp2_with fail
          refine HFA.out.mono ?_
          rintro e10 w5 ⟨rfl, q1, q2⟩
          have HPE : Hid (PErr w5 o bp y.1 y.2) := q1
          have HS5 : Hid (Stp (fun l => l = 1043) w4 o w5 o) := q2
          clear q1 q2
          go_wp2_with fail
          go_ret2
          exact LsQ.bad (HST.out.trans (HS4.out.trans HS5.out)) HY.out HPE.out
        · have e3 : ((c : Int) == mo) = false := by
            rw [HM.out]
            simpa using hM
          have hp : PBd (parN T m' 0 room [1] s4) (fun v s => parN T m' 6 room [k, M, c + 1, if last = 0 then v.getD 0 0 else first, v.getD 0 0] (s.link last (v.getD 0 0))) = R := by
            rw [← HP4.out]
            unfold go6
            rw [if_neg hM]
          have HP5 : Hid (PBd (parN T m' 0 room [1] s4) (fun v s => parN T m' 6 room [k, M, c + 1, if last = 0 then v.getD 0 0 else first, v.getD 0 0] (s.link last (v.getD 0 0))) = R) := hp
          have hx9 : parN T m' 0 room [1] s4 ≠ x99 := PB_ne (by rw [hp]; exact HX.out)
          have EXC : Hid (Calls Tryz.prog 159 #[.pointer (some ⟨bp, 0, none⟩), .int .i64 (room : Nat), .int .i64 1] w4 (ExQ w4 o bp T sl s4 (parN T m' 0 room [1] s4))) := (HC.out m' (by omega)).c0 (x := 1) HG4.out hr (by omega) (by omega) hx9
          clear hx9 hp hM
          go_wp2_with fail
          refine EXC.out.mono ?_
          rintro e10 w5 ⟨q5, q6⟩
          have HS5 : Hid (Stp (fun l => l = 1043) w4 o w5 o) := q5
          clear q5
          rcases q6 with ⟨y, hy, rfl, hpe⟩ | ⟨u, s5, t5, b5, hy, rfl, Y⟩
          · have HPE : Hid (PErr w5 o bp y.1 y.2) := hpe
            have HY : Hid (R = .inl y) := by
              show R = _
              rw [← HP5.out, hy]; rfl
            clear hpe hy
            go_wp2_with fail
            go_ret2
            exact LsQ.bad (HST.out.trans (HS4.out.trans HS5.out)) HY.out HPE.out
          · have HY : Hid (ExS w4 o bp T sl s4 s5 (u.getD 0 0) w5 (.iface t5 (.pointer (some ⟨b5, 0, none⟩)))) := Y
            have HE5 : Hid (parN T m' 6 room [k, M, c + 1, if last = 0 then u.getD 0 0 else first, u.getD 0 0] (s5.link last (u.getD 0 0)) = R) := by
              show _ = R
              rw [← HP5.out, hy]; rfl
            have HPG : Hid (s4.i < s5.i) := (par_pr _ _ _ _ _ _ hy : Pg 0 s4 s5).2 rfl
            have HAL5 : Hid (s5.alive = s4.alive) := ((PA.all HG.out.g.tok m').p0 room [1] s4 (u, s5) HG4.out.k hy (by decide) (by decide) hr).al
            have OWN : Hid (w5.ownsRow 0 206 1 (.slice sl2.a c sl2.c) c (ms.map fun x => x.2.2)) := by
              show w5.ownsRow _ _ _ _ _ _
              rw [← HCC.out]
              exact (HL4.out.stp (s2 := s4) HS5.out HG.out.r.ow (Alike.refl _)).own
            clear Y hy
            go_wp2_with (at_builtin; go_must (refine wpList_app row_list _ rfl (.tmp 38) (.tmp 40) rfl _ _ _ rfl (owns_alloc OWN.out _) _ [.iface t5 (.pointer (some ⟨b5, 0, none⟩))] rfl (Has.new _ _ _) rfl ?one ?bd ?go))
            case one => intro u hu; simp at hu; subst hu; rfl
            case bd => omega
            case go =>
              intro g cap w6 q1 q2 q3 q4
              have HQ1 : Hid (w6.ownsRow 0 206 1 (.slice (some ⟨g, 0, none⟩) (ms.length + 1) cap) (ms.length + 1) ((ms.map fun x => x.2.2) ++ [.iface t5 (.pointer (some ⟨b5, 0, none⟩))])) := by
                show w6.ownsRow _ _ _ _ _ _
                rw [HCC.out]
                exact q1
              have HQ2 : Hid (∃ b, Fr (fun k => (sl2.v ms.length).ownBlock = some k) (w5.alloc b) w6) := by
                show ∃ b, _
                rw [HCC.out]
                exact ⟨_, q2⟩
              have HQ3 : Hid ((sl2.v ms.length).ownBlock = some g ∨ g = w5.heap.size + 1) := by
                show _ ∨ _
                rw [HCC.out]
                simpa using q3
              have HQ4 : Hid (g < w6.heap.size) := q4
              clear q1 q2 q3 q4 OWN
              go_wp2_with fail
              go_roundg m'
              case measure => omega
              case rel =>
                obtain ⟨b, q2⟩ := HQ2.out
                have hs1 := HST.out.trans (HS4.out.trans HS5.out)
                have ow := HG.out.r.ow
                have hz := (HST.out.trans HS4.out).fr.size
                have LL := HL4.out.snoc hz HY.out HS5.out ow HQ1.out q2 HQ3.out HQ4.out
                have hn6 := HL4.out.near ow q2
                have hR6 := (HY.out.r.st hn6 (by omega) (by omega))
                obtain ⟨c1, c2, c3, c4⟩ := link_same s5 last (u.getD 0 0)
                refine ⟨_, ⟨some ⟨g, 0, none⟩, cap⟩, _, _, _, ?_, ?_, by omega, HL4.out.far hs1 q2, hR6.as c1 c2 c3 c4, LL, ?_, ?_⟩
                · rw [List.length_append, HCC.out]
                  rfl
                · rw [List.length_append, HCC.out]
                  exact HE5.out
                · rw [c2, HAL5.out]
                  exact HAL.out
                · rw [c1, List.length_append, HCC.out]
                  have h1 := HPG.out
                  have h2 := HI4.out
                  show c + 1 ≤ _
                  omega
end
end Go.Proofs.Qxb6500574aGreatDoor
