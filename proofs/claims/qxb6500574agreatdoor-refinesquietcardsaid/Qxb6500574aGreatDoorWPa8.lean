/-
  THE WALK of the parser layer: the parser: post.
-/
import Derived.Test.Qxb6500574aGreatDoorWPa7
import Derived.Test.Qxb6500574aGreatDoorVBu2
namespace Go.Proofs.Qxb6500574aGreatDoor
open Go Go.RowKit
set_option linter.unusedVariables false
set_option linter.unusedSimpArgs false
open Go.Lib
section
set_option maxRecDepth 100000
set_option maxHeartbeats 2000000
variable {w : World} {o : Nat → Nat} {bp : Nat} {sl : Sl} {T : List Tok} {s : PSt} {n room : Nat}
theorem par3 : parN T (n + 1) 3 room [] s = if room = 0 then failP T s 16 else PBd (parN T n 5 room [] s) (fun v s => parN T n 4 room [v.getD 0 0] s) := by
  conv => lhs; unfold parN
  simp (config := {decide := true}) only [if_true, if_false]
theorem par4 {a : Nat} : parN T (n + 1) 4 room [a] s = if (curT T s).k = 46 then nameP T s.nxt 0 (fun m s' => parN T n 4 room [s'.nodes.length + 1] ((s'.add ⟨16, 0, 0, 0, 0, 0, m.s, m.p⟩).add ⟨18, a, s'.nodes.length, 0, 0, 0, [], (curT T s).p⟩)) else if (curT T s).k = 43 then PBd (parN T n 0 (room - 1) [1] s.nxt) (fun v s1 => expectP T s1 44 fun s2 => parN T n 4 room [s2.nodes.length] (s2.add ⟨18, a, v.getD 0 0, 0, 0, 0, [], (curT T s).p⟩)) else if (curT T s).k = 39 then PBd (parN T n 6 (room - 1) [40, 4, 0, 0, 0] s.nxt) (fun v s1 => parN T n 4 room [s1.nodes.length] (s1.add ⟨19, a, v.getD 0 0, 0, 0, 0, [], (curT T s).p⟩)) else .inr ([a], s) := by
  conv => lhs; unfold parN
  simp (config := {decide := true}) only [if_true, if_false]
  rfl
/-- a round's state -/
def PoI (w : World) (o : Nat → Nat) (bp : Nat) (T : List Tok) (sl : Sl) (s : PSt) (n room : Nat) (R : PR) (m : Nat) (v5 : Value) (w1 : World) : Prop :=
  (v5 = .nilIface ∧ ∃ y, R = .inl y ∧ PErr w1 o bp y.1 y.2 ∧ Stp (fun l => l = 1043) w o w1 o) ∨ (∃ a s1 t b, v5 = .iface t (.pointer (some ⟨b, 0, none⟩)) ∧ parN T m 4 room [a] s1 = R ∧ m ≤ n ∧ Stp (fun l => l = 1043) w o w1 o ∧ ExS w o bp T sl s s1 a w1 (.iface t (.pointer (some ⟨b, 0, none⟩))))
theorem post_any (C : ∀ m, m ≤ n → PCs T m) (g : PGd w o bp T sl s) (hr : room ≤ 12) (hx : parN T (n + 1) 3 room [] s ≠ x99) : Calls Tryz.prog 162 #[.pointer (some ⟨bp, 0, none⟩), .int .i64 (room : Nat)] w (ExQ w o bp T sl s (parN T (n + 1) 3 room [] s)) := by
  have E := @par3 T s n room
  obtain ⟨R, HR⟩ : ∃ R, Hid (parN T (n + 1) 3 room [] s = R) := ⟨_, rfl⟩
  rw [HR.out] at hx E ⊢
  have hb0 := g.r.cells.1
  by_cases h0 : room = 0
  · subst h0
    rw [if_pos rfl] at E
    obtain ⟨y, hy⟩ : ∃ y, failP T s 16 = .inl y := ⟨_, rfl⟩
    have HF : Hid (Calls Tryz.prog 62 #[.pointer (some ⟨bp, 0, none⟩), .int .i64 16] w fun e w' => e = .returned (.tuple #[]) ∧ PErr w' o bp y.1 y.2 ∧ Stp (fun l => l = 1043) w o w' o) := g.r.fail hy
    have HE : Hid (R = .inl y) := E.trans hy
    clear g E hy hx HR C
    go_enter Tryz.func162, Tryz.ntmps162
    go_wp2_with fail
    refine HF.out.mono ?_
    rintro e1 w1 ⟨rfl, q1, q2⟩
    have HQ1 : Hid (PErr w1 o bp y.1 y.2) := q1
    have HQ2 : Hid (Stp (fun l => l = 1043) w o w1 o) := q2
    clear q1 q2
    go_wp2_with fail
    go_ret
    exact ⟨HQ2.out, .inl ⟨y, HE.out, rfl, HQ1.out⟩⟩
  · rw [if_neg h0] at E
    have r1 : 1 ≤ room := by omega
    have hle : decide ((room : Int) ≤ 0) = false := by simp; omega
    have hx2 : parN T n 5 room [] s ≠ x99 := PB_ne (by rw [← E]; exact hx)
    have PR5 : Hid (Calls Tryz.prog 227 #[.pointer (some ⟨bp, 0, none⟩), .int .i64 (room : Int)] w (ExQ w o bp T sl s (parN T n 5 room [] s))) := (C n (Nat.le_refl _)).c5 g r1 hr hx2
    have HE : Hid (R = PBd (parN T n 5 room [] s) (fun v s => parN T n 4 room [v.getD 0 0] s)) := E
    have HX : Hid (R ≠ x99) := hx
    have HG : Hid (PGd w o bp T sl s) := g
    have HC : Hid (∀ m, m ≤ n → PCs T m) := C
    clear g C E hx HR hx2
    go_enter Tryz.func162, Tryz.ntmps162
    go_wp2_with fail
    refine PR5.out.mono ?_
    rintro e1 w1 ⟨q1, q2⟩
    have START : ∃ v5, e1 = .returned v5 ∧ Hid (PoI w o bp T sl s n room R n v5 w1) := by
      rcases q2 with ⟨y, hy, rfl, hpe⟩ | ⟨v, s2, tt, b, hy, rfl, X⟩
      · exact ⟨_, rfl, .inl ⟨rfl, y, by rw [HE.out, hy]; rfl, hpe, q1⟩⟩
      · exact ⟨_, rfl, .inr ⟨_, s2, tt, b, rfl, by rw [HE.out, hy]; rfl, Nat.le_refl _, q1, X⟩⟩
    obtain ⟨v5, rfl, HS⟩ := START
    clear q1 q2 PR5 HE
    go_wp2_with fail
    go_loopg [5] n (fun m v5 w1 => Hid (PoI w o bp T sl s n room R m v5 w1))
    case atStart => exact HS
    case round =>
      rcases hrel.out with ⟨rfl, y, hy, hpe, hst⟩ | ⟨a, s1, t1, b1, rfl, hp, hm, hst, X⟩
      · have HY : Hid (R = .inl y) := hy
        have HPE : Hid (PErr wr o bp y.1 y.2) := hpe
        have HST : Hid (Stp (fun l => l = 1043) w o wr o) := hst
        clear hrel hy hpe hst HS
        go_wp2_with fail
        go_ret
        exact ⟨HST.out, .inl ⟨y, HY.out, rfl, HPE.out⟩⟩
      · obtain ⟨m', rfl⟩ : ∃ m', gk = m' + 1 := by
          cases gk with
          | zero => exact absurd hp.symm HX.out
          | succ m' => exact ⟨m', rfl⟩
        rw [par4] at hp
        obtain ⟨hb, c2, c3, c4, c5, c6⟩ := X.r.cells
        have hnew := X.r.new
        have HST : Hid (Stp (fun l => l = 1043) w o wr o) := hst
        have HX1 : Hid (ExS w o bp T sl s s1 a wr (.iface t1 (.pointer (some ⟨b1, 0, none⟩)))) := X
        have HP : Hid (_ = R) := hp
        have HGR : Hid (PGd wr o bp T sl s1) := HG.out.st hst X.r X.f.ok
        have hsz := hst.fr.size
        have NX : (curT T s1).k ≠ 0 → (curT T s1).k ≠ 1 → Hid (∀ ob, Calls Tryz.prog 155 #[.pointer (some ⟨bp, 0, none⟩)] (wr.alloc ob) fun e w' => e = .returned (.tuple #[]) ∧ PRep w' o bp T sl s1.nxt ∧ Stp (fun l => l = 1043) (wr.alloc ob) o w' o) := fun h1 h2 ob => (HGR.out.r.alloc ob).next HG.out.g h1 h2
        clear hrel hst HS X hp
        by_cases k46 : (curT T s1).k = 46
        · rw [if_pos k46] at HP
          replace NX := NX (by omega) (by omega)
          rw [k46] at c2
          have hnm : ∀ w5, PRep w5 o bp T sl s1.nxt → Hid ((∃ y, R = .inl y ∧ Calls Tryz.prog 222 #[.pointer (some ⟨bp, 0, none⟩), .int .i64 0] w5 fun e w' => e = .returned (.pointer none) ∧ PErr w' o bp y.1 y.2 ∧ Stp (fun l => l = 1043) w5 o w' o) ∨ (R = parN T m' 4 room [s1.nxt.nxt.nodes.length + 1] ((s1.nxt.nxt.add ⟨16, 0, 0, 0, 0, 0, (curT T s1.nxt).s, (curT T s1.nxt).p⟩).add ⟨18, a, s1.nxt.nxt.nodes.length, 0, 0, 0, [], (curT T s1).p⟩) ∧ Calls Tryz.prog 222 #[.pointer (some ⟨bp, 0, none⟩), .int .i64 0] w5 fun e w' => ∃ b, e = .returned (.pointer (some ⟨b, 0, none⟩)) ∧ w5.heap.size ≤ b ∧ Has w' b #[.int .i64 (curT T s1.nxt).p, sv (curT T s1.nxt).s] 357 ∧ PRep w' o bp T sl s1.nxt.nxt ∧ Stp (fun l => l = 1043) w5 o w' o)) := by
            intro w5 h5
            have al : s1.nxt.alive ≤ 12 := HGR.out.k.al
            have hp := HP.out
            unfold nameP at hp
            by_cases hk2 : (curT T s1.nxt).k = 2
            · rw [if_neg (by omega), if_neg (by omega)] at hp
              exact .inr ⟨hp.symm, h5.name_yes (x := 0) HG.out.g (by omega) hk2 (by omega) al⟩
            · rw [if_pos hk2] at hp
              obtain ⟨y, hy⟩ : ∃ y, failP T s1.nxt 15 = .inl y := ⟨_, rfl⟩
              exact .inl ⟨y, by rw [← hp, hy], h5.name_no (x := 0) (by omega) al (.inl ⟨hk2, hy⟩)⟩
          have HNM : Hid (∀ w5, PRep w5 o bp T sl s1.nxt → _) := hnm
          clear hnm HP
          generalize curT T s1 = t at *
          clear k46
          go_wp2_with fail
          refine (NX.out _).mono ?_
          rintro e9 w4 ⟨rfl, q1, q2⟩
          have HD : Hid (Has w4 wr.heap.size #[.int .i64 46, .int .i64 t.p, sv t.s, .int .u64 t.n, .int .i64 t.e] 132) := q2.has (Has.new wr _ 132) (by rw [hnew]; omega)
          have HQ4 : Hid (Stp (fun l => l = 1043) wr o w4 o) := (Stp.fresh _ o ((Fr.refl _ _).alloc _)).trans q2
          have NMX := HNM.out w4 q1
          have hb4 := q1.cells.1
          clear q1 q2 HNM
          rcases NMX.out with ⟨y, hy, NM⟩ | ⟨hy, NM⟩
          · have HY : Hid (R = .inl y) := hy
            clear hy NMX
            go_wp2_with fail
            refine NM.mono ?_
            rintro e10 w5 ⟨rfl, q3, q4⟩
            have HPE : Hid (PErr w5 o bp y.1 y.2) := q3
            have HQ5 : Hid (Stp (fun l => l = 1043) w4 o w5 o) := q4
            clear q3 q4 NM
            go_wp2_with fail
            go_ret
            exact ⟨HST.out.trans (HQ4.out.trans HQ5.out), .inl ⟨y, HY.out, rfl, HPE.out⟩⟩
          · have HY : Hid (R = _) := hy
            clear hy NMX
            go_wp2_with fail
            refine NM.mono ?_
            rintro e10 w5 ⟨nb, rfl, hnb, hN, q3, q4⟩
            have HN : Hid (Has w5 nb #[.int .i64 (curT T s1.nxt).p, sv (curT T s1.nxt).s] 357) := hN
            have HD5 : Hid (Has w5 wr.heap.size #[.int .i64 46, .int .i64 t.p, sv t.s, .int .u64 t.n, .int .i64 t.e] 132) := q4.has HD.out (by rw [hnew]; omega)
            have HQ5 : Hid (Stp (fun l => l = 1043) w4 o w5 o) := q4
            have HR5 : Hid (PRep w5 o bp T sl s1.nxt.nxt) := q3
            have hl1 := hN.lt
            have hl2 := HD5.out.lt
            generalize curT T s1.nxt = tn at *
            have g1 : ∀ z : WS w5, z.y.cell? ⟨wr.heap.size, 1, none⟩ = some (.int .i64 t.p) := fun z => z.f.cell (by rw [HD5.out.cell 1]; rfl)
            have g2 : ∀ z : WS w5, z.y.cell? ⟨nb, 0, none⟩ = some (.int .i64 tn.p) := fun z => z.f.cell (by rw [HN.out.cell 0]; rfl)
            have g3 : ∀ z : WS w5, z.y.cell? ⟨nb, 1, none⟩ = some (sv tn.s) := fun z => z.f.cell (by rw [HN.out.cell 1]; rfl)
            have HNE : Nonempty (WS w5) := WS.non _
            clear q3 q4 NM HD hN
            go_wp2_with fail
            refine wp_region_plan [0, 1, 2, 3, 4, 5, 6, 7, 8, 9, 10, 11] .done 12 (fun x => ∃ z : WS w5, x = z.y) (by kernel_rfl) (by kernel_rfl) (fun _ _ _ _ _ h => h) ⟨⟨_, (Fr.refl _ _).drew⟩, rfl⟩ [_, _, _, _, _, _, _, _, _, _, _, _] rfl _ rfl ?_
            simp only [List.getElem_toArray, List.getElem_cons_succ, List.getElem_cons_zero, List.drop_succ_cons, List.drop_zero, List.length_cons, List.length_nil, Nat.zero_add]
            repeat go_big_quiet_step (fail)
            refine wpQuiet_nil ?_
            clear g1 g2 g3
            obtain ⟨wd, HWD⟩ : ∃ wd, Hid (w5.drew = wd) := ⟨_, rfl⟩
            rw [HWD.out]
            refine ⟨fun a' a Wz => a = a' ∧ Wz = wd, ?_, fun G HG' => ?_⟩
            · rintro a9 Wz hSW ⟨rfl, hWz⟩
              rw [hWz]
              clear hSW hWz Wz
              have S0 : Hid (Fr (fun _ => False) w5 wd) := by
                show Fr _ _ _
                rw [← HWD.out]
                exact (Fr.refl _ _).drew
              have S1 : Hid (∀ ob, Fr (fun _ => False) w5 (wd.alloc ob)) := fun ob => S0.out.alloc ob
              have S2 : Hid (∀ ob ob2, Fr (fun _ => False) w5 ((wd.alloc ob).alloc ob2)) := fun ob ob2 => (S0.out.alloc ob).alloc ob2
              unfold wpChain
              go_wp2
              refine ⟨⟨⟨_, S1.out _⟩, rfl⟩, ?_⟩
              unfold wpChain
              go_wp2
              refine ⟨⟨⟨_, S1.out _⟩, rfl⟩, ?_⟩
              unfold wpChain
              go_wp2
              refine ⟨⟨⟨_, S1.out _⟩, rfl⟩, ?_⟩
              unfold wpChain
              go_wp2
              refine ⟨⟨⟨_, S2.out _ _⟩, rfl⟩, ?_⟩
              unfold wpChain
              go_wp2
              refine ⟨⟨⟨_, S2.out _ _⟩, rfl⟩, ?_⟩
              unfold wpChain
              go_wp2
              refine ⟨⟨⟨_, S2.out _ _⟩, rfl⟩, ?_⟩
              rw [wpChain_zero]
              go_wp2_with fail
              go_roundg m'
              case measure => omega
              case rel =>
                have e5 : Stp (fun l => l = 1043) w5 o wd o := Stp.fresh _ o S0.out
                have q5 := HQ5.out.trans e5
                have al2 : Alike s1 s1.nxt.nxt := (Alike.nxt s1).tr (Alike.nxt s1.nxt)
                have Y := leaf_fin (d := ⟨16, 0, 0, 0, 0, 0, tn.s, tn.p⟩) (s := s1) (w := w4) q5 (HQ4.out.hi (HST.out.hi HG.out.r.ow)) (HR5.out.st (Q := fun _ => False) (Stp.fresh _ o S0.out) (fun x => x) (fun x => x)) HGR.out.k al2 rfl .str
                have Z := two_fin (d := ⟨18, a, s1.nxt.nxt.nodes.length, 0, 0, 0, [], t.p⟩) HST.out HQ4.out (q5.alloc _) HG.out.r.ow HX1.out Y (Alike.refl _) rfl .index
                rw [show (wd.alloc (.cells #[.int .i64 tn.p, sv tn.s] 383)).heap.size = wd.heap.size + 1 by simp, add_len] at Z
                exact .inr ⟨_, _, _, _, rfl, HY.out.symm, by omega, ((HST.out.trans (HQ4.out.trans q5)).alloc _).alloc _, Z⟩
            · show G _ _
              rw [HG'.out]
              exact ⟨rfl, rfl⟩
        rw [if_neg k46] at HP
        by_cases k43 : (curT T s1).k = 43
        · rw [if_pos k43] at HP
          replace NX := NX (by omega) (by omega)
          rw [k43] at c2
          have hx9 : parN T m' 0 (room - 1) [1] s1.nxt ≠ x99 := PB_ne (by rw [HP.out]; exact HX.out)
          have hrm : ((room - 1 : Nat) : Int) = (room : Int) - 1 := by omega
          have EXC : Hid (∀ w4, PGd w4 o bp T sl s1.nxt → Calls Tryz.prog 159 #[.pointer (some ⟨bp, 0, none⟩), .int .i64 ((room : Int) - 1), .int .i64 1] w4 (ExQ w4 o bp T sl s1.nxt (parN T m' 0 (room - 1) [1] s1.nxt))) := fun w4 g4 => by
            have := (HC.out m' (by omega)).c0 (x := 1) g4 (by omega) (by omega) (by omega) hx9
            rw [hrm] at this
            exact this
          generalize curT T s1 = t at *
          clear k46 k43 hx9
          go_wp2_with fail
          refine (NX.out _).mono ?_
          rintro e9 w4 ⟨rfl, q1, q2⟩
          have HD : Hid (Has w4 wr.heap.size #[.int .i64 43, .int .i64 t.p, sv t.s, .int .u64 t.n, .int .i64 t.e] 132) := q2.has (Has.new wr _ 132) (by rw [hnew]; omega)
          have HQ4 : Hid (Stp (fun l => l = 1043) wr o w4 o) := (Stp.fresh _ o ((Fr.refl _ _).alloc _)).trans q2
          have HG4 : Hid (PGd w4 o bp T sl s1.nxt) := HGR.out.st HQ4.out q1 ((Alike.nxt s1).sok HGR.out.k)
          clear q1 q2
          go_wp2_with fail
          refine (EXC.out _ HG4.out).mono ?_
          rintro e10 w5 ⟨q5, q6⟩
          have HD5 : Hid (Has w5 wr.heap.size #[.int .i64 43, .int .i64 t.p, sv t.s, .int .u64 t.n, .int .i64 t.e] 132) := q5.has HD.out (by rw [hnew]; omega)
          have HQ5 : Hid (Stp (fun l => l = 1043) w4 o w5 o) := q5
          clear q5 EXC HD
          rcases q6 with ⟨y, hy, rfl, hpe⟩ | ⟨u, s5, t5, b5, hy, rfl, Y⟩
          · have HPE : Hid (PErr w5 o bp y.1 y.2) := hpe
            have HE5 : Hid (R = .inl y) := by
              show R = _
              rw [← HP.out, hy]; rfl
            clear hpe hy
            go_wp2_with fail
            go_ret
            exact ⟨HST.out.trans (HQ4.out.trans HQ5.out), .inl ⟨y, HE5.out, rfl, HPE.out⟩⟩
          · have HY : Hid (ExS w4 o bp T sl s1.nxt s5 (u.getD 0 0) w5 (.iface t5 (.pointer (some ⟨b5, 0, none⟩)))) := Y
            have HE5 : Hid (expectP T s5 44 (fun s2 => parN T m' 4 room [s2.nodes.length] (s2.add ⟨18, a, u.getD 0 0, 0, 0, 0, [], t.p⟩)) = R) := by
              show _ = R
              rw [← HP.out, hy]; rfl
            clear Y hy
            by_cases h44 : (curT T s5).k = 44
            · have HE6 : Hid (parN T m' 4 room [s5.nxt.nodes.length] (s5.nxt.add ⟨18, a, u.getD 0 0, 0, 0, 0, [], t.p⟩) = R) := by
                have := HE5.out
                unfold expectP at this
                rw [if_pos h44] at this
                exact this
              have XP := HY.out.r.expect_yes HG.out.g h44 (by decide) (by decide)
              clear HE5
              go_wp2_with fail
              refine XP.mono ?_
              rintro e11 w6 ⟨rfl, q7, q8⟩
              have d1 := (q8.has HD5.out (by rw [hnew]; omega)).cell 1
              have dl := (q8.has HD5.out (by rw [hnew]; omega)).lt
              simp only [List.getElem?_toArray, List.getElem?_cons_succ, List.getElem?_cons_zero] at d1
              have HQ6 : Hid (Stp (fun l => l = 1043) w5 o w6 o) := q8
              have HR6 : Hid (PRep w6 o bp T sl s5.nxt) := q7
              clear q7 q8 XP
              go_wp2_with fail
              go_roundg m'
              case measure => omega
              case rel =>
                have Y := HY.out.stp HQ5.out HQ6.out (HQ4.out.hi (HST.out.hi HG.out.r.ow)) HR6.out (Alike.nxt s5)
                have Z := two_fin (d := ⟨18, a, u.getD 0 0, 0, 0, 0, [], t.p⟩) HST.out HQ4.out (HQ5.out.trans HQ6.out) HG.out.r.ow HX1.out Y (Alike.nxt s1) rfl .index
                exact .inr ⟨_, _, _, _, rfl, HE6.out, by omega, (HST.out.trans (HQ4.out.trans (HQ5.out.trans HQ6.out))).alloc _, Z⟩
            · obtain ⟨y, hy⟩ : ∃ y, failP T s5 15 = .inl y := ⟨_, rfl⟩
              have HE6 : Hid (R = .inl y) := by
                have := HE5.out
                unfold expectP at this
                rw [if_neg h44, hy] at this
                exact this.symm
              have XP := HY.out.r.expect_no h44 hy
              clear HE5
              go_wp2_with fail
              refine XP.mono ?_
              rintro e11 w6 ⟨rfl, q7, q8⟩
              have HQ6 : Hid (Stp (fun l => l = 1043) w5 o w6 o) := q8
              have HPE : Hid (PErr w6 o bp y.1 y.2) := q7
              clear q7 q8 XP
              go_wp2_with fail
              go_ret
              exact ⟨HST.out.trans (HQ4.out.trans (HQ5.out.trans HQ6.out)), .inl ⟨y, HE6.out, rfl, HPE.out⟩⟩
        rw [if_neg k43] at HP
        by_cases k39 : (curT T s1).k = 39
        · rw [if_pos k39] at HP
          replace NX := NX (by omega) (by omega)
          rw [k39] at c2
          have hx9 : parN T m' 6 (room - 1) [40, 4, 0, 0, 0] s1.nxt ≠ x99 := PB_ne (by rw [HP.out]; exact HX.out)
          have hrm : ((room - 1 : Nat) : Int) = (room : Int) - 1 := by omega
          have LIC : Hid (∀ w4, PGd w4 o bp T sl s1.nxt → Calls Tryz.prog 228 #[.pointer (some ⟨bp, 0, none⟩), .int .i64 ((room : Int) - 1), .int .i64 40, .int .i64 3] w4 (LsQ w4 o bp T sl s1.nxt (parN T m' 6 (room - 1) [40, 4, 0, 0, 0] s1.nxt))) := fun w4 g4 => by
            have := (HC.out m' (by omega)).c6 g4 (room := room - 1) (by omega) 40 4 (.inl ⟨rfl, rfl⟩) hx9
            rw [hrm] at this
            exact this
          generalize curT T s1 = t at *
          clear k46 k43 k39 hx9
          go_wp2_with fail
          refine (NX.out _).mono ?_
          rintro e9 w4 ⟨rfl, q1, q2⟩
          have HD : Hid (Has w4 wr.heap.size #[.int .i64 39, .int .i64 t.p, sv t.s, .int .u64 t.n, .int .i64 t.e] 132) := q2.has (Has.new wr _ 132) (by rw [hnew]; omega)
          have HQ4 : Hid (Stp (fun l => l = 1043) wr o w4 o) := (Stp.fresh _ o ((Fr.refl _ _).alloc _)).trans q2
          have HG4 : Hid (PGd w4 o bp T sl s1.nxt) := HGR.out.st HQ4.out q1 ((Alike.nxt s1).sok HGR.out.k)
          clear q1 q2
          go_wp2_with fail
          refine (LIC.out _ HG4.out).mono ?_
          rintro e10 w5 ⟨q5, q6⟩
          have d1 := (q5.has HD.out (by rw [hnew]; omega)).cell 1
          have dl := (q5.has HD.out (by rw [hnew]; omega)).lt
          simp only [List.getElem?_toArray, List.getElem?_cons_succ, List.getElem?_cons_zero] at d1
          have HQ5 : Hid (Stp (fun l => l = 1043) w4 o w5 o) := q5
          clear q5 LIC HD
          rcases q6 with ⟨y, hy, rfl, hpe⟩ | ⟨u, s5, sa, ln, cp, ms, m, hy, rfl, Y⟩
          · have HPE : Hid (PErr w5 o bp y.1 y.2) := hpe
            have HE5 : Hid (R = .inl y) := by
              show R = _
              rw [← HP.out, hy]; rfl
            clear hpe hy
            go_wp2_with fail
            go_ret
            exact ⟨HST.out.trans (HQ4.out.trans HQ5.out), .inl ⟨y, HE5.out, rfl, HPE.out⟩⟩
          · have HY : Hid (LsS w4 o bp T sl s1.nxt s5 (u.getD 0 0) w5 (.slice sa ln cp) ms m) := Y
            have HE5 : Hid (parN T m' 4 room [s5.nodes.length] (s5.add ⟨19, a, u.getD 0 0, 0, 0, 0, [], t.p⟩) = R) := by
              show _ = R
              rw [← HP.out, hy]; rfl
            clear Y hy
            go_wp2_with fail
            go_roundg m'
            case measure => omega
            case rel =>
              have Z := one_list_fin (d := ⟨19, a, u.getD 0 0, 0, 0, 0, [], t.p⟩) HST.out HQ4.out HQ5.out HG.out.r.ow HX1.out HY.out (Alike.nxt s1) rfl (.call HY.out.v)
              exact .inr ⟨_, _, _, _, rfl, HE5.out, by omega, (HST.out.trans (HQ4.out.trans HQ5.out)).alloc _, Z⟩
        rw [if_neg k39] at HP
        clear NX
        generalize curT T s1 = t at *
        have e1 : ((t.k : Int) == 46) = false := by simp; omega
        have e2 : ((t.k : Int) == 43) = false := by simp; omega
        have e3 : ((t.k : Int) == 39) = false := by simp; omega
        go_wp2_with fail
        go_ret
        exact ⟨HST.out.alloc _, .inr ⟨_, _, _, _, HP.out.symm, rfl, HX1.out.stp HST.out ((Stp.refl _ _ _).alloc _) HG.out.r.ow (HX1.out.r.alloc _) (Alike.refl _)⟩⟩
end
end Go.Proofs.Qxb6500574aGreatDoor
