/-
  THE WALK of the parser layer: the parser: expr.
-/
import Derived.Test.Qxb6500574aGreatDoorWPa5
import Derived.Deep.LoopGhost
namespace Go.Proofs.Qxb6500574aGreatDoor
open Go Go.RowKit
set_option linter.unusedVariables false
set_option linter.unusedSimpArgs false
open Go.Lib
theorem EF.add {s s' : PSt} {v : Nat} (f : EF s s' v) {d : Nd} (hc : d.cut = d) : EF s (s'.add d) s'.nodes.length :=
  ⟨f.kp.trans (Kpt.add f.ok d), by rw [add_len], ⟨by rw [add_len]; omega, f.ok.fu, f.ok.al⟩, by have := f.kp.le; exact this, f.n1, add_next s' hc⟩
theorem EF.trans {s s1 s2 : PSt} {a b : Nat} (f : EF s s1 a) (g : EF s1 s2 b) : EF s s2 b := ⟨f.kp.trans g.kp, g.ve, g.ok, by have := f.kp.le; have := g.lt; omega, f.n1, g.nx⟩
section
set_option maxRecDepth 100000
set_option maxHeartbeats 2000000
variable {w : World} {o : Nat → Nat} {bp : Nat} {sl : Sl} {T : List Tok} {s : PSt} {n room : Nat}
theorem par0 {x : Nat} : parN T (n + 1) 0 room [x] s = PBd (parN T n 2 room [] s) (fun v s => parN T n 1 room [x, v.getD 0 0] s) := by
  conv => lhs; unfold parN
  simp (config := {decide := true}) only [if_true]
  rfl
theorem par1 {x a : Nat} : parN T (n + 1) 1 room [x, a] s = if (curT T s).k < 22 ∨ 36 < (curT T s).k then .inr ([a], s) else if (bindL.getD ((curT T s).k - 22) (0, 0, 0)).1 < x then .inr ([a], s) else PBd (if (bindL.getD ((curT T s).k - 22) (0, 0, 0)).1 = 4 then parN T n 0 (room - 1) [4] s.nxt else parN T n 0 room [(bindL.getD ((curT T s).k - 22) (0, 0, 0)).1 + 1] s.nxt) (fun v s' => parN T n 1 room [x, s'.nodes.length] (s'.add ⟨(bindL.getD ((curT T s).k - 22) (0, 0, 0)).2.1, a, v.getD 0 0, 0, 0, (bindL.getD ((curT T s).k - 22) (0, 0, 0)).2.2, [], (curT T s).p⟩)) := by
  conv => lhs; unfold parN
  simp (config := {decide := true}) only [if_true, if_false]
  rfl
theorem bind_ok : ∀ x ∈ bindL, 1 ≤ x.1 ∧ x.1 ≤ 6 ∧ (x.2.1 = 22 ∨ x.2.1 = 24 ∨ x.2.1 = 25) ∧ x.2.2 ≤ 20 := by decide
/-- a binary operator's node -/
theorem binary_fin {w1 w4 w5 : World} {s1 s5 : PSt} {a b kk op p : Nat} {V V5 : Value} (h1 : Stp (fun l => l = 1043) w o w1 o) (h4 : Stp (fun l => l = 1043) w1 o w4 o) (h5 : Stp (fun l => l = 1043) w4 o w5 o) (ow : Ow w o) (X : ExS w o bp T sl s s1 a w1 V) (Y : ExS w4 o bp T sl s1.nxt s5 b w5 V5) (hk : kk = 22 ∨ kk = 24 ∨ kk = 25) (ho : op ≤ 20) :
    ExS w o bp T sl s (s5.add ⟨kk, a, b, 0, 0, op, [], p⟩) s5.nodes.length (w5.alloc (.cells #[.int .i64 p, .int .i64 kk, .int .u64 op, V, V5] 379)) (.iface 377 (.pointer (some ⟨w5.heap.size, 0, none⟩))) := by
  have f1 := X.f
  have f5 := Y.f.nxt
  have v1 := f1.ve
  have v5 := f5.ve
  have l1 := f1.lt
  have l5 := f5.lt
  have z1 := h1.fr.size
  have z4 := h4.fr.size
  have z5 := h5.fr.size
  have st := h4.trans h5
  refine ExS.root (kids := [(s.nodes.length - 1, a, V), (a, b, V5)]) (ls := []) (m := []) (h1.trans st) ow Y.r ((f1.trans f5).add rfl) rfl (fun x hx => ?_) (fun L hL => by cases hL) (Mm.nil _ _) ?_
  · simp only [List.mem_cons, List.not_mem_nil, or_false] at hx
    rcases hx with rfl | rfl
    · refine ⟨?_, Nat.le_refl _, by dsimp only; omega, .inl (by dsimp only; rw [f5.kp.old _ (by omega)]; exact f1.nx)⟩
      exact (X.t.stp st ow (Nat.le_refl _) (Nat.le_refl _) (Nat.le_refl _) (by omega)).grow (by omega) f5.kp.old
    · refine ⟨?_, by dsimp only; omega, by dsimp only; omega, .inl f5.nx⟩
      have := Y.t.wide (a' := w.heap.size) (b' := w5.heap.size) (by omega) (Nat.le_refl _)
      rw [show s1.nxt.nodes.length = s1.nodes.length from rfl, show s1.nodes.length - 1 = a by omega] at this
      exact this
  · rw [← v5]
    exact .binary hk ho
theorem expr_any {x : Nat} (C : ∀ m, m ≤ n → PCs T m) (g : PGd w o bp T sl s) (hr : room ≤ 12) (x1 : 1 ≤ x) (x7 : x ≤ 7) (hx : parN T (n + 1) 0 room [x] s ≠ x99) : Calls Tryz.prog 159 #[.pointer (some ⟨bp, 0, none⟩), .int .i64 (room : Nat), .int .i64 (x : Nat)] w (ExQ w o bp T sl s (parN T (n + 1) 0 room [x] s)) := by
  have E := @par0 T s n room x
  obtain ⟨R, HR⟩ : ∃ R, Hid (parN T (n + 1) 0 room [x] s = R) := ⟨_, rfl⟩
  rw [HR.out] at hx E ⊢
  have hx2 : parN T n 2 room [] s ≠ x99 := PB_ne (by rw [← E]; exact hx)
  have UN : Hid (Calls Tryz.prog 226 #[.pointer (some ⟨bp, 0, none⟩), .int .i64 (room : Int)] w (ExQ w o bp T sl s (parN T n 2 room [] s))) := (C n (Nat.le_refl _)).c2 g hr hx2
  have HR1 : Hid (∀ v s', parN T n 2 room [] s = .inr (v, s') → 1 ≤ room) := fun v s' h => ((PA.all g.g.tok n).p2 room [] s (v, s') g.k h hr).1
  have HE : Hid (R = PBd (parN T n 2 room [] s) (fun v s => parN T n 1 room [x, v.getD 0 0] s)) := E
  have HX : Hid (R ≠ x99) := hx
  have HG : Hid (PGd w o bp T sl s) := g
  have HC : Hid (∀ m, m ≤ n → PCs T m) := C
  have hb0 := g.r.cells.1
  clear g C E hx HR hx2
  go_enter Tryz.func159, Tryz.ntmps159
  go_wp2_with fail
  refine UN.out.mono ?_
  rintro e1 w1 ⟨q1, q2⟩
  have START : ∃ v7, e1 = .returned v7 ∧ Hid ((v7 = .nilIface ∧ ∃ y, R = .inl y ∧ PErr w1 o bp y.1 y.2 ∧ Stp (fun l => l = 1043) w o w1 o) ∨ (∃ a s1 t b, v7 = .iface t (.pointer (some ⟨b, 0, none⟩)) ∧ 1 ≤ room ∧ parN T n 1 room [x, a] s1 = R ∧ Stp (fun l => l = 1043) w o w1 o ∧ ExS w o bp T sl s s1 a w1 (.iface t (.pointer (some ⟨b, 0, none⟩))))) := by
    rcases q2 with ⟨y, hy, rfl, hpe⟩ | ⟨v, s2, tt, b, hy, rfl, X⟩
    · exact ⟨_, rfl, .inl ⟨rfl, y, by rw [HE.out, hy]; rfl, hpe, q1⟩⟩
    · exact ⟨_, rfl, .inr ⟨_, s2, tt, b, rfl, HR1.out _ _ hy, by rw [HE.out, hy]; rfl, q1, X⟩⟩
  obtain ⟨v7, rfl, HS⟩ := START
  clear q1 q2 UN HE HR1
  go_wp2_with fail
  go_loopg [7] n (fun m v7 w1 => Hid ((v7 = .nilIface ∧ ∃ y, R = .inl y ∧ PErr w1 o bp y.1 y.2 ∧ Stp (fun l => l = 1043) w o w1 o) ∨ (∃ a s1 t b, v7 = .iface t (.pointer (some ⟨b, 0, none⟩)) ∧ 1 ≤ room ∧ parN T m 1 room [x, a] s1 = R ∧ m ≤ n ∧ Stp (fun l => l = 1043) w o w1 o ∧ ExS w o bp T sl s s1 a w1 (.iface t (.pointer (some ⟨b, 0, none⟩))))))
  case atStart =>
    rcases HS.out with h | ⟨a, s1, t, b, h1, h2, h3, h4, h5⟩
    · exact .inl h
    · exact .inr ⟨a, s1, t, b, h1, h2, h3, Nat.le_refl _, h4, h5⟩
  case round =>
    rcases hrel.out with ⟨rfl, y, hy, hpe, hst⟩ | ⟨a, s1, t1, b1, rfl, r1, hp, hm, hst, X⟩
    · have HY : Hid (R = .inl y) := hy
      have HPE : Hid (PErr wr o bp y.1 y.2) := hpe
      have HST : Hid (Stp (fun l => l = 1043) w o wr o) := hst
      clear hrel hy hpe hst HS
      go_wp2_with fail
      go_ret
      exact ⟨HST.out, .inl ⟨y, HY.out, rfl, HPE.out⟩⟩
    · obtain ⟨m', rfl⟩ : ∃ m', gk = m' + 1 := by
        cases gk with
        | zero => exact absurd hp.symm HX.out
        | succ m' => exact ⟨m', rfl⟩
      rw [par1] at hp
      obtain ⟨hb, c2, c3, c4, c5, c6⟩ := X.r.cells
      have hnew := X.r.new
      have HST : Hid (Stp (fun l => l = 1043) w o wr o) := hst
      have HX1 : Hid (ExS w o bp T sl s s1 a wr (.iface t1 (.pointer (some ⟨b1, 0, none⟩)))) := X
      have HP : Hid (_ = R) := hp
      have HGR : Hid (PGd wr o bp T sl s1) := HG.out.st hst X.r X.f.ok
      have hsz := hst.fr.size
      clear hrel hst HS X hp
      by_cases hk : (curT T s1).k < 22 ∨ 36 < (curT T s1).k
      · rw [if_pos hk] at HP
        generalize curT T s1 = t at *
        by_cases hk1 : t.k < 22
        · have e1 : decide ((t.k : Int) < 22) = true := by simp; omega
          clear hk
          go_wp2_with fail
          go_ret
          have X := HX1.out
          refine ⟨HST.out.alloc _, .inr ⟨_, _, _, _, HP.out.symm, rfl, X.r.alloc _, X.f, ?_⟩⟩
          exact X.t.stp ((Stp.refl _ _ _).alloc _) HG.out.r.ow (Nat.le_refl _) (Nat.le_refl _) (Nat.le_refl _) (by simp)
        · have e1 : decide ((t.k : Int) < 22) = false := by simp; omega
          have e2 : decide ((36 : Int) < (t.k : Int)) = true := by simp; omega
          clear hk
          go_wp2_with fail
          go_ret
          have X := HX1.out
          refine ⟨HST.out.alloc _, .inr ⟨_, _, _, _, HP.out.symm, rfl, X.r.alloc _, X.f, ?_⟩⟩
          exact X.t.stp ((Stp.refl _ _ _).alloc _) HG.out.r.ow (Nat.le_refl _) (Nat.le_refl _) (Nat.le_refl _) (by simp)
      · rw [if_neg hk] at HP
        obtain ⟨i, hi⟩ : ∃ i, (curT T s1).k = i + 22 := ⟨(curT T s1).k - 22, by omega⟩
        have hi15 : i < 15 := by omega
        obtain ⟨tb, tj, tc, t1', t2', t3', _, _, t6'⟩ := HGR.out.b.ex
        obtain ⟨⟨rk, kk, op⟩, hbd⟩ : ∃ z, bindL[i]? = some z := ⟨bindL[i]'hi15, List.getElem?_eq_getElem hi15⟩
        obtain ⟨u1, u2, u3⟩ := t6' i _ hbd
        obtain ⟨v1, v2, v3, v4⟩ := bind_ok _ (List.mem_of_getElem? hbd)
        dsimp only at u1 u2 u3 v1 v2 v3 v4
        have hgd : bindL.getD ((curT T s1).k - 22) (0, 0, 0) = (rk, kk, op) := by
          rw [hi, Nat.add_sub_cancel, List.getD_eq_getElem?_getD, hbd]
          rfl
        rw [hgd] at HP
        dsimp only at HP
        have HK : Hid ((curT T s1).k = i + 22) := hi
        have c2' : wr.cell? ⟨bp, 2, none⟩ = some (.int .i64 ((i : Int) + 22)) := by
          rw [c2, hi]
          simp
        have NX : Hid (∀ ob ob2, Calls Tryz.prog 155 #[.pointer (some ⟨bp, 0, none⟩)] ((wr.alloc ob).alloc ob2) fun e w' => e = .returned (.tuple #[]) ∧ PRep w' o bp T sl s1.nxt ∧ Stp (fun l => l = 1043) ((wr.alloc ob).alloc ob2) o w' o) := fun ob ob2 => ((HGR.out.r.alloc ob).alloc ob2).next HG.out.g (by omega) (by omega)
        have hnew2 : o (wr.heap.size + 1) = 0 := HGR.out.r.ow _ (by omega)
        generalize curT T s1 = t at *
        clear c2 hk hi t6' hgd hbd
        have e1 : decide ((i : Int) + 22 < 22) = false := by simp; omega
        have e2 : decide ((36 : Int) < (i : Int) + 22) = false := by simp; omega
        by_cases hrk : rk < x
        · rw [if_pos hrk] at HP
          have e3 : decide ((rk : Int) < (x : Int)) = true := by simp; omega
          go_wp2_with fail
          go_ret
          have X := HX1.out
          refine ⟨(HST.out.alloc _).alloc _, .inr ⟨_, _, _, _, HP.out.symm, rfl, (X.r.alloc _).alloc _, X.f, ?_⟩⟩
          exact X.t.stp (((Stp.refl _ _ _).alloc _).alloc _) HG.out.r.ow (Nat.le_refl _) (Nat.le_refl _) (Nat.le_refl _) (by simp; omega)
        · rw [if_neg hrk] at HP
          have e3 : decide ((rk : Int) < (x : Int)) = false := by simp; omega
          go_wp2_with fail
          refine (NX.out _ _).mono ?_
          rintro e9 w4 ⟨rfl, q1, q2⟩
          have HD : Hid (Has w4 wr.heap.size #[.int .i64 ((i : Int) + 22), .int .i64 t.p, sv t.s, .int .u64 t.n, .int .i64 t.e] 132) := q2.has ((Has.new wr _ 132).alloc _) (by rw [hnew]; omega)
          have HB : Hid (Has w4 (wr.heap.size + 1) #[.int .i64 rk, .int .i64 kk, .int .u64 op] 375) := q2.has (by
            have := Has.new (wr.alloc (.cells #[.int .i64 ((i : Int) + 22), .int .i64 t.p, sv t.s, .int .u64 t.n, .int .i64 t.e] 132)) #[.int .i64 rk, .int .i64 kk, .int .u64 op] 375
            rw [show (wr.alloc (.cells #[.int .i64 ((i : Int) + 22), .int .i64 t.p, sv t.s, .int .u64 t.n, .int .i64 t.e] 132)).heap.size = wr.heap.size + 1 by simp] at this
            exact this) (by rw [hnew2]; omega)
          have z0 := HB.out.cell 0
          have dl4 := HB.out.lt
          simp only [List.getElem?_toArray, List.getElem?_cons_succ, List.getElem?_cons_zero] at z0
          have HQ4 : Hid (Stp (fun l => l = 1043) wr o w4 o) := ((Stp.fresh _ o (((Fr.refl _ _).alloc _).alloc _)).trans q2)
          have HG4 : Hid (PGd w4 o bp T sl s1.nxt) := HGR.out.st HQ4.out q1 ((Alike.nxt s1).sok HGR.out.k)
          clear q1 q2
          by_cases h4 : rk = 4
          · have e4 : ((rk : Int) == 4) = true := by simp; omega
            rw [if_pos h4] at HP
            have hx9 : parN T m' 0 (room - 1) [4] s1.nxt ≠ x99 := PB_ne (by rw [HP.out]; exact HX.out)
            have hrm : ((room - 1 : Nat) : Int) = (room : Int) - 1 := by omega
            have EXC := (HC.out m' (by omega)).c0 (x := 4) HG4.out (by omega) (by omega) (by omega) hx9
            rw [hrm] at EXC
            clear hx9 h4
            go_wp2_with fail
            refine EXC.mono ?_
            rintro e10 w5 ⟨q5, q6⟩
            have d5 := q5.has HD.out (by rw [hnew]; omega)
            have b5 := q5.has HB.out (by rw [hnew2]; omega)
            have x1' := d5.cell 1
            have y1' := b5.cell 1
            have y2' := b5.cell 2
            have dl5 := d5.lt
            have bl5 := b5.lt
            simp only [List.getElem?_toArray, List.getElem?_cons_succ, List.getElem?_cons_zero] at x1' y1' y2'
            have HQ5 : Hid (Stp (fun l => l = 1043) w4 o w5 o) := q5
            clear q5 d5 b5 EXC
            rcases q6 with ⟨y, hy, rfl, hpe⟩ | ⟨u, s5, t5, b5, hy, rfl, Y⟩
            · have HPE : Hid (PErr w5 o bp y.1 y.2) := hpe
              have HE5 : Hid (R = .inl y) := by
                show R = _
                rw [← HP.out, hy]; rfl
              clear hpe hy
              go_wp2_with fail
              go_ret
              exact ⟨HST.out.trans (HQ4.out.trans HQ5.out), .inl ⟨y, HE5.out, rfl, HPE.out⟩⟩
            · have HY : Hid (ExS w4 o bp T sl s1.nxt s5 (u.getD 0 0) w5 (.iface t5 (.pointer (some ⟨b5, 0, none⟩)))) := Y
              have HE5 : Hid (parN T m' 1 room [x, s5.nodes.length] (s5.add ⟨kk, a, u.getD 0 0, 0, 0, op, [], t.p⟩) = R) := by
                show _ = R
                rw [← HP.out, hy]; rfl
              clear Y hy
              go_wp2_with fail
              go_roundg m'
              case measure => omega
              case rel => exact .inr ⟨_, _, _, _, rfl, r1, HE5.out, by omega, (HST.out.trans (HQ4.out.trans HQ5.out)).alloc _, binary_fin HST.out HQ4.out HQ5.out HG.out.r.ow HX1.out HY.out v3 v4⟩
          · have e4 : ((rk : Int) == 4) = false := by simp; omega
            rw [if_neg h4] at HP
            have hx9 : parN T m' 0 room [rk + 1] s1.nxt ≠ x99 := PB_ne (by rw [HP.out]; exact HX.out)
            have EXC := (HC.out m' (by omega)).c0 (x := rk + 1) HG4.out hr (by omega) (by omega) hx9
            rw [show ((rk + 1 : Nat) : Int) = (rk : Int) + 1 by omega] at EXC
            clear hx9 h4
            go_wp2_with fail
            refine EXC.mono ?_
            rintro e10 w5 ⟨q5, q6⟩
            have d5 := q5.has HD.out (by rw [hnew]; omega)
            have b5 := q5.has HB.out (by rw [hnew2]; omega)
            have x1' := d5.cell 1
            have y1' := b5.cell 1
            have y2' := b5.cell 2
            have dl5 := d5.lt
            have bl5 := b5.lt
            simp only [List.getElem?_toArray, List.getElem?_cons_succ, List.getElem?_cons_zero] at x1' y1' y2'
            have HQ5 : Hid (Stp (fun l => l = 1043) w4 o w5 o) := q5
            clear q5 d5 b5 EXC
            rcases q6 with ⟨y, hy, rfl, hpe⟩ | ⟨u, s5, t5, b5, hy, rfl, Y⟩
            · have HPE : Hid (PErr w5 o bp y.1 y.2) := hpe
              have HE5 : Hid (R = .inl y) := by
                show R = _
                rw [← HP.out, hy]; rfl
              clear hpe hy
              go_wp2_with fail
              go_ret
              exact ⟨HST.out.trans (HQ4.out.trans HQ5.out), .inl ⟨y, HE5.out, rfl, HPE.out⟩⟩
            · have HY : Hid (ExS w4 o bp T sl s1.nxt s5 (u.getD 0 0) w5 (.iface t5 (.pointer (some ⟨b5, 0, none⟩)))) := Y
              have HE5 : Hid (parN T m' 1 room [x, s5.nodes.length] (s5.add ⟨kk, a, u.getD 0 0, 0, 0, op, [], t.p⟩) = R) := by
                show _ = R
                rw [← HP.out, hy]; rfl
              clear Y hy
              go_wp2_with fail
              go_roundg m'
              case measure => omega
              case rel => exact .inr ⟨_, _, _, _, rfl, r1, HE5.out, by omega, (HST.out.trans (HQ4.out.trans HQ5.out)).alloc _, binary_fin HST.out HQ4.out HQ5.out HG.out.r.ow HX1.out HY.out v3 v4⟩
end
end Go.Proofs.Qxb6500574aGreatDoor
