/-
  THE WALK of the parser layer: the parser: unary.
-/
import Derived.Test.Qxb6500574aGreatDoorWPa3
namespace Go.Proofs.Qxb6500574aGreatDoor
open Go Go.RowKit
set_option linter.unusedVariables false
set_option linter.unusedSimpArgs false
open Go.Lib
section
set_option maxRecDepth 100000
set_option maxHeartbeats 1000000
variable {w : World} {o : Nat → Nat} {bp : Nat} {sl : Sl} {T : List Tok} {s : PSt} {n room : Nat}
theorem par2 : parN T (n + 1) 2 room [] s = if room = 0 then failP T s 16 else if (curT T s).k = 32 ∨ (curT T s).k = 17 ∨ (curT T s).k = 37 then PBd (parN T n 2 (room - 1) [] s.nxt) (fun v s' => okP s' ⟨23, v.getD 0 0, 0, 0, 0, if (curT T s).k = 32 then 1 else if (curT T s).k = 17 then 2 else 3, [], (curT T s).p⟩) else parN T n 3 room [] s := by
  conv => lhs; unfold parN
  simp (config := {decide := true}) only [if_true, if_false]
/-- a fresh result -/
theorem Fz.new {w0 w : World} (ob : Obj) (h : w0.heap.size ≤ w.heap.size) : Fz w0.heap.size (w.alloc ob).heap.size w.heap.size := ⟨h, by simp⟩
theorem unary_fin {w1 w2 : World} {s1 s' : PSt} {R R2 : PR} {v : List Nat} {op p : Nat} {V : Value} (hR : R = PBd R2 (fun v s' => okP s' ⟨23, v.getD 0 0, 0, 0, 0, op, [], p⟩)) (hy : R2 = .inr (v, s')) (h2 : Stp (fun l => l = 1043) w o w1 o) (h3 : Stp (fun l => l = 1043) w o w2 o) (ow : Ow w o) (X : ExS w1 o bp T sl s1 s' (v.getD 0 0) w2 V) (hs1 : s1.nodes.length = s.nodes.length) (ho : op ≤ 20) (hf : ∀ v s', R = .inr (v, s') → EF s s' (v.getD 0 0)) :
    ExQ w o bp T sl s R (.returned (.iface 401 (.pointer (some ⟨w2.heap.size, 0, none⟩)))) (w2.alloc (.cells #[.int .i64 p, .int .u64 op, V] 403)) := by
  have HR2 : R = .inr ([s'.nodes.length], s'.add ⟨23, v.getD 0 0, 0, 0, 0, op, [], p⟩) := by rw [hR, hy]; rfl
  have hsz := h2.fr.size
  have hlt := X.f.lt
  have hve := X.f.ve
  refine ⟨h3.alloc _, .inr ⟨_, _, _, _, HR2, rfl, ExS.root h3 ow X.r (hf _ _ HR2) rfl (kids := [(s.nodes.length - 1, v.getD 0 0, V)]) (ls := []) (m := []) (fun x hx => ?_) (fun L hL => by cases hL) (Mm.nil _ _) ?_⟩⟩
  · rcases List.mem_singleton.1 hx with rfl
    refine ⟨?_, Nat.le_refl _, by dsimp only; omega, .inl X.f.nx⟩
    have := X.t.wide hsz (Nat.le_refl _)
    rw [hs1] at this
    exact this
  · rw [← hve]
    exact .unary ho
theorem unary_any (C : PCs T n) (g : PGd w o bp T sl s) (hr : room ≤ 12) (hx : parN T (n + 1) 2 room [] s ≠ x99) : Calls Tryz.prog 226 #[.pointer (some ⟨bp, 0, none⟩), .int .i64 (room : Nat)] w (ExQ w o bp T sl s (parN T (n + 1) 2 room [] s)) := by
  have E := @par2 T s n room
  obtain ⟨R, HR⟩ : ∃ R, Hid (parN T (n + 1) 2 room [] s = R) := ⟨_, rfl⟩
  rw [HR.out] at hx E ⊢
  obtain ⟨hb, c2, c3, c4, c5, c6⟩ := g.r.cells
  have hnew := g.r.new
  have hE : Hid (ExQ w o bp T sl s R = ExQ w o bp T sl s R) := rfl
  by_cases h0 : room = 0
  · subst h0
    rw [if_pos rfl] at E
    obtain ⟨y, hy⟩ : ∃ y, failP T s 16 = .inl y := ⟨_, rfl⟩
    have HF : Hid (Calls Tryz.prog 62 #[.pointer (some ⟨bp, 0, none⟩), .int .i64 16] w fun e w' => e = .returned (.tuple #[]) ∧ PErr w' o bp y.1 y.2 ∧ Stp (fun l => l = 1043) w o w' o) := g.r.fail hy
    have HE : Hid (R = .inl y) := E.trans hy
    clear g E hy hx HR
    go_enter Tryz.func226, Tryz.ntmps226
    go_wp2_with fail
    refine HF.out.mono ?_
    rintro e1 w1 ⟨rfl, q1, q2⟩
    have HQ1 : Hid (PErr w1 o bp y.1 y.2) := q1
    have HQ2 : Hid (Stp (fun l => l = 1043) w o w1 o) := q2
    clear q1 q2
    go_wp2_with fail
    go_ret
    exact ⟨HQ2.out, .inl ⟨y, HE.out, rfl, HQ1.out⟩⟩
  · rw [if_neg h0] at E
    have r1 : 1 ≤ room := by omega
    have hle : decide ((room : Int) ≤ 0) = false := by simp; omega
    by_cases hk : (curT T s).k = 32 ∨ (curT T s).k = 17 ∨ (curT T s).k = 37
    · rw [if_pos hk] at E
      have hx2 : parN T n 2 (room - 1) [] s.nxt ≠ x99 := PB_ne (by rw [← E]; exact hx)
      have sk : SOk s.nxt := (Alike.nxt s).sok g.k
      have NX : Hid (∀ ob, Calls Tryz.prog 155 #[.pointer (some ⟨bp, 0, none⟩)] (w.alloc ob) fun e w' => e = .returned (.tuple #[]) ∧ PRep w' o bp T sl s.nxt ∧ Stp (fun l => l = 1043) (w.alloc ob) o w' o) := fun ob => (g.r.alloc ob).next g.g (by omega) (by omega)
      have UN : Hid (∀ w1, PGd w1 o bp T sl s.nxt → Calls Tryz.prog 226 #[.pointer (some ⟨bp, 0, none⟩), .int .i64 ((room - 1 : Nat) : Int)] w1 (ExQ w1 o bp T sl s.nxt (parN T n 2 (room - 1) [] s.nxt))) := fun w1 g1 => C.c2 g1 (by omega) hx2
      have HG : Hid (PGd w o bp T sl s) := g
      have hrm : ((room - 1 : Nat) : Int) = (room : Int) - 1 := by omega
      rw [hrm] at UN
      generalize hp : parN T n 2 (room - 1) [] s.nxt = R2 at *
      have HEE : Hid (R = PBd R2 (fun v s' => okP s' ⟨23, v.getD 0 0, 0, 0, 0, if (curT T s).k = 32 then 1 else if (curT T s).k = 17 then 2 else 3, [], (curT T s).p⟩)) := E
      have hnn := g.k.n1
      have HF0 : Hid (∀ v s', parN T (n + 1) 2 room [] s = .inr (v, s') → EF s s' (v.getD 0 0)) := fun v s' h => EF.exp g.k ((PA.all g.g.tok (n + 1)).p2 room [] s (v, s') g.k h hr).2
      have hs1 : s.nxt.nodes.length = s.nodes.length := rfl
      generalize hq : s.nxt = s1 at *
      generalize ht : curT T s = t at *
      have hrm2 : (room : Int) ≤ 12 := by omega
      clear g C E hx hx2 hE hle
      have hle : decide ((room : Int) ≤ 0) = false := by simp; omega
      go_enter Tryz.func226, Tryz.ntmps226
      obtain ⟨op, HOP, hop⟩ : ∃ op : Nat, Hid ((if t.k = 32 then 1 else if t.k = 17 then 2 else 3) = op) ∧ op ≤ 20 := ⟨_, rfl, by split; omega; split <;> omega⟩
      rw [HOP.out] at HEE
      rcases hk with hk | hk | hk <;> rw [hk] at HOP c2 <;> have HOP := HOP.out <;> simp (config := {decide := true}) only [if_true, if_false] at HOP <;> subst HOP
      all_goals
        go_wp2_with fail
        refine (NX.out _).mono ?_
        rintro e1 w1 ⟨rfl, q1, q2⟩
        have d := q2.has (Has.new w _ 132) (by rw [hnew]; omega)
        have HD : Hid (Has w1 w.heap.size _ 132) := d
        have HQ2 : Hid (Stp (fun l => l = 1043) w o w1 o) := (Stp.fresh _ o ((Fr.refl _ _).alloc _)).trans q2
        have HG1 : Hid (PGd w1 o bp T sl s1) := HG.out.st HQ2.out q1 (by rw [← hq]; exact (Alike.nxt s).sok HG.out.k)
        clear q1 q2 d
        go_wp2_with fail
        refine (UN.out _ HG1.out).mono ?_
        rintro e2 w2 ⟨q3, q4⟩
        have d := q3.has HD.out (by rw [hnew]; omega)
        have d1 := d.cell 1
        have dl := d.lt
        simp only [List.getElem?_toArray, List.getElem?_cons_succ, List.getElem?_cons_zero] at d1
        have HQ3 : Hid (Stp (fun l => l = 1043) w o w2 o) := HQ2.out.trans q3
        clear q3 d
        rcases q4 with ⟨y, hy, rfl, hpe⟩ | ⟨v, s', tt, b, hy, rfl, X⟩
        · have HPE : Hid (PErr w2 o bp y.1 y.2) := hpe
          have HE : Hid (R = .inl y) := by
            show R = _
            rw [HEE.out, hy]; rfl
          clear hpe hy
          go_wp2_with fail
          go_ret
          exact ⟨HQ3.out, .inl ⟨y, HE.out, rfl, HPE.out⟩⟩
        · have HX : Hid (ExS w1 o bp T sl s1 s' (v.getD 0 0) w2 (.iface tt (.pointer (some ⟨b, 0, none⟩)))) := X
          have HY : Hid (R2 = .inr (v, s')) := hy
          clear X hy
          go_wp2_with fail
          go_ret
          exact unary_fin (op := _) (hR := HEE.out) (hy := HY.out) HQ2.out HQ3.out HG.out.r.ow HX.out hs1 hop (fun v s' h => HF0.out v s' (HR.out.trans h))
    · rw [if_neg hk] at E
      have PO : Hid (∀ ob, Calls Tryz.prog 162 #[.pointer (some ⟨bp, 0, none⟩), .int .i64 (room : Int)] (w.alloc ob) (ExQ (w.alloc ob) o bp T sl s R)) := fun ob => by
        show Calls _ _ _ _ _
        rw [E]
        exact C.c3 (g.alloc ob) hr (by rw [← E]; exact hx)
      generalize curT T s = t at *
      have k1 : ((t.k : Int) == 32) = false := by simp; omega
      have k2 : ((t.k : Int) == 17) = false := by simp; omega
      have k3 : ((t.k : Int) == 37) = false := by simp; omega
      clear g C E hx hE hk HR
      go_enter Tryz.func226, Tryz.ntmps226
      go_wp2_with fail
      refine (PO.out _).mono ?_
      rintro e1 w1 ⟨q1, q2⟩
      have HQ1 : Hid (Stp (fun l => l = 1043) w o w1 o) := (Stp.fresh _ o ((Fr.refl _ _).alloc _)).trans q1
      clear q1
      rcases q2 with ⟨y, hy, rfl, hpe⟩ | ⟨v, s', tt, b, hy, rfl, X⟩
      · have HPE : Hid (PErr w1 o bp y.1 y.2) := hpe
        have HE : Hid (R = .inl y) := hy
        clear hpe hy
        go_wp2_with fail
        go_ret
        exact ⟨HQ1.out, .inl ⟨y, HE.out, rfl, HPE.out⟩⟩
      · have HX : Hid (∀ ob, ExS (w.alloc ob) o bp T sl s s' (v.getD 0 0) w1 (.iface tt (.pointer (some ⟨b, 0, none⟩)))) := fun ob => by
          have e : ∀ ob' : Obj, (w.alloc ob').heap.size = w.heap.size + 1 := fun ob' => by simp
          refine ⟨X.r, X.f, ?_⟩
          rw [e]
          have := X.t
          rw [e] at this
          exact this
        have HY : Hid (R = .inr (v, s')) := hy
        clear X hy
        go_wp2_with fail
        go_ret
        refine ⟨HQ1.out, .inr ⟨_, _, _, _, HY.out, rfl, ?_⟩⟩
        have X := HX.out (.cells #[] 0)
        exact ⟨X.r, X.f, X.t.wide (by simp) (Nat.le_refl _)⟩
end
end Go.Proofs.Qxb6500574aGreatDoor
