/-
  THE WALK of table: places: the iterator over a table's list.
-/
import Derived.RangeFuncNested
import Derived.RangeFuncBound
import Derived.RangeFuncCalls
import Derived.RangeFuncLeaves
import Derived.Shelf.Abstract
import Derived.Shelf.RegionOpen
import Derived.OwnWalkIn
import Derived.TacticsInMore
import Derived.LoopNIn
import Derived.LoopIn
import Derived.Test.Qxb6500574aGreatDoorVGet
import Derived.Test.Qxb6500574aGreatDoorReg9
namespace Go.Proofs.Qxb6500574aGreatDoor
open Go Go.RowKit
set_option linter.unusedVariables false
set_option linter.unusedSimpArgs false
open Go.Shelf

attribute [local go_sem] Oper.semAt_some

/-- operations that enter nothing and defer nothing -/
def calmOp (o : Oper) : Bool := quietKind o || (match o.op with | .store _ _ _ => true | _ => false)
theorem calm_in {P : Program} {o : Oper} {a : Act} {w : World} {K : Act → World → Prop} {Q : Exit → Act → World → Prop} {l n : Nat} (hc : (match o.op with | .load _ _ | .fieldAddr _ _ _ | .store _ _ _ => true | _ => false) = true) (h : o.wp P a w K Q) : o.wpIn (Fence.wide.inRound l) n P a w K Q := by
  refine ⟨fun f _ => trivial, ?_⟩
  unfold Oper.wp at h
  have e : Oper.semAt (Fence.wide.inRound l).round a.eval o = execOp a.eval o := Oper.semAt_eq _ _ _ (fun c e => by rw [e] at hc; cases hc)
  rw [e]
  cases ho : o.op <;> rw [ho] at hc <;> first | cases hc | skip
  all_goals
    revert h
    simp only [execOp, ho, Sem.run_bind]
    generalize hr : Sem.run P _ w = r
    cases r with
    | ok v w' => exact fun h => h
    | halt x w' => cases x <;> exact fun h => h
theorem anyIn_of_any {P : Program} {ops : Array Oper} {Q : Exit → Act → World → Prop} {l n : Nat} (hq : ¬ LetsOut Q) (hc : ops.all (fun o => match o.op with | .load _ _ | .fieldAddr _ _ _ | .store _ _ _ => true | _ => false) = true) : ∀ (fuel : Nat) (listed : Array Bool) (a : Act) (w : World), wpAny P .any ops Q fuel listed a w → wpAnyIn (Fence.wide.inRound l) n P .any ops Q fuel listed a w
  | 0, _, _, _, h => h
  | fuel + 1, listed, a, w, h => by
    refine ⟨h.1, fun i hi => ?_⟩
    have hx := h.2 i hi
    unfold wpOp at hx
    unfold wpOpIn
    cases ho : ops[i]? with
    | none => rw [ho] at hx; exact anyIn_of_any hq hc fuel _ _ _ hx
    | some o =>
      rw [ho] at hx
      dsimp only at hx ⊢
      split
      · rename_i hw
        rw [if_pos hw] at hx
        rcases hx with hx | hx
        · refine calm_in ?_ (Oper.wp_mono (fun a' w' h' => anyIn_of_any hq hc fuel _ a' w' h') hx)
          have hm : o ∈ ops := Array.mem_of_getElem? ho
          exact Array.all_eq_true_iff_forall_mem.1 hc o hm
        · exact (hq hx.2).elim
      · rename_i hw
        rw [if_neg hw] at hx
        exact ⟨fun _ _ => trivial, anyIn_of_any hq hc fuel _ _ _ hx⟩
/-- the live places among d, from place p on -/
def liveL (o : List (Vl × Vl)) (p : Nat) : Nat → List (Nat × (Vl × Vl))
  | 0 => []
  | d + 1 => liveL o p d ++ (if isNilV (o.getD (p + d) (nilV, nilV)).2 then [] else [(p + d, o.getD (p + d) (nilV, nilV))])
theorem liveL_succ (o : List (Vl × Vl)) (p d : Nat) : liveL o p (d + 1) = liveL o p d ++ (if isNilV (o.getD (p + d) (nilV, nilV)).2 then [] else [(p + d, o.getD (p + d) (nilV, nilV))]) := rfl
theorem liveL_len (o : List (Vl × Vl)) (p : Nat) : ∀ d, (liveL o p d).length ≤ d
  | 0 => by simp [liveL]
  | d + 1 => by
    have := liveL_len o p d
    unfold liveL
    split
    · simp; omega
    · simp; omega
theorem liveL_next (o : List (Vl × Vl)) (p : Nat) : ∀ d, p + d ≤ o.length → liveL o p d = [] → (o.drop p).find? (fun e => !isNilV e.2) = (o.drop (p + d)).find? (fun e => !isNilV e.2)
  | 0, _, _ => rfl
  | d + 1, hd, h => by
    rw [liveL_succ] at h
    obtain ⟨h1, h2⟩ := List.append_eq_nil_iff.1 h
    have hd' : p + d < o.length := by omega
    rw [liveL_next o p d (by omega) h1, List.drop_eq_getElem_cons hd']
    have e : o.getD (p + d) (nilV, nilV) = o[p + d] := by simp [hd']
    rw [e] at h2
    split at h2
    · rename_i hn
      simp [hn, Nat.add_assoc]
    · cases h2
theorem nextP_none {t : TabD} {p : Nat} (h : liveL t.order p (t.order.length - p) = []) : t.nextP p = (nilV, nilV) := by
  unfold TabD.nextP
  by_cases hp : t.order.length ≤ p
  · rw [List.drop_eq_nil_of_le hp]; rfl
  · rw [liveL_next t.order p _ (by omega) h, List.drop_eq_nil_of_le (by omega)]; rfl
theorem nextP_some {t : TabD} {p d : Nat} (h : liveL t.order p d = []) (hd : p + d < t.order.length) (hn : isNilV (t.order.getD (p + d) (nilV, nilV)).2 = false) : t.nextP p = t.order.getD (p + d) (nilV, nilV) := by
  unfold TabD.nextP
  rw [liveL_next t.order p d (by omega) h, List.drop_eq_getElem_cons hd]
  have e : t.order.getD (p + d) (nilV, nilV) = t.order[p + d] := by simp [hd]
  rw [e] at hn ⊢
  rw [List.find?_cons_of_pos (by simp [hn])]
  rfl
abbrev encE (e : Vl × Vl) : Value := .agg #[.int .i64 e.1.t, .int .u64 e.1.n, sv e.1.s, .int .i64 e.2.t, .int .u64 e.2.n, sv e.2.s]
section
variable {n : Nat}
set_option maxRecDepth 100000
set_option maxHeartbeats 1000000
/-- the closure of places: the live places -/
theorem places1_in (hn : 1 ≤ n) (l B1 B2 B3 n₀ g h : Nat) (p : Nat) (o : List (Vl × Vl)) (a : Option Addr) (cap : Nat) (ho : o.length ≤ 32) (hp : p ≤ 1000) (hh : h ≤ 1000) (hg : g < n₀) (h1l : B1 < n₀) (h2l : B2 < n₀) (h3l : B3 < n₀) (J Jx : List (Nat × (Vl × Vl)) → World → Prop)
    (hY : ∀ pre x W, J pre W → pre.length < 33 → YieldAt Fence.wide (n - 1) Tryz.prog l #[.int .i64 (x.1 : Int), encE x.2] W fun e W' =>
      (e = .returned (.bool true) ∧ J (pre ++ [x]) W' ∧ Below n₀ W W') ∨ (e = .returned (.bool false) ∧ Jx (pre ++ [x]) W'))
    (hAb : ∀ pre W W', J pre W → Fr (fun _ => False) W W' → J pre W')
    (W : World) (h1 : W.cell? ⟨B1, 0, none⟩ = some (.int .i64 p)) (h2 : W.cell? ⟨B2, 0, none⟩ = some (.pointer (some ⟨g, h * 6, none⟩))) (h3 : W.cell? ⟨B3, 0, none⟩ = some (.bool false))
    (hc : W.cell? ⟨g, h * 6, none⟩ = some (.slice a o.length cap)) (hW : n₀ ≤ W.heap.size) (hr : ∀ j, j < o.length → ∃ go, a = some ⟨go, 0, none⟩ ∧ go < n₀ ∧ ∀ d, d < 6 → W.cell? ⟨go, j * 6 + d, none⟩ = (eCells (o.getD j (nilV, nilV)))[d]?) (h0 : J [] W) :
    CallsIn Fence.wide n Tryz.prog 270 #[.func (.yield l) #[] #[], .pointer (some ⟨B1, 0, none⟩), .pointer (some ⟨B2, 0, none⟩), .pointer (some ⟨B3, 0, none⟩)] W fun e W' => (∃ v, e = .returned v) ∧
      ((∃ ys, ys = liveL o p (o.length - p) ∧ J ys W') ∨ (∃ pre, (∃ d, pre = liveL o p d ++ [(p + d, o.getD (p + d) (nilV, nilV))] ∧ p + d < o.length ∧ isNilV (o.getD (p + d) (nilV, nilV)).2 = false) ∧ Jx pre W')) := by
  refine callsIn_of_wp Tryz.func270 rfl trivial ?_ rfl
  simp only [Tryz.ntmps270, List.size_toArray, List.length_cons, List.length_nil, Nat.reduceAdd, Nat.reduceSub, Array.replicate_succ, Array.replicate_zero, List.push_toArray, List.append_toArray, List.nil_append, List.cons_append]
  gi_wp2
  gi_loopw [5, 6] (fun i t6 wr => ∃ d : Nat, p + d ≤ max p o.length ∧ i = .int .i64 ((p + d : Nat) : Int) ∧ J (liveL o p d) wr ∧ Below n₀ W wr)
    (fun i _ _ => 2000 - (intOf i).toNat)
  case atStart => exact ⟨0, by omega, rfl, h0, Below.refl _ _⟩
  case round =>
    obtain ⟨d, hd, rfl, hJs, hB⟩ := hrel
    have e1 : wr.cell? ⟨B2, 0, none⟩ = some (.pointer (some ⟨g, h * 6, none⟩)) := (hB.cell (p := ⟨B2, 0, none⟩) h2l).trans h2
    have e2 : wr.cell? ⟨B3, 0, none⟩ = some (.bool false) := (hB.cell (p := ⟨B3, 0, none⟩) h3l).trans h3
    have e3 : wr.cell? ⟨g, h * 6, none⟩ = some (.slice a o.length cap) := (hB.cell (p := ⟨g, h * 6, none⟩) hg).trans hc
    have hb2 : B2 < wr.heap.size := Nat.lt_of_lt_of_le h2l (Nat.le_trans hW hB.size)
    have hb3 : B3 < wr.heap.size := Nat.lt_of_lt_of_le h3l (Nat.le_trans hW hB.size)
    have hgl : g < wr.heap.size := Nat.lt_of_lt_of_le hg (Nat.le_trans hW hB.size)
    by_cases hlt : p + d < o.length
    · obtain ⟨go, ga, gl, gc⟩ := hr (p + d) hlt
      subst ga
      have hgol : go < wr.heap.size := Nat.lt_of_lt_of_le gl (Nat.le_trans hW hB.size)
      obtain ⟨⟨⟨kt, kn, ks⟩, ⟨vt, vn, vs⟩⟩, he⟩ : ∃ x, o.getD (p + d) (nilV, nilV) = x := ⟨_, rfl⟩
      have HJ : Hid (J (liveL o p d) wr) := hJs
      have HB : Hid (Below n₀ W wr) := hB
      rw [he] at gc
      have q0 := (hB.cell (p := ⟨go, (p + d) * 6 + 0, none⟩) gl).trans (gc 0 (by omega))
      have q1 := (hB.cell (p := ⟨go, (p + d) * 6 + 1, none⟩) gl).trans (gc 1 (by omega))
      have q2 := (hB.cell (p := ⟨go, (p + d) * 6 + 2, none⟩) gl).trans (gc 2 (by omega))
      have q3 := (hB.cell (p := ⟨go, (p + d) * 6 + 3, none⟩) gl).trans (gc 3 (by omega))
      have q4 := (hB.cell (p := ⟨go, (p + d) * 6 + 4, none⟩) gl).trans (gc 4 (by omega))
      have q5 := (hB.cell (p := ⟨go, (p + d) * 6 + 5, none⟩) gl).trans (gc 5 (by omega))
      simp only [eCells, vCells, List.cons_append, List.nil_append, List.getElem?_cons_succ, List.getElem?_cons_zero, Nat.add_zero] at q0 q1 q2 q3 q4 q5
      have HE : Hid (o.getD (p + d) (nilV, nilV) = (⟨kt, kn, ks⟩, ⟨vt, vn, vs⟩)) := he
      have HL : Hid (p + d < o.length) := hlt
      have HY : Hid (∀ W', J (liveL o p d) W' → YieldAt Fence.wide (n - 1) Tryz.prog l #[.int .i64 ((p + d : Nat) : Int), .agg #[.int .i64 kt, .int .u64 kn, sv ks, .int .i64 vt, .int .u64 vn, sv vs]] W' fun e W2 =>
        (e = .returned (.bool true) ∧ J (liveL o p d ++ [(p + d, (⟨kt, kn, ks⟩, ⟨vt, vn, vs⟩))]) W2 ∧ Below n₀ W' W2) ∨ (e = .returned (.bool false) ∧ Jx (liveL o p d ++ [(p + d, (⟨kt, kn, ks⟩, ⟨vt, vn, vs⟩))]) W2)) := fun W' hJ' => hY (liveL o p d) (p + d, (⟨kt, kn, ks⟩, ⟨vt, vn, vs⟩)) W' hJ' (by have := liveL_len o p d; omega)
      have HAB : Hid (∀ W', Fr (fun _ => False) wr W' → J (liveL o p d) W') := fun W' hf => hAb _ _ _ hJs hf
      have HSZ : Hid (n₀ ≤ wr.heap.size) := Nat.le_trans hW hB.size
      clear hJs hB gc hY hAb hr h1 h2 h3 hc he hW h2l h3l h1l h0
      have e5 : ((p + d : Nat) : Int).toNat = p + d := by omega
      obtain ⟨x, hx⟩ : ∃ x, p + d = x := ⟨_, rfl⟩
      have HX : Hid (p + d = x) := hx
      rw [hx] at q0 q1 q2 q3 q4 q5 HE HL hlt HY hd e5 ⊢
      clear hx
      gi_wp2
      refine ⟨trivial, ?_⟩
      refine (callsIn_wide.2 (isNil_any ⟨vt, vn, vs⟩)).mono ?_
      rintro e' w' ⟨rfl, f1⟩
      have HF : Hid (Fr (fun _ => False) wr w') := (((Fr.refl _ wr).alloc _).trans f1 (fun _ _ x => x))
      have k6 : Has w' wr.heap.size #[.int .i64 kt, .int .u64 kn, sv ks, .int .i64 vt, .int .u64 vn, sv vs] 259 := (Has.new wr _ _).fr f1 (fun x => x)
      clear f1 e1 e2 e3 q0 q1 q2 q3 q4 q5 hb2 hb3 hgl hgol
      obtain ⟨b, hb⟩ : ∃ b, isNilV ⟨vt, vn, vs⟩ = b := ⟨_, rfl⟩
      rw [hb]
      have HN : Hid (isNilV ⟨vt, vn, vs⟩ = b) := hb
      clear hb
      cases b with
      | true =>
        gi_wp2
        go_roundw
        case rel => exact ⟨d + 1, by have := HL.out; have := HX.out; omega, by have := HX.out; congr 1; omega, by
          have e : liveL o p (d + 1) = liveL o p d := by
            rw [liveL_succ, HX.out, HE.out, if_pos HN.out, List.append_nil]
          rw [e]
          exact HAB.out _ HF.out, HB.out.trans (HF.out.weaken (fun _ _ x => x.elim) |>.below HSZ.out)⟩
        case measure => have := HL.out; simp [intOf]; omega
      | false =>
        have c0 := k6.cell 0
        have c1 := k6.cell 1
        have c2 := k6.cell 2
        have c3 := k6.cell 3
        have c4 := k6.cell 4
        have c5 := k6.cell 5
        simp at c0 c1 c2 c3 c4 c5
        have cl := k6.lt
        obtain ⟨fn, tmps, assign, body, hy, hR⟩ := HY.out w' (HAB.out _ HF.out)
        gi_wp2
        refine hR.mono ?_
        rintro e' W3 (⟨rfl, hJ3, hk3⟩ | ⟨rfl, hJx3⟩)
        · have HJ3 : Hid (J (liveL o p d ++ [(x, (⟨kt, kn, ks⟩, ⟨vt, vn, vs⟩))]) W3) := hJ3
          have HK3 : Hid (Below n₀ w' W3) := hk3
          clear hJ3 hk3
          gi_wp2
          go_roundw
          case rel => exact ⟨d + 1, by have := HL.out; have := HX.out; omega, by have := HX.out; congr 1; omega, by
            have e : liveL o p (d + 1) = liveL o p d ++ [(x, (⟨kt, kn, ks⟩, ⟨vt, vn, vs⟩))] := by
              rw [liveL_succ, HX.out, HE.out, if_neg (by rw [HN.out]; exact Bool.false_ne_true)]
            rw [e]
            exact HJ3.out, (HB.out.trans (HF.out.weaken (fun _ _ x => x.elim) |>.below HSZ.out)).trans HK3.out⟩
          case measure => have := HL.out; simp [intOf]; omega
        · have HJ3 : Hid (Jx (liveL o p d ++ [(x, (⟨kt, kn, ks⟩, ⟨vt, vn, vs⟩))]) W3) := hJx3
          clear hJx3
          gi_wp2
          refine bodyPost_ret (results_none rfl _ _ _) rfl ?_
          exact ⟨⟨_, rfl⟩, .inr ⟨_, ⟨d, by rw [HX.out, HE.out], by rw [HX.out]; exact HL.out, by rw [HX.out, HE.out]; exact HN.out⟩, HJ3.out⟩⟩
    · have HJ : Hid (J (liveL o p d) wr) := hJs
      have HD : Hid (p + d ≤ max p o.length ∧ ¬ p + d < o.length) := ⟨hd, hlt⟩
      clear hJs hB hY hAb hr h1 h2 h3 hc hW h2l h3l h1l h0
      gi_wp2
      go_end0
      have e : liveL o p (o.length - p) = liveL o p d := by
        have := HD.out
        by_cases hd0 : d = 0
        · subst hd0; rw [show o.length - p = 0 by omega]
        · rw [show o.length - p = d by omega]
      exact ⟨⟨_, rfl⟩, .inl ⟨_, e.symm, HJ.out⟩⟩
end
end Go.Proofs.Qxb6500574aGreatDoor
