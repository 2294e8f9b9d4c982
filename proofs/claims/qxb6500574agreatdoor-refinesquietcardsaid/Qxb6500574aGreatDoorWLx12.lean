/-
  THE WALK of the parser layer: scan: a rune's turn.
-/
import Derived.Test.Qxb6500574aGreatDoorWLx11
namespace Go.Proofs.Qxb6500574aGreatDoor
open Go Go.RowKit
set_option linter.unusedVariables false
set_option linter.unusedSimpArgs false
open Go.Lib
theorem enc_ascii (c : UInt8) (h : c.toNat < 128) : Value.string (Utf8.encode (c.toNat : Int)) = sv [c] := by
  have hv : Utf8.valid (c.toNat : Int) = true := by
    unfold Utf8.valid
    simp
    omega
  unfold Utf8.encode
  rw [hv]
  simp only [if_true, Int.toNat_natCast]
  rw [if_pos h]
  show Value.string ⟨#[UInt8.ofNat c.toNat]⟩ = _
  rw [UInt8.ofNat_toNat]
theorem sign_head : ∀ x ∈ signL, ∃ b r, x = b :: r ∧ b.toNat < 128 := by
  intro x hx
  simp only [signL, List.mem_cons, List.not_mem_nil, or_false] at hx
  rcases hx with h | h | h | h | h | h | h | h | h | h | h | h | h | h | h | h | h | h | h | h | h | h | h <;> subst h <;> exact ⟨_, _, rfl, by decide⟩
theorem enc_c {n : Nat} (h : 128 ≤ n) : ∃ m : Nat, (if Utf8.valid (n : Int) = true then (n : Int).toNat else Utf8.runeError) = m ∧ 128 ≤ m ∧ m ≤ 1114111 := by
  cases hv : Utf8.valid (n : Int)
  · exact ⟨Utf8.runeError, if_neg (by simp), by decide, by decide⟩
  · refine ⟨n, if_pos rfl, h, ?_⟩
    unfold Utf8.valid at hv
    simp at hv
    omega
theorem u8_big {x : Nat} (h : 128 ≤ x) (h2 : x < 256) : 128 ≤ (UInt8.ofNat x).toNat := by
  rw [UInt8.toNat_ofNat']
  omega
theorem enc_m {m : Nat} (h1 : 128 ≤ m) (h2 : m ≤ 1114111) : ∃ b r, (if m < 0x80 then (⟨#[UInt8.ofNat m]⟩ : ByteArray) else if m < 0x800 then ⟨#[UInt8.ofNat (0xC0 + m / 64), UInt8.ofNat (0x80 + m % 64)]⟩ else if m < 0x10000 then ⟨#[UInt8.ofNat (0xE0 + m / 4096), UInt8.ofNat (0x80 + m / 64 % 64), UInt8.ofNat (0x80 + m % 64)]⟩ else ⟨#[UInt8.ofNat (0xF0 + m / 262144), UInt8.ofNat (0x80 + m / 4096 % 64), UInt8.ofNat (0x80 + m / 64 % 64), UInt8.ofNat (0x80 + m % 64)]⟩).data.toList = b :: r ∧ 128 ≤ b.toNat := by
  rw [if_neg (by omega)]
  by_cases a1 : m < 2048
  · rw [if_pos a1]
    exact ⟨UInt8.ofNat (192 + m / 64), [UInt8.ofNat (128 + m % 64)], rfl, u8_big (by omega) (by omega)⟩
  · rw [if_neg a1]
    by_cases a2 : m < 65536
    · rw [if_pos a2]
      exact ⟨UInt8.ofNat (224 + m / 4096), [UInt8.ofNat (128 + m / 64 % 64), UInt8.ofNat (128 + m % 64)], rfl, u8_big (by omega) (by omega)⟩
    · rw [if_neg a2]
      exact ⟨UInt8.ofNat (240 + m / 262144), [UInt8.ofNat (128 + m / 4096 % 64), UInt8.ofNat (128 + m / 64 % 64), UInt8.ofNat (128 + m % 64)], rfl, u8_big (by omega) (by omega)⟩
set_option maxRecDepth 100000 in
theorem enc_key {n : Nat} (h : 128 ≤ n) : ∃ b r, (Utf8.encode (n : Int)).data.toList = b :: r ∧ 128 ≤ b.toNat := by
  obtain ⟨m, e, h1, h2⟩ := enc_c h
  unfold Utf8.encode
  dsimp only
  rw [e]
  exact enc_m h1 h2
set_option maxRecDepth 100000 in
theorem enc_high {n : Nat} (h : 128 ≤ n) : signN (Utf8.encode (n : Int)).data.toList = 1 := by
  obtain ⟨b, r, e, hb⟩ := enc_key h
  unfold signN
  rw [e, idx_none]
  intro j hj hj2
  obtain ⟨b', r', e', hb'⟩ := sign_head _ (List.mem_of_getElem? hj2)
  have := (List.cons.inj e').1
  subst this
  omega
section
set_option maxRecDepth 100000
set_option maxHeartbeats 2000000
variable {w : World}
/-- the head of a rune's turn -/
theorem scan_hd {Q : Exit → Act → World → Prop} {C : Code} {v0 v1 v4 v5 v6 v7 v8 v9 v10 v11 v21 : Value} {a : Act} (H : FrS v0 v1 v4 v5 v6 v7 v8 v9 v10 v11 v21 a) {i r : Nat} (e7 : v7 = .int .i64 i) (e8 : v8 = .int .i32 r) (hi : i ≤ 2048)
    (hC : ∀ a', FrS v0 v1 v4 v5 (.int .i64 ((i : Int) + 1)) v7 v8 (.pointer (some ⟨w.heap.size, 0, none⟩)) (.string (Utf8.encode (r : Int))) (.int .u8 61) v21 a' → C.wp Tryz.prog Q a' (w.alloc (.cells #[.int .i64 1, .int .i64 i, sv [], .int .u64 0, .int .i64 14] 132))) :
    (Code.seq (cdL (scanP7 Tryz.f60.body)) (Code.seq (cdL (cdR (scanP7 Tryz.f60.body))) (Code.seq (cdL (cdR (cdR (scanP7 Tryz.f60.body)))) (Code.seq (cdL (cdR (cdR (cdR (scanP7 Tryz.f60.body))))) C)))).wp Tryz.prog Q a w := by
  obtain ⟨u, rfl⟩ := H.form
  subst e7
  subst e8
  have HC : Hid (∀ a', FrS v0 v1 v4 v5 (.int .i64 ((i : Int) + 1)) (.int .i64 i) (.int .i32 r) (.pointer (some ⟨w.heap.size, 0, none⟩)) (.string (Utf8.encode (r : Int))) (.int .u8 61) v21 a' → C.wp Tryz.prog Q a' (w.alloc (.cells #[.int .i64 1, .int .i64 i, sv [], .int .u64 0, .int .i64 14] 132))) := hC
  clear hC H
  simp only [scanP7, scanL, cdR, cdL, cdIn, Tryz.f60, Option.getD_some]
  go_wp2_with fail
  exact HC.out _ ⟨by kernel_rfl, by kernel_rfl, by kernel_rfl, by kernel_rfl, by kernel_rfl, by kernel_rfl, by kernel_rfl, by kernel_rfl, by kernel_rfl, by kernel_rfl, by kernel_rfl, by kernel_rfl, rfl⟩
theorem p7_eq : scanP7 Tryz.f60.body = (Code.seq (cdL (scanP7 Tryz.f60.body)) (Code.seq (cdL (cdR (scanP7 Tryz.f60.body))) (Code.seq (cdL (cdR (cdR (scanP7 Tryz.f60.body)))) (Code.seq (cdL (cdR (cdR (cdR (scanP7 Tryz.f60.body))))) (Code.seq (scanSw Tryz.f60.body) (scanTl Tryz.f60.body)))))) := by kernel_rfl
variable {W0 wr : World} {o1 or : Nat → Nat} {s : Bs} {kL kI e f q' : Nat} {toks : List Tok} {sl : Sl}
/-- what a round is to come to -/
structure RQs (Q : Exit → Act → World → Prop) (W0 : World) (o1 : Nat → Nat) (s : Bs) (kL kI e : Nat) (v0 v1 v5 v21 : Value) : Prop where
  nx : ∀ a' w' or' q' e' f' toks' sl' y7 y8 y9 y10 y11, FrS v0 v1 (Sl.v sl' (List.length toks')) v5 (.int .i64 (e' : Nat)) y7 y8 y9 y10 y11 v21 a' → ScR W0 o1 s kL kI w' or' q' e' f' toks' sl' → e < q' → Q .normal a' w' ∧ Q (.exit 1) a' w'
  br : ∀ a' w' or' toks' sl' t y6 y7 y8 y9 y10 y11, FrS v0 v1 (Sl.v sl' (List.length toks')) v5 y6 y7 y8 y9 y10 y11 v21 a' → ScB W0 o1 s kL w' or' toks' sl' t → Q (.exit 0) a' w'
/-- the tail behind a good token -/
theorem tl_good {Q : Exit → Act → World → Prop} {v0 v1 v5 v7 v8 v10 v11 v21 : Value} {a : Act} {w4 : World} {k p nn e' f' : Nat} {er : Int} {tx : Bs} (R : RQs Q W0 o1 s kL kI e v0 v1 v5 v21) (h : ScR W0 o1 s kL kI wr or e e f toks sl) (hs : s.length ≤ 2048) (H : FrS v0 v1 (sl.v toks.length) v5 (.int .i64 (e' : Nat)) v7 v8 (.pointer (some ⟨wr.heap.size, 0, none⟩)) v10 v11 v21 a)
    (h4 : Fr (fun _ => False) (wr.iterAt kI ⟨s.toArray⟩ q') w4) (hk : k ≠ 1) (ht : Has w4 wr.heap.size #[.int .i64 k, .int .i64 p, sv tx, .int .u64 nn, .int .i64 er] 132)
    (hq : e < q') (el : e' ≤ s.length) (qe : q' ≤ e') (bd : Bd s e') (fu : s.length + 1 ≤ f' + e') (sc : scanP s = toks ++ [⟨k, p, tx, nn, 0⟩] ++ scanN f' e' (s.drop e')) : (scanTl Tryz.f60.body).wp Tryz.prog Q a w4 := by
  have s1 : Stp (fun l => l = 1045) wr or (wr.iterAt kI ⟨s.toArray⟩ q') or := iter_st (q := e) h.li q'
  have r1 := h.row.st s1 (by omega)
  have r2 : w4.ownsRow 0 132 5 (sl.v toks.length) toks.length (toks.flatMap tokC) := owns_fr r1.own h4 (fun _ _ x => x)
  have hne : (sl.v toks.length).ownBlock ≠ some wr.heap.size := fun x => by
    have := owns_lt h.row.own _ x
    omega
  have htl := h.tl
  have hel := h.el
  refine scan_tl_good H rfl hk ht rfl (by omega) r2 hne fun a' g cap w6 H' q1 q2 q3 q4 => ?_
  have hz4 : (wr.iterAt kI ⟨s.toArray⟩ q').heap.size ≤ w4.heap.size := h4.size
  rw [iterAt_size] at hz4
  have h5 : Fr (fun _ => False) (wr.iterAt kI ⟨s.toArray⟩ q') ((w4.setCell ⟨wr.heap.size, 4, none⟩ (.int .i64 0)).alloc (.cells (tokC ⟨k, p, tx, nn, 0⟩).toArray 132)) := (h4.setCell (p := ⟨wr.heap.size, 4, none⟩) (.inr (by rw [iterAt_size]; exact Nat.le_refl _)) _).alloc _
  have G := h.good (w4 := w4) (t := ⟨k, p, tx, nn, 0⟩) (f' := f') rfl h5 q1 q2 (by
    rcases q3 with q3 | q3
    · exact .inl q3
    · right; omega) q4 el qe bd fu sc (by omega)
  have H2 : FrS v0 v1 (Sl.v ⟨some ⟨g, 0, none⟩, cap⟩ (toks ++ [(⟨k, p, tx, nn, 0⟩ : Tok)]).length) v5 (.int .i64 (e' : Nat)) v7 v8 (.pointer (some ⟨wr.heap.size, 0, none⟩)) v10 v11 v21 a' := by
    rw [List.length_append]
    exact H'
  exact (R.nx _ _ _ _ _ _ _ _ _ _ _ _ _ H2 G hq).1
/-- the tail behind a bad token -/
theorem tl_bad {Q : Exit → Act → World → Prop} {v0 v1 v6 v7 v8 v10 v11 v21 : Value} {a : Act} {w4 : World} {p nn er : Nat} {tx : Bs} (R : RQs Q W0 o1 s kL kI e v0 v1 (.pointer (some ⟨kL, 0, none⟩)) v21) (h : ScR W0 o1 s kL kI wr or e e f toks sl) (H : FrS v0 v1 (sl.v toks.length) (.pointer (some ⟨kL, 0, none⟩)) v6 v7 v8 (.pointer (some ⟨wr.heap.size, 0, none⟩)) v10 v11 v21 a)
    (h4 : Fr (fun _ => False) (wr.iterAt kI ⟨s.toArray⟩ q') w4) (ht : Has w4 wr.heap.size #[.int .i64 1, .int .i64 p, sv tx, .int .u64 nn, .int .i64 er] 132) (sc : scanP s = toks ++ [⟨1, p, tx, nn, er⟩]) : (scanTl Tryz.f60.body).wp Tryz.prog Q a w4 := by
  obtain ⟨b1, b2⟩ := h.bad h4 sc
  refine scan_tl_bad (cs := (tokC (eofT s.length)).toArray) H rfl rfl ht b1 fun a' H' => ?_
  exact R.br _ _ _ _ _ _ _ _ _ _ _ _ H' b2
end
end Go.Proofs.Qxb6500574aGreatDoor
