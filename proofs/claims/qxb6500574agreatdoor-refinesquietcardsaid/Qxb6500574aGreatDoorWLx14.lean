/-
  THE WALK of the parser layer: scan: its rounds.
-/
import Derived.Test.Qxb6500574aGreatDoorWLx13
import Derived.Deep.LoopGhost
namespace Go.Proofs.Qxb6500574aGreatDoor
open Go Go.RowKit
set_option linter.unusedVariables false
set_option linter.unusedSimpArgs false
open Go.Lib
theorem u8_at (s : Bs) {e : Nat} {c : UInt8} (hc : s[e]? = some c) (hlt : e < (⟨s.toArray⟩ : ByteArray).size) : (⟨s.toArray⟩ : ByteArray)[e]'hlt = c := (List.getElem?_eq_some_iff.1 hc).2
/-- how wide a rune is -/
theorem decode_w (s : Bs) {q : Nat} (h : q < s.length) : 1 ≤ (Utf8.decode ⟨s.toArray⟩ q).2 ∧ q + (Utf8.decode ⟨s.toArray⟩ q).2 ≤ s.length := by
  have hsz : (⟨s.toArray⟩ : ByteArray).size = s.length := by simp [ByteArray.size]
  have hlt : q < (⟨s.toArray⟩ : ByteArray).size := by rw [hsz]; exact h
  have h1 : 1 ≤ (Utf8.decode ⟨s.toArray⟩ q).2 := by
    by_cases hb : ((⟨s.toArray⟩ : ByteArray)[q]'hlt).toNat < 128
    · rw [decode_ascii _ q hlt hb]
      exact Nat.le_refl _
    · exact (decode_high _ q hlt (by omega)).2
  refine ⟨h1, ?_⟩
  by_cases h2 : (Utf8.decode ⟨s.toArray⟩ q).2 = 1
  · omega
  · have := (decode_cont ⟨s.toArray⟩ q ((Utf8.decode ⟨s.toArray⟩ q).2 - 1) (by omega) (by omega)).1
    rw [hsz] at this
    omega
section
set_option maxRecDepth 100000
set_option maxHeartbeats 2000000
variable {W0 wr : World} {o1 or : Nat → Nat} {s : Bs} {kL kI sx e f : Nat} {toks : List Tok} {sl : Sl} {num v21 : Value} {a : Act} {Q : Exit → Act → World → Prop}
theorem t_all {q' r : Nat} (T : Trn Q W0 o1 s kL kI sx num v21 wr or e f q' r toks sl a) (he : Utf8.decode ⟨s.toArray⟩ e = (r, q' - e)) : (Code.seq (scanSw Tryz.f60.body) (scanTl Tryz.f60.body)).wp Tryz.prog Q a (w7 wr kI s e q') := by
  have hlt := T.hlt
  have hq := T.hq
  have hl2 : e < (⟨s.toArray⟩ : ByteArray).size := by simpa [ByteArray.size] using hlt
  obtain ⟨c, hc⟩ : ∃ c, s[e]? = some c := ⟨s[e], List.getElem?_eq_getElem hlt⟩
  by_cases hb : c.toNat < 128
  · rw [decode_ascii _ e hl2 (by rw [u8_at s hc]; exact hb), u8_at s hc] at he
    obtain ⟨e1, e2⟩ := Prod.mk.inj he
    have h1 : q' = e + 1 := by omega
    by_cases a1 : isWs c
    · exact t_ws T hc e1.symm h1 a1
    by_cases a2 : c = 45 ∧ s[e + 1]? = some 45
    · obtain ⟨a3, a4⟩ := a2
      subst a3
      exact t_com T hc e1.symm h1 a4
    cases a3 : isLet c
    · cases a4 : isDig c
      · by_cases a5 : c = 34
        · exact t_str T hc e1.symm h1 a1 a2 a3 a4 a5
        · by_cases a6 : isTwo c ∧ s[e + 1]? = some (twinN c)
          · exact t_two T hc e1.symm h1 a6.1 a6.2
          · exact t_one T hc e1.symm h1 hb a1 a2 a3 a4 a5 a6
      · exact t_num T hc e1.symm h1 a1 a2 a3 a4
    · exact t_word T hc e1.symm h1 a1 a2 a3
  · have h2 := (decode_high _ e hl2 (by rw [u8_at s hc]; omega)).1
    rw [he] at h2
    exact t_high T hc h2 (by omega)
/-- a rune's turn -/
theorem scan_p7 {q' r : Nat} {v6 v9 v10 v11 : Value} (hP : ∀ c a t v w, Q (.panic c) (a.put (some t) v) w → Q (.panic c) a w) (R : RQs Q W0 o1 s kL kI e (.pointer (some ⟨sx, 0, none⟩)) (sv s) (.pointer (some ⟨kL, 0, none⟩)) v21) (h : ScR W0 o1 s kL kI wr or e e f toks sl) (hs : s.length ≤ 2048) (hlt : e < s.length) (hq : e < q')
    (H : FrS (.pointer (some ⟨sx, 0, none⟩)) (sv s) (sl.v toks.length) (.pointer (some ⟨kL, 0, none⟩)) v6 (.int .i64 e) (.int .i32 r) v9 v10 v11 v21 a) (hsx : wr.cell? ⟨sx, 0, none⟩ = some num) (ho : or sx = 1040) (K : TabL wr or 1 keywordL) (G : TabL wr or 2 signL) (he : Utf8.decode ⟨s.toArray⟩ e = (r, q' - e)) :
    (scanP7 Tryz.f60.body).wp Tryz.prog Q a (wr.iterAt kI ⟨s.toArray⟩ q') := by
  rw [p7_eq]
  refine scan_hd H rfl rfl (by omega) fun a' H' => ?_
  rw [iterAt_size] at H'
  exact t_all ⟨hP, R, h, hs, hlt, hq, H', hsx, ho, K, G⟩ he
theorem rd_eq : scanL Tryz.f60.body = (Code.seq (cdL (scanL Tryz.f60.body)) (Code.seq (cdL (cdR (scanL Tryz.f60.body))) (Code.block 1 (Code.seq (cdL (cdIn (cdR (cdR (scanL Tryz.f60.body))))) (Code.seq (cdL (cdR (cdIn (cdR (cdR (scanL Tryz.f60.body)))))) (scanP7 Tryz.f60.body)))))) := by kernel_rfl
/-- a round's head, the iterator at its end -/
theorem sc_end {C : Code} {v0 v1 v4 v5 v6 v7 v8 v9 v10 v11 : Value} (H : FrS v0 v1 v4 v5 v6 v7 v8 v9 v10 v11 v21 a) (e21 : v21 = .pointer (some ⟨kI, 0, none⟩)) (hnx : ∀ ty, (Instr.next (.pointer (some ⟨kI, 0, none⟩)) true ty).run Tryz.prog wr = .ok (.tuple #[.bool false]) wr) (hQ : ∀ a', FrS v0 v1 v4 v5 v6 v7 v8 v9 v10 v11 v21 a' → Q (.exit 0) a' wr) :
    (Code.seq (cdL (scanL Tryz.f60.body)) (Code.seq (cdL (cdR (scanL Tryz.f60.body))) C)).wp Tryz.prog Q a wr := by
  obtain ⟨u, rfl⟩ := H.form
  subst e21
  have HQ : Hid (∀ a', FrS v0 v1 v4 v5 v6 v7 v8 v9 v10 v11 (.pointer (some ⟨kI, 0, none⟩)) a' → Q (.exit 0) a' wr) := hQ
  clear hQ H
  simp only [scanL, cdR, cdL, cdIn, Tryz.f60, Option.getD_some]
  go_wp2_with fail
  exact HQ.out _ ⟨by kernel_rfl, by kernel_rfl, by kernel_rfl, by kernel_rfl, by kernel_rfl, by kernel_rfl, by kernel_rfl, by kernel_rfl, by kernel_rfl, by kernel_rfl, by kernel_rfl, by kernel_rfl, rfl⟩
/-- a round's head, a rune that was passed -/
theorem rd_skip {C : Code} {w2 : World} {q r : Nat} {v0 v1 v4 v5 v6 v7 v8 v9 v10 v11 : Value} (H : FrS v0 v1 v4 v5 v6 v7 v8 v9 v10 v11 v21 a) (e21 : v21 = .pointer (some ⟨kI, 0, none⟩)) (e6 : v6 = .int .i64 (e : Nat)) (hqe : q < e) (hnx : ∀ ty, (Instr.next (.pointer (some ⟨kI, 0, none⟩)) true ty).run Tryz.prog wr = .ok (.tuple #[.bool true, .int .i64 q, .int .i32 r]) w2) (hQ : ∀ a', FrS v0 v1 v4 v5 v6 (.int .i64 q) (.int .i32 r) v9 v10 v11 v21 a' → Q .normal a' w2) :
    (Code.seq (cdL (scanL Tryz.f60.body)) (Code.seq (cdL (cdR (scanL Tryz.f60.body))) (Code.block 1 (Code.seq (cdL (cdIn (cdR (cdR (scanL Tryz.f60.body))))) (Code.seq (cdL (cdR (cdIn (cdR (cdR (scanL Tryz.f60.body)))))) C))))).wp Tryz.prog Q a wr := by
  obtain ⟨u, rfl⟩ := H.form
  subst e21
  subst e6
  have HQ : Hid (∀ a', FrS v0 v1 v4 v5 (.int .i64 (e : Nat)) (.int .i64 q) (.int .i32 r) v9 v10 v11 (.pointer (some ⟨kI, 0, none⟩)) a' → Q .normal a' w2) := hQ
  clear hQ H
  have hb : decide ((q : Int) < (e : Int)) = true := by simp; omega
  simp only [scanL, cdR, cdL, cdIn, Tryz.f60, Option.getD_some]
  go_wp2_with fail
  exact HQ.out _ ⟨by kernel_rfl, by kernel_rfl, by kernel_rfl, by kernel_rfl, by kernel_rfl, by kernel_rfl, by kernel_rfl, by kernel_rfl, by kernel_rfl, by kernel_rfl, by kernel_rfl, by kernel_rfl, rfl⟩
/-- a round's head, a rune's turn -/
theorem rd_turn {C : Code} {w2 : World} {q r : Nat} {v0 v1 v4 v5 v6 v7 v8 v9 v10 v11 : Value} (H : FrS v0 v1 v4 v5 v6 v7 v8 v9 v10 v11 v21 a) (e21 : v21 = .pointer (some ⟨kI, 0, none⟩)) (e6 : v6 = .int .i64 (e : Nat)) (hqe : e ≤ q) (hnx : ∀ ty, (Instr.next (.pointer (some ⟨kI, 0, none⟩)) true ty).run Tryz.prog wr = .ok (.tuple #[.bool true, .int .i64 q, .int .i32 r]) w2) (hC : ∀ a', FrS v0 v1 v4 v5 v6 (.int .i64 q) (.int .i32 r) v9 v10 v11 v21 a' → C.wp Tryz.prog (Exit.inBlock 1 Q) a' w2) :
    (Code.seq (cdL (scanL Tryz.f60.body)) (Code.seq (cdL (cdR (scanL Tryz.f60.body))) (Code.block 1 (Code.seq (cdL (cdIn (cdR (cdR (scanL Tryz.f60.body))))) (Code.seq (cdL (cdR (cdIn (cdR (cdR (scanL Tryz.f60.body)))))) C))))).wp Tryz.prog Q a wr := by
  obtain ⟨u, rfl⟩ := H.form
  subst e21
  subst e6
  have HQ : Hid (∀ a', FrS v0 v1 v4 v5 (.int .i64 (e : Nat)) (.int .i64 q) (.int .i32 r) v9 v10 v11 (.pointer (some ⟨kI, 0, none⟩)) a' → C.wp Tryz.prog (Exit.inBlock 1 Q) a' w2) := hC
  clear hC H
  have hb : decide ((q : Int) < (e : Int)) = false := by simp; omega
  simp only [scanL, cdR, cdL, cdIn, Tryz.f60, Option.getD_some]
  go_wp2_with fail
  exact HQ.out _ ⟨by kernel_rfl, by kernel_rfl, by kernel_rfl, by kernel_rfl, by kernel_rfl, by kernel_rfl, by kernel_rfl, by kernel_rfl, by kernel_rfl, by kernel_rfl, by kernel_rfl, by kernel_rfl, rfl⟩
end
end Go.Proofs.Qxb6500574aGreatDoor
