/-
  THE WALK of comp: a table's items.
-/
import Derived.Test.Qxb6500574aGreatDoorWCm18
namespace Go.Proofs.Qxb6500574aGreatDoor
open Go Go.RowKit
set_option linter.unusedVariables false
set_option linter.unusedSimpArgs false
open Go.Lib
theorem Bx.stQ {Q : Nat → Prop} {w w1 : World} {o o1 : Nat → Nat} {C : CC} {f : Nat} {d : Nd} {b : Nat} (h : Bx w o C f d b) (t : Stp Q w o w1 o1) (q0 : ¬ Q 0) : Bx w1 o1 C f d b :=
  ⟨t.has h.hf (by rw [h.lf]; exact q0), t.has h.hd (by rw [h.ld]; exact q0), (t.ext _ h.hf.lt).trans h.lf, (t.ext _ h.hd.lt).trans h.ld⟩
/-- items still to come: rem; i are laid -/
def ItP (C : CC) (N : List Nd) (k f : Nat) (L : List Bs) (r : En) (h1 b : Nat) (d : Nd) (bf bi : Nat) (w0 : World) (o0 : Nat → Nat) (cE : CmD) (rem : List Nat) (w : World) : Prop :=
  ∃ o' a' lo' x' p' q' c' i, CB w o' C N f L r a' p' q' c' ∧ Bx w o' C f d bf ∧ Has w bi #[.int .u16 (i : Nat)] 103 ∧ o' bi = 1 ∧ Stp QC w0 o0 w o' ∧ SeqE (fun x lo a b w => Sh N 1 x lo a b w 0 0 false) 0 rem lo' h1 a' b x' ∧ 17 * (h1 - lo') ≤ p' ∧ h1 - lo' ≤ q' ∧ i + rem.length ≤ 3000 ∧
    (rem.foldl (fun (x : CmD × Nat) m => ((comN N k 1 f m x.1).emit f [(13, (x.2 + 1) % 65536)], x.2 + 1)) (c', i)).1 = cE
theorem CB.exT {w : World} {o : Nat → Nat} {C : CC} {N : List Nd} {c : CmD} {f n k a b lo x p q : Nat} {L : List Bs} {r : En} (A : CA N k) (W : CW N C k) (h : CB w o C N f L r a p q c) (hs : Sh N 1 n lo a b x 0 0 false) (hp : 17 * (n - lo) ≤ p) (hq : n - lo ≤ q) (hk : 2 * n + 2 ≤ k) : Calls Tryz.prog 165 #[fptr C.gF f, .int .i64 n] w (CT w o C N f L r b (p - 3 * (n - lo) + 1) (q - (n - lo)) (comN N k 1 f n c)) := by
  refine (W.ex w o f L r lo a b n x c hs (h.le hp hq) hk).mono ?_
  rintro e w' ⟨rfl, o', R', S'⟩
  obtain ⟨seg, kc, p1, p2, p3, _, _, p5, _⟩ := A.ex f L r lo a b n x c hs (h.pre hp hq) hk
  have := hs.lt
  exact ⟨rfl, o', h.go (d := seg.length) p1 (by rw [p3, List.length_append]; exact Nat.le_refl _) (by omega) (by omega) R', S'⟩
section
set_option maxRecDepth 100000
set_option maxHeartbeats 1000000
variable {w : World} {o : Nat → Nat} {C : CC} {N : List Nd} {c : CmD} {f n k a b lo : Nat} {L : List Bs} {r : En}
theorem ItP.step (A : CA N k) (W : CW N C k) {h1 bf bi : Nat} {d : Nd} {w0 : World} {o0 : Nat → Nat} {cE : CmD} (hh : h1 < N.length) (hk : 2 * h1 + 2 ≤ k) (hb : w0.heap.size ≤ bi) (x : Nat) (rem : List Nat) (w : World) (h : ItP C N k f L r h1 b d bf bi w0 o0 cE (x :: rem) w) :
    x < N.length ∧ Calls Tryz.prog 235 #[.int .i64 x, .pointer (some ⟨bi, 0, none⟩), .pointer (some ⟨bf, 0, none⟩)] w fun e w' => e = .returned (.tuple #[]) ∧ ItP C N k f L r h1 b d bf bi w0 o0 cE rem w' := by
  obtain ⟨o', a', lo', x', p', q', c', i, B, X, HI, li, S, ⟨b1, s1, s2⟩, hp, hq, hi, he⟩ := h
  have i1 := s1.lt
  have i2 := (SeqE.in_ Sh.ltE s2).1
  refine ⟨by omega, ?_⟩
  simp only [List.length_cons] at hi
  rw [List.foldl_cons] at he
  simp only at he
  rw [Nat.mod_eq_of_lt (by omega)] at he
  have t1 : Stp (fun l => l = 1) w o' (w.setCell ⟨bi, 0, none⟩ (.int .u16 ((i + 1 : Nat) : Int))) o' := (Stp.refl _ _ _).setCell (p := ⟨bi, 0, none⟩) li _
  have HB1 : Hid (CB (w.setCell ⟨bi, 0, none⟩ (.int .u16 ((i + 1 : Nat) : Int))) o' C N f L r a' p' q' c') := B.st t1 (by omega) (by omega) (fun l hl => by unfold QC at hl; omega)
  have HX1 : Hid (Bx (w.setCell ⟨bi, 0, none⟩ (.int .u16 ((i + 1 : Nat) : Int))) o' C f d bf) := X.stQ t1 (by omega)
  have HI1 : Hid (Has (w.setCell ⟨bi, 0, none⟩ (.int .u16 ((i + 1 : Nat) : Int))) bi #[.int .u16 ((i + 1 : Nat) : Int)] 103) := by
    have := HI.put 0 (.int .u16 ((i + 1 : Nat) : Int))
    exact this
  have HS1 : Hid (Stp QC w0 o0 (w.setCell ⟨bi, 0, none⟩ (.int .u16 ((i + 1 : Nat) : Int))) o') := S.own (p := ⟨bi, 0, none⟩) hb _
  have HLI : Hid (o' bi = 1) := li
  have c0 : w.cell? ⟨bi, 0, none⟩ = some (.int .u16 (i : Nat)) := by rw [HI.cell]; rfl
  have cl := HI.lt
  have cf := HI.frozen 0
  have HG : Hid (lo' < x ∧ x ≤ h1 ∧ 17 * (h1 - lo') ≤ p' ∧ h1 - lo' ≤ q' ∧ 2 * h1 + 2 ≤ k) := ⟨i1, i2, hp, hq, hk⟩
  have HG1 : Hid (Sh N 1 x lo' a' b1 x' 0 0 false) := s1
  have HFI : Hid (∀ w' o2 c2 p2 q2, CB w' o2 C N f L r b1 p2 q2 c2 → c2 = (comN N k 1 f x c').emit f [(13, i + 1)] → p2 = p' - 3 * (x - lo') + 1 - 1 → q2 = q' - (x - lo') → Bx w' o2 C f d bf → Has w' bi #[.int .u16 ((i + 1 : Nat) : Int)] 103 → o2 bi = 1 → Stp QC w0 o0 w' o2 → ItP C N k f L r h1 b d bf bi w0 o0 cE rem w') :=
    fun w' o2 c2 p2 q2 B2 ec ep eq X2 I2 l2 S2 => ⟨o2, b1, x, _, p2, q2, c2, i + 1, B2, X2, I2, l2, S2, s2, by omega, by omega, by omega, by rw [ec]; exact he⟩
  have hi2 : i + 1 < 65536 := by omega
  obtain ⟨bfl, fc⟩ : bf < w.heap.size ∧ w.cell? ⟨bf, 0, none⟩ = some (.pointer (some ⟨C.gF, f * 11, none⟩)) := ⟨X.hf.lt, by rw [X.hf.cell]; rfl⟩
  have hne : bf ≠ bi := fun e => by have := X.lf; rw [e, li] at this; cases this
  have e1 : (((i + 1 : Nat) : Int)) = (i : Int) + 1 := by omega
  have r1 := HX1.out.hf.lt
  have r2 : (w.setCell ⟨bi, 0, none⟩ (.int .u16 ((i + 1 : Nat) : Int))).cell? ⟨bf, 0, none⟩ = some (.pointer (some ⟨C.gF, f * 11, none⟩)) := by rw [HX1.out.hf.cell]; rfl
  clear B X HI li S s1 s2 hp hq he t1 i1 i2 hb hh hk
  rw [e1] at HB1 HX1 HI1 HS1 r2 r1
  go_enter Tryz.func235, Tryz.ntmps235
  go_wp2_with fail
  refine (HB1.out.exT A W HG1.out (by have := HG.out; omega) (by have := HG.out; omega) (by have := HG.out; omega)).mono ?_
  rintro e2 w2 ⟨rfl, o2, B2, S2⟩
  have HB2 : Hid (CB w2 o2 C N f L r b1 _ _ _) := B2
  have HX2 : Hid (Bx w2 o2 C f d bf) := HX1.out.st S2
  have HI2 : Hid (Has w2 bi #[.int .u16 ((i : Int) + 1)] 103) := S2.has HI1.out (by rw [HLI.out]; unfold QC; omega)
  have HL2 : Hid (o2 bi = 1) := (S2.ext _ HI1.out.lt).trans HLI.out
  have HS2 : Hid (Stp QC w0 o0 w2 o2) := HS1.out.trans S2
  have u1 := HX2.out.hf.lt
  have u2 : w2.cell? ⟨bf, 0, none⟩ = some (.pointer (some ⟨C.gF, f * 11, none⟩)) := by rw [HX2.out.hf.cell]; rfl
  have u3 := HI2.out.lt
  have u4 : w2.cell? ⟨bi, 0, none⟩ = some (.int .u16 ((i : Int) + 1)) := by rw [HI2.out.cell]; rfl
  clear B2 S2
  go_wp2_with fail
  refine (HB2.out.emitK (op := 13) (y := i + 1) rfl (by omega) rfl (by have := HG.out; omega)).mono ?_
  rintro e3 w3 ⟨rfl, o3, B3, S3⟩
  have HF : Hid (ItP C N k f L r h1 b d bf bi w0 o0 cE rem w3) := HFI.out w3 o3 _ _ _ B3 rfl rfl rfl (HX2.out.st S3) (by have := S3.has HI2.out (by rw [HL2.out]; unfold QC; omega); rw [e1]; exact this) ((S3.ext _ HI2.out.lt).trans HL2.out) (HS2.out.trans S3)
  clear B3 S3
  go_wp2_with fail
  go_end0
  exact ⟨rfl, HF.out⟩
end
end Go.Proofs.Qxb6500574aGreatDoor
