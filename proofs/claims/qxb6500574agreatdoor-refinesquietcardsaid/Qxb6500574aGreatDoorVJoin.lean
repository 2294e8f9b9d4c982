/-
  THE WALK of vm: join.
-/
import Derived.Test.Qxb6500574aGreatDoorVMem2
import Derived.Laws.MakeOwn
namespace Go.Proofs.Qxb6500574aGreatDoor
open Go Go.RowKit
set_option linter.unusedVariables false
set_option linter.unusedSimpArgs false

theorem row_u8 : IsRow Tryz.prog 49 5 (.int .u8 0) 1 1 := ⟨by kernel_rfl, by kernel_rfl, rfl, by decide⟩
def flat3 (l : List Bs) : Bs := l.flatMap id
structure JoinR (w wr : World) (bv : Value) (n : Nat) (s : Bs) : Prop where
  own : wr.ownsRow 0 5 1 bv n (byteCells s)
  ln : s.length = n
  fr : Fr (fun _ => False) w wr
  new : ∀ g, bv.ownBlock = some g → w.heap.size ≤ g
theorem make_u8 (w : World) (n : Nat) (hn : n ≤ 1000000) : ∃ w', (Instr.makeSlice 49 (.int .i64 0) (.int .i64 n)).run Tryz.prog w = .ok (.slice (some ⟨w.heap.size, 0, none⟩) 0 n) w' ∧ w'.ownsRow 0 5 1 (.slice (some ⟨w.heap.size, 0, none⟩) 0 n) 0 [] ∧ Fr (fun _ => False) w w' := by
  obtain ⟨ht, hi, hzs, hsz⟩ := row_u8
  obtain ⟨i, hi, hz, hsize, hby⟩ := info_parts hi
  obtain ⟨w', h1, h2, h3⟩ := run_makeSlice_owned (P := Tryz.prog) w 0 49 5 i (.int .u8 0) 1 ht hi hz hsize .i64 .i64 n (by omega) (by rw [hby]; omega) (by unfold maxLen; omega) (Nat.zero_le _)
  refine ⟨w', h1, h2, ?_⟩
  have := Fr.of_grown h3
  exact this.weaken (fun k _ hk => by cases hk)
theorem JoinR.app {w wr w2 : World} {bv b2 : Value} {n n2 : Nat} {s t : Bs} (h : JoinR w wr bv n s) (q1 : w2.ownsRow 0 5 1 b2 n2 (byteCells s ++ byteCells t)) (hn : n2 = n + t.length) (q2 : Fr (fun k => bv.ownBlock = some k) wr w2) (q3 : ∀ g, b2.ownBlock = some g → bv.ownBlock = some g ∨ wr.heap.size ≤ g) : JoinR w w2 b2 n2 (s ++ t) := by
  refine ⟨?_, by rw [List.length_append, h.ln, hn], h.fr.trans q2 (fun j hj hk => by have := h.new j hk; omega), fun g hg => ?_⟩
  · have : byteCells (s ++ t) = byteCells s ++ byteCells t := by simp [byteCells]
    rw [this]
    exact q1
  · rcases q3 g hg with x | x
    · exact h.new g x
    · exact Nat.le_trans h.fr.size x
theorem flat_take {ss : List Bs} {k : Nat} {s : Bs} (h : ss[k]? = some s) : flat3 (ss.take (k + 1)) = flat3 (ss.take k) ++ s := by
  unfold flat3
  rw [List.take_add_one, h, List.flatMap_append]
  simp
theorem flat_len : ∀ (ss : List Bs) (k : Nat), (∀ s ∈ ss, s.length ≤ 100) → (flat3 (ss.take k)).length ≤ 100 * k := by
  intro ss
  induction ss with
  | nil => intro k _; simp [flat3]
  | cons a r ih =>
    intro k h
    cases k with
    | zero => simp [flat3]
    | succ k =>
      have h1 := ih k (fun s hs => h s (by simp [hs]))
      have h2 := h a (by simp)
      unfold flat3 at h1 ⊢
      simp only [List.take_succ_cons, List.flatMap_cons, List.length_append, id]
      omega
section
variable {w : World}
set_option maxRecDepth 100000
set_option maxHeartbeats 1000000
theorem join_any {B c : Nat} (ss : List Bs) (hl : ss.length = 3) (hs : ∀ s ∈ ss, s.length ≤ 100) (hB : Has w B (ss.map sv).toArray 9) (hp : 0 < (flat3 ss).length) :
    Calls Tryz.prog 316 #[.slice (some ⟨B, 0, none⟩) 3 c] w fun e w' => e = .returned (sv (flat3 ss)) ∧ Fr (fun _ => False) w w' := by
  obtain ⟨Q, HQ⟩ : ∃ Q : Ending → World → Prop, Hid ((fun e w' => e = .returned (sv (flat3 ss)) ∧ Fr (fun _ => False) w w') = Q) := ⟨_, rfl⟩
  rw [HQ.out]
  have HB : Hid (Has w B (ss.map sv).toArray 9) := hB
  have HS : Hid (∀ s ∈ ss, s.length ≤ 100) := hs
  have HL : Hid (ss.length = 3) := hl
  have hbl := hB.lt
  clear hB hs hl
  go_enter Tryz.func316, Tryz.ntmps316
  go_wp2_with fail
  go_loopw [3, 11] (fun v3 v11 wr => ∃ (k n : Nat), k ≤ 3 ∧ v11 = .int .i64 k ∧ v3 = .int .i64 n ∧ n ≤ 100 * k ∧ wr = w) (fun _ v11 _ => 3 - (intOf v11).toNat)
  case atStart => exact ⟨0, 0, by omega, rfl, rfl, by omega, rfl⟩
  case round =>
    obtain ⟨k, n, hk, rfl, rfl, hn, hw⟩ := hrel
    have hw2 := hw.symm
    subst hw2
    clear hw
    by_cases h3 : k = 3
    · subst h3
      rw [show ((3 : Nat) : Int) = 3 from rfl]
      obtain ⟨w1, hmk, own1, fr1⟩ := make_u8 w n (by omega)
      have START : Hid (JoinR w w1 (.slice (some ⟨w.heap.size, 0, none⟩) 0 n) 0 []) := ⟨own1, rfl, fr1, fun g hg => by simp [Value.ownBlock] at hg; omega⟩
      clear own1 fr1
      go_wp2_with fail
      go_loopw [6, 24] (fun v6 v24 wr => ∃ (k : Nat) (bv : Value), k ≤ 3 ∧ v24 = .int .i64 k ∧ v6 = bv ∧ Hid (JoinR w wr bv (flat3 (ss.take k)).length (flat3 (ss.take k)))) (fun _ v24 _ => 3 - (intOf v24).toNat)
      case atStart => exact ⟨0, _, by omega, rfl, rfl, START⟩
      case round =>
        obtain ⟨k, bv, hk, rfl, rfl, HJ⟩ := hrel
        have hfl := flat_len ss k HS.out
        by_cases h3 : k = 3
        · subst h3
          have htk : ss.take 3 = ss := List.take_of_length_le (by rw [HL.out]; omega)
          rw [htk] at HJ hfl
          have hw := HJ.out.own
          rcases hw.2 with ⟨_, h0⟩ | ⟨g, cap, cur, hv, hbg, hg0, hnc, hcm, hcs, htake⟩
          · omega
          · subst hv
            have hcell : ∀ k (hk : k < (flat3 ss).length), wr.cell? ((⟨g, 0, none⟩ : Addr).add k) = some (.int .u8 ((flat3 ss)[k].toNat : Int)) := by
              intro k hk
              refine hw.cells (g := g) rfl k _ ?_
              simp [byteCells, hk]
            have hconv := run_convert_bytes_back (P := Tryz.prog) wr 49 9 5 ⟨g, 0, none⟩ cap (flat3 ss) (by kernel_rfl) (by kernel_rfl) (by kernel_rfl) hcell
            have FIN : Hid (Q (.returned (sv (flat3 ss))) wr) := by rw [← HQ.out]; exact ⟨rfl, HJ.out.fr⟩
            obtain ⟨FL, HFL⟩ : ∃ FL : Bs, Hid (flat3 ss = FL) := ⟨_, rfl⟩
            rw [HFL.out] at hconv FIN hfl ⊢
            clear hw hcell htake hg0 HJ htk hcs
            go_wp2_with fail
            exact FIN.out
        · obtain ⟨s, hsk⟩ : ∃ s, ss[k]? = some s := ⟨_, List.getElem?_eq_getElem (by rw [HL.out]; omega)⟩
          have KB : Has wr B (ss.map sv).toArray 9 := HB.out.fr HJ.out.fr (fun x => x)
          have ck : wr.cell? ⟨B, k, none⟩ = some (sv s) := by
            rw [KB.cell]
            simp [hsk]
          have hsl := HS.out s (List.mem_of_getElem? hsk)
          have hk3 : (k : Int) < 3 := by omega
          have hbl2 := KB.lt
          have HSK : Hid (ss[k]? = some s) := hsk
          clear hsk KB
          go_wp2_with (at_builtin; go_must (refine wpList_appStr row_u8 (by kernel_rfl) _ rfl (.tmp 28) (.tmp 29) rfl _ (flat3 (ss.take k)).length (byteCells (flat3 (ss.take k))) rfl HJ.out.own s rfl ?bd ?go))
          case bd => omega
          case go =>
            intro b2 cap w2 q1 q2 q3
            have NX := HJ.out.app q1 rfl q2 q3
            have hft := flat_take HSK.out
            have HNX : Hid (JoinR w w2 (.slice b2 ((flat3 (ss.take k)).length + s.length) cap) (flat3 (ss.take (k + 1))).length (flat3 (ss.take (k + 1)))) := by
              rw [hft, List.length_append]
              exact NX
            clear q1 q2 q3 NX hft
            go_wp2_with fail
            exact ⟨⟨k + 1, _, by omega, by go_num, rfl, HNX⟩, by simp [intOf]; omega⟩
    · obtain ⟨s, hsk⟩ : ∃ s, ss[k]? = some s := ⟨_, List.getElem?_eq_getElem (by rw [HL.out]; omega)⟩
      have ck : w.cell? ⟨B, k, none⟩ = some (sv s) := by
        rw [HB.out.cell]
        simp [hsk]
      have hsl := HS.out s (List.mem_of_getElem? hsk)
      have hk3 : (k : Int) < 3 := by omega
      clear hsk
      go_wp2_with fail
      exact ⟨⟨k + 1, n + s.length, by omega, by go_num, by go_num, by omega, trivial⟩, by simp only [intOf]; omega⟩
end
end Go.Proofs.Qxb6500574aGreatDoor
