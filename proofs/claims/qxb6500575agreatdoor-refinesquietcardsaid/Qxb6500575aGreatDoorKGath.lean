/-
  THE WALKS of mach: le16, le32, gather.
-/
import Derived.Test.Qxb6500575aGreatDoorKC
import Derived.Test.Qxb6500575aGreatDoorRegC
namespace Go.Proofs.Qxb6500575aGreatDoor
open Go Go.RowKit
set_option linter.unusedVariables false
set_option linter.unusedSimpArgs false

theorem run_copy_cells {P : Program} (w : World) (dT sT ty e : TypeId) (hu : P.underlying dT = some (.slice e)) (hsz : (P.info? e).map (·.size) = some 1)
    (gd od ld cd gs os ls cs : Nat) (cur : Array Value) (eT : TypeId) (hg : w.heap[gd]? = some (.cells cur eT (0, 0))) (xs : List Value) (n : Nat) (hn : n = min ls ld) (hl : xs.length = n)
    (hsrc : ∀ j v, xs[j]? = some v → w.cell? ⟨gs, os + j, none⟩ = some v) (h1 : ∀ u ∈ xs, u.oneCell' = true) (hfit : od + n ≤ cur.size) :
    (Builtin.copy_ #[dT, sT] ty #[.slice (some ⟨gd, od, none⟩) ld cd, .slice (some ⟨gs, os, none⟩) ls cs]).run P w =
      .ok (.int .i64 n) (w.setRow gd (cur.toList.take od ++ xs ++ cur.toList.drop (od + n)).toArray) := by
  subst hl
  have hld := run_loadCells_list (P := P) w ⟨gs, os, none⟩ xs (fun j v hj => by
    have hadd : (⟨gs, os, none⟩ : Addr).add j = ⟨gs, os + j, none⟩ := by unfold Addr.add; split <;> simp_all
    rw [hadd]; exact hsrc j v hj)
  have hst := run_storeCells_at P gd od eT xs 0 cur w hg (by simpa using hfit) h1
  simp only [Nat.add_zero] at hst
  cases hq : P.info? e with
  | none => simp [hq] at hsz
  | some i =>
    have hi : i.size = 1 := by simpa [hq] using hsz
    have hmin : Nat.min ls ld = xs.length := hn.symm
    simp [Builtin.copy_, run_underlying hu, Builtin.lenOf, Builtin.firstCells, sizeOf, typeInfo, hq, hi, hmin, hld, hst, goInt]
/-- a part of an array of 8 bytes -/
theorem run_arr8 (g t n : Nat) (w : World) (ht : t < 8) (h : t + n ≤ 8) : (Instr.sliceAt 158 (.pointer (some ⟨g, 0, none⟩)) (some (.int .i64 t)) (some (.int .i64 ((t : Int) + (n : Int)))) none).run Tryz.prog w = .ok (.slice (some ⟨g, t, none⟩) n (8 - t)) w := by
  have hu : Tryz.prog.underlying 158 = some (.array 8 5) := by kernel_rfl
  have hi : (Tryz.prog.info? 5).map (·.size) = some 1 := by kernel_rfl
  cases hq : Tryz.prog.info? 5 with
  | none => simp [hq] at hi
  | some i =>
    have hs : i.size = 1 := by simpa [hq] using hi
    have a1 : (0 : Int) ≤ (t : Int) + n ∧ (t : Int) + n ≤ 8 := by omega
    have a2 : (0 : Int) ≤ t ∧ (t : Int) ≤ (((t : Int) + n).toNat : Nat) := by omega
    have a3 : ¬ 8 = t := by omega
    have a4 : ((t : Int) + n).toNat = t + n := by omega
    simp [Instr.sliceAt, run_underlying hu, Instr.sureAddr, Instr.sliceBounds, Instr.sliceBound, asIntOf, a1, a2, a3, a4, sizeOf, typeInfo, hq, hs, Addr.add_lit]
set_option maxRecDepth 100000
set_option maxHeartbeats 400000
theorem le32_any (b0 b1 b2 b3 : Value) (v0 v1 v2 v3 : Int) (h0 : b0 = .int .u8 v0) (h1 : b1 = .int .u8 v1) (h2 : b2 = .int .u8 v2) (h3 : b3 = .int .u8 v3) (w : World) : Calls Tryz.prog 70 #[.agg #[b0, b1, b2, b3]] w fun e w' => ∃ n, e = .returned (.int .u32 n) ∧ Fr (fun _ => False) w w' := by
  subst h0 h1 h2 h3
  go_enter Tryz.func70, Tryz.ntmps70
  go_wp2
  go_ret
  exact ⟨_, rfl, (Fr.refl _ _).alloc _⟩
theorem le16_any (B : Nat) (v0 v1 : Int) (w : World) (c0 : w.cell? ⟨B, 0, none⟩ = some (.int .u8 v0)) (c1 : w.cell? ⟨B, 1, none⟩ = some (.int .u8 v1)) : Calls Tryz.prog 69 #[.pointer (some ⟨B, 0, none⟩)] w fun e w' => ∃ n, e = .returned (.int .u16 n) ∧ Fr (fun _ => False) w w' := by
  go_enter Tryz.func69, Tryz.ntmps69
  go_wp2
  refine C.wp_region_tail 12 (by kernel_rfl) (by kernel_rfl) (fun _ _ _ _ _ h => h) ?_
  simp only [List.take_succ_cons, List.take_zero, List.drop_succ_cons, List.drop_zero]
  repeat go_big_quiet_step (fail)
  refine wpQuiet_nil ?_
  go_wp2
  go_ret
  exact ⟨_, rfl, (Fr.refl _ _).drew⟩
theorem gather_any {w : World} {bk : Nat} {L : KL} {d : KD} (h : KRep w bk L d) {B : Nat} (hB : Has w B (byteCells (List.replicate 8 0)).toArray 158) (ea wd : Nat) (h1 : 1 ≤ wd) (h8 : wd ≤ 8) (hin : ea + wd ≤ d.pages.length * 8) :
    Calls Tryz.prog 68 #[.pointer (some ⟨bk, 0, none⟩), .int .i64 ea, .slice (some ⟨B, 0, none⟩) wd 8] w fun e w' => e = .returned (.tuple #[]) ∧ Fr (fun k => k = B) w w' ∧ Has w' B (byteCells (d.bytes ea wd ++ List.replicate (8 - wd) 0)).toArray 158 := by
  have hp : d.pages.length ≤ 4 := by have := h.le; have := h.max; omega
  go_enter Tryz.func68, Tryz.ntmps68
  go_wp2
  go_loopw [1, 2] (fun e v wr => ∃ (q o m c : Nat) (p : Addr), e = .int .i64 q ∧ v = .slice (some p) m c ∧ Hid (q = ea + o ∧ o + m = wd ∧ (0 < m → p = ⟨B, o, none⟩ ∧ c = 8 - o)) ∧ Hid (Fr (fun k => k = B) w wr) ∧ Hid (Has wr B (byteCells (d.bytes ea o ++ List.replicate (8 - o) 0)).toArray 158)) (fun e _ _ => ea + wd - (intOf e).toNat)
  case atStart => exact ⟨ea, 0, wd, 8, _, rfl, rfl, ⟨rfl, by omega, fun _ => ⟨rfl, rfl⟩⟩, Fr.refl _ _, by show Has _ _ _ _; simpa [KD.bytes] using hB⟩
  case round =>
    obtain ⟨q, o, m, c, p, rfl, rfl, HQ, HF, HB⟩ := hrel
    by_cases hm : 0 < m
    · obtain ⟨hq, hom, hpc⟩ := HQ.out
      obtain ⟨rfl, rfl⟩ := hpc hm
      have hK : KRep wr bk L d := h.fr HF.out (fun j hj e => h.typed.has hB (by decide) (e ▸ hj))
      have H : Hid (KRep w bk L d) := h
      have HBw : Hid (Has w B _ _) := hB
      obtain ⟨pi, HPI⟩ : ∃ pi : Nat, Hid (pi = q / 8) := ⟨_, rfl⟩
      obtain ⟨t, HT⟩ : ∃ t : Nat, Hid (t = q % 8) := ⟨_, rfl⟩
      have hpi := HPI.out
      have ht := HT.out
      obtain ⟨po, hps, gp, hpa, hcell, _, _, hcap, hne⟩ := hK.ptr (i := pi) (by omega)
      have c0 := hK.here.cell 0
      simp at c0
      rw [hpa] at c0
      have hq8 : pi < d.pages.length := by omega
      have hq4 : pi ≤ 4 := by omega
      have hr8 : t < 8 := by omega
      have HK : Hid (KRep wr bk L d) := hK
      have hql : q ≤ 32 := by omega
      have hmo : m ≤ 8 := by omega
      have ho8 : o ≤ 8 := by omega
      clear h hB hK hpc hom hq hin hpi ht
      obtain ⟨n, hn1, hn2, hn3, hn4, HN⟩ : ∃ n : Nat, n ≤ m ∧ t + n ≤ 8 ∧ 0 < n ∧ (if (8 : Int) - (t : Int) < (m : Int) then (8 : Int) - (t : Int) else (m : Int)) = (n : Int) ∧ Hid (n = m ∨ n = 8 - t) := by
        by_cases hmt : m ≤ 8 - t
        · exact ⟨m, by omega, by omega, by omega, by rw [if_neg (by omega)], .inl rfl⟩
        · exact ⟨8 - t, by omega, by omega, by omega, by rw [if_pos (by omega)]; omega, .inr rfl⟩
      have hno : o + n ≤ 8 := by have := HQ.out; omega
      cases po with
      | none =>
        simp only [ptrV, Option.map_none] at hcell
        go_wp2_with fail
        refine (split_any q hql _).mono ?_
        rintro e w1 ⟨rfl, rfl⟩
        rw [← HPI.out, ← HT.out]
        go_wp2
        go_roundw
        case rel =>
          have hQ := HQ.out
          have hP := HPI.out
          have hT := HT.out
          refine ⟨q + n, o + n, m - n, 8 - o - n, (if 8 - o = n then ⟨B, o, none⟩ else ⟨B, o + n, none⟩), by simp, by split <;> rfl, ⟨by omega, by omega, fun h => ⟨by rw [if_neg (by omega)], by omega⟩⟩, HF.out, ?_⟩
          have e1 : d.bytes ea (o + n) = d.bytes ea o ++ List.replicate n 0 := by
            rw [KD.bytes_add, ← hQ.1, HK.out.bytes_nil hps hP.symm (by omega)]
          show Has _ _ _ _
          rw [e1, List.append_assoc, List.replicate_append_replicate, show n + (8 - (o + n)) = 8 - o by omega]
          exact HB.out
        case measure =>
          have hQ := HQ.out
          simp [intOf]
          omega
      | some g =>
        simp only [ptrV, Option.map_some] at hcell
        obtain ⟨bs, e1, e2, e3⟩ := HK.out.page _ _ hps
        have hgB : g ≠ B := fun e => e3.ne HB.out (by decide) e
        obtain ⟨wc, HWC, hrun⟩ : ∃ wc, Hid (Fr (fun k => k = B) wr wc ∧ Has wc B (byteCells (d.bytes ea (o + n) ++ List.replicate (8 - (o + n)) 0)).toArray 158) ∧
            (Builtin.copy_ #[134, 134] 3 #[.slice (some ⟨B, o, none⟩) m (8 - o), .slice (some ⟨g, t, none⟩) n (8 - t)]).run Tryz.prog wr = .ok (.int .i64 n) wc := by
          have hQ := HQ.out
          have hP := HPI.out
          have hT := HT.out
          have hA : (d.bytes ea o).length = o := KD.bytes_len d ea o
          have hx : ((bs.drop t).take n).length = n := by simp; omega
          have hbig : d.bytes ea (o + n) = d.bytes ea o ++ (bs.drop t).take n := by
            rw [KD.bytes_add, ← hQ.1, hT, KD.bytes_page e1 e2 hP.symm (by omega)]
          have hrun := run_copy_cells (P := Tryz.prog) wr 134 134 3 5 (by kernel_rfl) (by kernel_rfl) B o m (8 - o) g t n (8 - t) (byteCells (d.bytes ea o ++ List.replicate (8 - o) 0)).toArray 158 HB.out (byteCells ((bs.drop t).take n)) n (by omega) (by rw [byteCells_len]; exact hx)
            (by
              intro j v hj
              rw [e3.cell]
              have hj' : j < n := by have := (List.getElem?_eq_some_iff.1 hj).1; rw [byteCells_len, hx] at this; exact this
              simp only [byteCells, List.getElem?_map, List.getElem?_take, if_pos hj', List.getElem?_drop] at hj
              simpa [byteCells] using hj)
            (by intro u hu; simp only [byteCells, List.mem_map] at hu; obtain ⟨b, _, rfl⟩ := hu; rfl)
            (by simp [byteCells_len, hA]; omega)
          have e4 : List.take o (byteCells (d.bytes ea o ++ List.replicate (8 - o) 0)) ++ byteCells ((bs.drop t).take n) ++ List.drop (o + n) (byteCells (d.bytes ea o ++ List.replicate (8 - o) 0)) = byteCells (d.bytes ea (o + n) ++ List.replicate (8 - (o + n)) 0) := by
            have e5 : (d.bytes ea o ++ List.replicate (8 - o) 0).drop (o + n) = List.replicate (8 - (o + n)) 0 := by
              rw [List.drop_append, List.drop_eq_nil_of_le (show (d.bytes ea o).length ≤ o + n by omega), hA, List.drop_replicate, List.nil_append]
              congr 1
              omega
            rw [hbig]
            unfold byteCells
            rw [← List.map_take, ← List.map_drop, List.take_left' hA, e5, ← List.map_append, ← List.map_append]
          simp only [e4] at hrun
          exact ⟨wr.setRow B _, ⟨⟨rfl, rfl, rfl, by simp [World.setRow], fun k _ hk => setRow_other wr B k _ hk⟩, setRow_heap wr B _ _ _ _ HB.out⟩, hrun⟩
        have hsl := run_arr8 g t n wr hr8 hn2
        go_wp2_with fail
        refine (split_any q hql _).mono ?_
        rintro e w1 ⟨rfl, rfl⟩
        rw [← HPI.out, ← HT.out]
        go_wp2
        go_roundw
        case rel =>
          have hQ := HQ.out
          refine ⟨q + n, o + n, m - n, 8 - o - n, (if 8 - o = n then ⟨B, o, none⟩ else ⟨B, o + n, none⟩), by simp, by split <;> rfl, ⟨by omega, by omega, fun h => ⟨by rw [if_neg (by omega)], by omega⟩⟩, HF.out.trans HWC.out.1 (fun _ _ e => e), HWC.out.2⟩
        case measure =>
          have hQ := HQ.out
          simp [intOf]
          omega
    · have HQ' := HQ.out
      go_wp2
      go_end0
      refine ⟨rfl, HF.out, ?_⟩
      obtain ⟨e1, e2, e3⟩ := HQ.out
      have e4 : o = wd := by omega
      rw [← e4]
      exact HB.out
end Go.Proofs.Qxb6500575aGreatDoor
