/-
  THE WALK of vm: enter.
-/
import Derived.Test.Qxb6500574aGreatDoorVPush
namespace Go.Proofs.Qxb6500574aGreatDoor
open Go Go.RowKit
set_option linter.unusedVariables false
set_option linter.unusedSimpArgs false

def slLen : Value → Nat
  | .slice _ n _ => n
  | _ => 0
/-- arguments: a window with no room of its own, or a row of the call's own -/
structure WinAt (w w0 : World) (A : VL) (i : Nat) (t : ThD) (v : Value) (xs : List Vl) (B d c : Nat) : Prop where
  hv : v = .slice (some ⟨B, d, none⟩) xs.length c
  cl : ∀ j u, (xs.flatMap vCells)[j]? = some u → w.cell? ⟨B, d + j, none⟩ = some u ∧ Kp A i t B (d + j)
  own : c = xs.length ∨ (d = 0 ∧ w.ownsRow 0 68 3 v xs.length (xs.flatMap vCells) ∧ w0.heap.size ≤ B)
  le : xs.length ≤ c
  lt : B < w.heap.size
def Win (w w0 : World) (A : VL) (i : Nat) (t : ThD) (v : Value) (xs : List Vl) : Prop := ∃ B d c, WinAt w w0 A i t v xs B d c
section
variable {w w0 w1 w2 : World} {A : VL} {m : VMD} {f e i : Nat} {t : ThD} {l : ThL} {v : Value} {xs : List Vl}
theorem Kp.new (h : VRep w0 A m f e) {B : Nat} (hB : w0.heap.size ≤ B) (hi : m.ths[i]? = some t) (j : Nat) : Kp A i t B j := by
  refine ⟨fun e => by have := h.ths.here.has.lt; omega, fun l hl ha => ?_⟩
  have := (h.one hi hl).s.lt (g := B) (by dsimp only; rw [ha]; rfl)
  omega
theorem addr_lit (B d j : Nat) : (⟨B, d, none⟩ : Addr).add j = ⟨B, d + j, none⟩ := by unfold Addr.add; split <;> simp_all
theorem ownsRow_cell {w : World} {B c n : Nat} {xs : List Value} {T : TypeId} {k : Nat} (h : w.ownsRow 0 T k (.slice (some ⟨B, 0, none⟩) n c) n xs) (j : Nat) (u : Value) (hj : xs[j]? = some u) : w.cell? ⟨B, j, none⟩ = some u := by
  have := h.cells (g := B) rfl j u hj
  rwa [addr_lit, Nat.zero_add] at this
theorem run_appWin (H : VRep w0 A m f e) (hi : m.ths[i]? = some t) (hf : Fr (fun _ => False) w0 w) (W : Win w w0 A i t v xs) {B' c' : Nat} (hB : Has w B' (vCells nilV).toArray 68) (hl : xs.length ≤ 100) (ty : TypeId) :
    ∃ v' w', (Builtin.append_ #[85, 85] ty #[v, .slice (some ⟨B', 0, none⟩) 1 c']).run Tryz.prog w = .ok v' w' ∧ Win w' w0 A i t v' (xs ++ [nilV]) ∧ Fr (fun _ => False) w0 w' := by
  obtain ⟨B, d, c, W⟩ := W
  obtain ⟨ht, hinf, hzs, hsz⟩ := rowVal
  obtain ⟨inf, hinf, hz, hsize, hby⟩ := info_parts hinf
  have hnews : ∀ j u, (vCells nilV)[j]? = some u → w.cell? ((⟨B', 0, none⟩ : Addr).add j) = some u := fun j u hj => by
    rw [addr_lit, Nat.zero_add, hB.cell]; simpa using hj
  have hone : ∀ u ∈ vCells nilV, u.oneCell' = true := fun u hu => vCells_one [nilV] u (by simpa using hu)
  have h2 : (xs ++ [nilV]).flatMap vCells = xs.flatMap vCells ++ vCells nilV := by simp
  have hlen : (xs.flatMap vCells).length = xs.length * 3 := flatMap_len _ 3 vCells_len xs
  rcases W.own with hc | ⟨hd, ho, hB0⟩
  · have hv := W.hv
    rw [hc] at hv
    have hr := run_append_grow (P := Tryz.prog) w 85 ty 68 inf (.agg #[.int .i64 0, .int .u64 0, sv []]) ht hinf hz ⟨B, d, none⟩ xs.length xs.length (xs.flatMap vCells) (by rw [hsize, hlen]) (fun j u hj => by rw [addr_lit]; exact (W.cl j u hj).1) ⟨B', 0, none⟩ 1 c' (vCells nilV) (by rw [hsize]; rfl) hnews (by omega) (by omega) (growslice_fits (by omega) (by rw [hby]; omega))
    rw [← hv] at hr
    have hge := grownCap_ge w (xs.length + 1) xs.length 68
    have hcm := grownCap_le_maxLen w (xs.length + 1) xs.length 68 (by unfold maxLen; omega)
    obtain ⟨G, HG⟩ : ∃ G, grownCap w (xs.length + 1) xs.length 68 = G := ⟨_, rfl⟩
    rw [HG] at hr hge hcm
    have hfr : Fr (fun _ => False) w0 (w.drew.alloc (.cells ((xs.flatMap vCells).toArray ++ (vCells nilV).toArray ++ Builtin.zeroCells (Value.agg #[.int .i64 0, .int .u64 0, sv []]).cells (G - (xs.length + 1))) 68)) := (hf.drew).alloc _
    have how : (w.drew.alloc (.cells ((xs.flatMap vCells).toArray ++ (vCells nilV).toArray ++ Builtin.zeroCells (Value.agg #[.int .i64 0, .int .u64 0, sv []]).cells (G - (xs.length + 1))) 68)).ownsRow 0 68 3 (.slice (some ⟨w.heap.size, 0, none⟩) (xs.length + 1) G) (xs.length + 1) ((xs ++ [nilV]).flatMap vCells) := by
      have hl2 : ((xs ++ [nilV]).flatMap vCells).length = (xs.length + 1) * 3 := by rw [flatMap_len _ 3 vCells_len]; simp
      refine ⟨hl2, .inr ⟨w.heap.size, _, _, rfl, Nat.zero_le _, heap_alloc_new w.drew _, hge, hcm, ?_, ?_⟩⟩
      · simp only [Array.size_append, List.size_toArray, size_zeroCells, hlen]
        have : (vCells nilV).length = 3 := rfl
        have h3 : (Value.agg #[.int .i64 0, .int .u64 0, sv []]).cells.size = 3 := rfl
        rw [this, h3]
        omega
      · simp only [Array.toList_append]
        rw [← hl2, h2]
        exact List.take_left
    refine ⟨_, _, hr, ⟨w.heap.size, 0, G, ⟨by simp, fun j u hj => ⟨?_, Kp.new H hf.size hi _⟩, .inr ⟨rfl, by simpa using how, hf.size⟩, by simpa using hge, by simp⟩⟩, hfr⟩
    rw [Nat.zero_add]
    exact ownsRow_cell how j u hj
  · have hv := W.hv
    subst hd
    obtain ⟨v', w', hr, h3, h4, _, h6⟩ := run_append_own_at (P := Tryz.prog) w 0 85 ty 68 inf (.agg #[.int .i64 0, .int .u64 0, sv []]) 3 32 ht hinf hz hsize hby hzs hsz v xs.length (xs.flatMap vCells) ho ⟨B', 0, none⟩ 1 c' (vCells nilV) rfl hnews hone (by unfold maxLen; omega) (by omega) (Nat.zero_le _)
    have hform : ∃ g cap, v' = .slice (some ⟨g, 0, none⟩) (xs.length + 1) cap := by
      rcases h3.2 with ⟨_, h0⟩ | ⟨g, cap, cur, hv, _⟩
      · omega
      · exact ⟨g, cap, hv⟩
    obtain ⟨g, cap, rfl⟩ := hform
    have hg : w0.heap.size ≤ g := by
      rcases h6 with h6 | h6
      · rw [hv] at h6
        simp [Value.ownBlock] at h6
        omega
      · simp [Value.ownBlock] at h6
        have := hf.size
        omega
    have hq : Fr (fun k => v.ownBlock = some k) w w' := Fr.of_grown h4
    have hfr : Fr (fun _ => False) w0 w' := hf.trans hq (fun j hj hb => by rw [hv] at hb; simp [Value.ownBlock] at hb; omega)
    rw [← h2] at h3
    refine ⟨_, _, hr, ⟨g, 0, cap, ⟨by simp, fun j u hj => ⟨?_, Kp.new H hg hi _⟩, .inr ⟨rfl, by simpa using h3, hg⟩, ?_, (h3.lt g rfl).2⟩⟩, hfr⟩
    · rw [Nat.zero_add]
      exact ownsRow_cell h3 j u hj
    · rcases h3.2 with ⟨h0, _⟩ | ⟨g', cap', cur, hv2, _, _, hn, _⟩
      · cases h0
      · cases hv2
        simpa using hn
theorem wpList_appWin {ops : Array Oper} {rest : List Oper} {o : Oper} {a : Act} {Q : Exit → Act → World → Prop} (hgd : o.guard = none) (s x : Operand)
    (ho : o.op = .call { callee := .builtin .append, args := #[s, x], argTypes := #[85, 85] })
    (H : VRep w0 A m f e) (hi : m.ths[i]? = some t) (hf : Fr (fun _ => False) w0 w) (hs : a.eval s = v) (W : Win w w0 A i t v xs) {B' c' : Nat} (hx : a.eval x = .slice (some ⟨B', 0, none⟩) 1 c') (hB : Has w B' (vCells nilV).toArray 68) (hl : xs.length ≤ 100)
    (h : ∀ v' w', Win w' w0 A i t v' (xs ++ [nilV]) → Fr (fun _ => False) w0 w' → wpList Tryz.prog ops Q rest (a.put o.dst v') w') : wpList Tryz.prog ops Q (o :: rest) a w := by
  refine wpList_plain hgd fun K hK => ?_
  obtain ⟨v', w', hr, h1, h2⟩ := run_appWin H hi hf W (c' := c') hB hl o.type
  unfold Oper.wp execOp
  simp only [ho, resolve, invoke, builtin, Sem.run_bind, Sem.run_pure, Result.andThen_ok, List.map_toArray, List.map_cons, List.map_nil, hs, hx, hr]
  exact hK _ _ (h v' w' h1 h2)
theorem Win.fresh {w w' w0 : World} {A : VL} {i : Nat} {t : ThD} {v : Value} {xs : List Vl} (W : Win w w0 A i t v xs) (hf : Fr (fun _ => False) w w') : Win w' w0 A i t v xs := by
  obtain ⟨B, d, c, W⟩ := W
  refine ⟨B, d, c, W.hv, fun j u hj => ⟨hf.cell (W.cl j u hj).1, (W.cl j u hj).2⟩, ?_, W.le, Nat.lt_of_lt_of_le W.lt hf.size⟩
  rcases W.own with h | ⟨h1, h2, h3⟩
  · exact .inl h
  · exact .inr ⟨h1, owns_fr h2 hf (fun _ _ x => x), h3⟩
end
end Go.Proofs.Qxb6500574aGreatDoor
