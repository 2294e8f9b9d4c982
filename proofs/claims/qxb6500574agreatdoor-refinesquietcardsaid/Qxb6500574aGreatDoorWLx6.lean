/-
  THE WALK of the parser layer: scan: its frame; the end of a round.
-/
import Derived.Test.Qxb6500574aGreatDoorWLx5
namespace Go.Proofs.Qxb6500574aGreatDoor
open Go Go.RowKit
set_option linter.unusedVariables false
set_option linter.unusedSimpArgs false
open Go.Lib
def cdL : Code → Code
  | .seq a _ => a
  | c => c
def cdR : Code → Code
  | .seq _ b => b
  | c => c
def cdIn : Code → Code
  | .block _ b => b
  | .loop b => b
  | .scope b => b
  | c => c
/-- the round of scan -/
def scanL (c : Option Code) : Code := cdIn (cdIn (cdR (cdL (cdR (cdR (cdR (cdR (cdIn (c.getD .skip)))))))))
/-- what a round does with a rune that is its turn -/
def scanP7 (c : Option Code) : Code := cdR (cdR (cdIn (cdR (cdR (scanL c)))))
def scanSw (c : Option Code) : Code := cdL (cdR (cdR (cdR (cdR (scanP7 c)))))
def scanTl (c : Option Code) : Code := cdR (cdR (cdR (cdR (cdR (scanP7 c)))))
/-- the frame of scan -/
structure FrS (v0 v1 v4 v5 v6 v7 v8 v9 v10 v11 v21 : Value) (a : Act) : Prop where
  size : a.tmps.size = 211
  t0 : a.tmps[0]? = some v0
  t1 : a.tmps[1]? = some v1
  t4 : a.tmps[4]? = some v4
  t5 : a.tmps[5]? = some v5
  t6 : a.tmps[6]? = some v6
  t7 : a.tmps[7]? = some v7
  t8 : a.tmps[8]? = some v8
  t9 : a.tmps[9]? = some v9
  t10 : a.tmps[10]? = some v10
  t11 : a.tmps[11]? = some v11
  t21 : a.tmps[21]? = some v21
  df : a.defers = []
set_option maxRecDepth 100000 in
theorem range211 {α : Type} (u : Nat → α) : (List.range 211).map u = u 0 :: u 1 :: u 2 :: u 3 :: u 4 :: u 5 :: u 6 :: u 7 :: u 8 :: u 9 :: u 10 :: u 11 :: u 12 :: u 13 :: u 14 :: u 15 :: u 16 :: u 17 :: u 18 :: u 19 :: u 20 :: u 21 :: u 22 :: u 23 :: u 24 :: u 25 :: u 26 :: u 27 :: u 28 :: u 29 :: u 30 :: u 31 :: u 32 :: u 33 :: u 34 :: u 35 :: u 36 :: u 37 :: u 38 :: u 39 :: u 40 :: u 41 :: u 42 :: u 43 :: u 44 :: u 45 :: u 46 :: u 47 :: u 48 :: u 49 :: u 50 :: u 51 :: u 52 :: u 53 :: u 54 :: u 55 :: u 56 :: u 57 :: u 58 :: u 59 :: u 60 :: u 61 :: u 62 :: u 63 :: u 64 :: u 65 :: u 66 :: u 67 :: u 68 :: u 69 :: u 70 :: u 71 :: u 72 :: u 73 :: u 74 :: u 75 :: u 76 :: u 77 :: u 78 :: u 79 :: u 80 :: u 81 :: u 82 :: u 83 :: u 84 :: u 85 :: u 86 :: u 87 :: u 88 :: u 89 :: u 90 :: u 91 :: u 92 :: u 93 :: u 94 :: u 95 :: u 96 :: u 97 :: u 98 :: u 99 :: u 100 :: u 101 :: u 102 :: u 103 :: u 104 :: u 105 :: u 106 :: u 107 :: u 108 :: u 109 :: u 110 :: u 111 :: u 112 :: u 113 :: u 114 :: u 115 :: u 116 :: u 117 :: u 118 :: u 119 :: u 120 :: u 121 :: u 122 :: u 123 :: u 124 :: u 125 :: u 126 :: u 127 :: u 128 :: u 129 :: u 130 :: u 131 :: u 132 :: u 133 :: u 134 :: u 135 :: u 136 :: u 137 :: u 138 :: u 139 :: u 140 :: u 141 :: u 142 :: u 143 :: u 144 :: u 145 :: u 146 :: u 147 :: u 148 :: u 149 :: u 150 :: u 151 :: u 152 :: u 153 :: u 154 :: u 155 :: u 156 :: u 157 :: u 158 :: u 159 :: u 160 :: u 161 :: u 162 :: u 163 :: u 164 :: u 165 :: u 166 :: u 167 :: u 168 :: u 169 :: u 170 :: u 171 :: u 172 :: u 173 :: u 174 :: u 175 :: u 176 :: u 177 :: u 178 :: u 179 :: u 180 :: u 181 :: u 182 :: u 183 :: u 184 :: u 185 :: u 186 :: u 187 :: u 188 :: u 189 :: u 190 :: u 191 :: u 192 :: u 193 :: u 194 :: u 195 :: u 196 :: u 197 :: u 198 :: u 199 :: u 200 :: u 201 :: u 202 :: u 203 :: u 204 :: u 205 :: u 206 :: u 207 :: u 208 :: u 209 :: u 210 :: [] := rfl
set_option maxRecDepth 100000 in
theorem FrS.form {v0 v1 v4 v5 v6 v7 v8 v9 v10 v11 v21 : Value} {a : Act} (H : FrS v0 v1 v4 v5 v6 v7 v8 v9 v10 v11 v21 a) : ∃ u : Nat → Value, a = { tmps := List.toArray (v0 :: v1 :: u 2 :: u 3 :: v4 :: v5 :: v6 :: v7 :: v8 :: v9 :: v10 :: v11 :: u 12 :: u 13 :: u 14 :: u 15 :: u 16 :: u 17 :: u 18 :: u 19 :: u 20 :: v21 :: u 22 :: u 23 :: u 24 :: u 25 :: u 26 :: u 27 :: u 28 :: u 29 :: u 30 :: u 31 :: u 32 :: u 33 :: u 34 :: u 35 :: u 36 :: u 37 :: u 38 :: u 39 :: u 40 :: u 41 :: u 42 :: u 43 :: u 44 :: u 45 :: u 46 :: u 47 :: u 48 :: u 49 :: u 50 :: u 51 :: u 52 :: u 53 :: u 54 :: u 55 :: u 56 :: u 57 :: u 58 :: u 59 :: u 60 :: u 61 :: u 62 :: u 63 :: u 64 :: u 65 :: u 66 :: u 67 :: u 68 :: u 69 :: u 70 :: u 71 :: u 72 :: u 73 :: u 74 :: u 75 :: u 76 :: u 77 :: u 78 :: u 79 :: u 80 :: u 81 :: u 82 :: u 83 :: u 84 :: u 85 :: u 86 :: u 87 :: u 88 :: u 89 :: u 90 :: u 91 :: u 92 :: u 93 :: u 94 :: u 95 :: u 96 :: u 97 :: u 98 :: u 99 :: u 100 :: u 101 :: u 102 :: u 103 :: u 104 :: u 105 :: u 106 :: u 107 :: u 108 :: u 109 :: u 110 :: u 111 :: u 112 :: u 113 :: u 114 :: u 115 :: u 116 :: u 117 :: u 118 :: u 119 :: u 120 :: u 121 :: u 122 :: u 123 :: u 124 :: u 125 :: u 126 :: u 127 :: u 128 :: u 129 :: u 130 :: u 131 :: u 132 :: u 133 :: u 134 :: u 135 :: u 136 :: u 137 :: u 138 :: u 139 :: u 140 :: u 141 :: u 142 :: u 143 :: u 144 :: u 145 :: u 146 :: u 147 :: u 148 :: u 149 :: u 150 :: u 151 :: u 152 :: u 153 :: u 154 :: u 155 :: u 156 :: u 157 :: u 158 :: u 159 :: u 160 :: u 161 :: u 162 :: u 163 :: u 164 :: u 165 :: u 166 :: u 167 :: u 168 :: u 169 :: u 170 :: u 171 :: u 172 :: u 173 :: u 174 :: u 175 :: u 176 :: u 177 :: u 178 :: u 179 :: u 180 :: u 181 :: u 182 :: u 183 :: u 184 :: u 185 :: u 186 :: u 187 :: u 188 :: u 189 :: u 190 :: u 191 :: u 192 :: u 193 :: u 194 :: u 195 :: u 196 :: u 197 :: u 198 :: u 199 :: u 200 :: u 201 :: u 202 :: u 203 :: u 204 :: u 205 :: u 206 :: u 207 :: u 208 :: u 209 :: u 210 :: []), defers := [] } := by
  obtain ⟨tmps, defers⟩ := a
  obtain ⟨hz, h0, h1, h4, h5, h6, h7, h8, h9, h10, h11, h21, hd⟩ := H
  simp only at hz h0 h1 h4 h5 h6 h7 h8 h9 h10 h11 h21 hd
  subst hd
  refine ⟨fun i => tmps.getD i undef, ?_⟩
  congr 1
  apply Array.ext'
  have e : tmps.toList = (List.range 211).map (fun i => tmps.getD i undef) := by
    apply List.ext_getElem
    · simpa using hz
    · intro i a1 a2
      simp at a1
      simp [Array.getD, a1]
  rw [e]
  have g0 : tmps.getD 0 undef = v0 := by simp [Array.getD_eq_getD_getElem?, h0]
  have g1 : tmps.getD 1 undef = v1 := by simp [Array.getD_eq_getD_getElem?, h1]
  have g4 : tmps.getD 4 undef = v4 := by simp [Array.getD_eq_getD_getElem?, h4]
  have g5 : tmps.getD 5 undef = v5 := by simp [Array.getD_eq_getD_getElem?, h5]
  have g6 : tmps.getD 6 undef = v6 := by simp [Array.getD_eq_getD_getElem?, h6]
  have g7 : tmps.getD 7 undef = v7 := by simp [Array.getD_eq_getD_getElem?, h7]
  have g8 : tmps.getD 8 undef = v8 := by simp [Array.getD_eq_getD_getElem?, h8]
  have g9 : tmps.getD 9 undef = v9 := by simp [Array.getD_eq_getD_getElem?, h9]
  have g10 : tmps.getD 10 undef = v10 := by simp [Array.getD_eq_getD_getElem?, h10]
  have g11 : tmps.getD 11 undef = v11 := by simp [Array.getD_eq_getD_getElem?, h11]
  have g21 : tmps.getD 21 undef = v21 := by simp [Array.getD_eq_getD_getElem?, h21]
  rw [← g0, ← g1, ← g4, ← g5, ← g6, ← g7, ← g8, ← g9, ← g10, ← g11, ← g21]
  exact range211 (fun i => tmps.getD i undef)
section
set_option maxRecDepth 100000
set_option maxHeartbeats 1000000
variable {w : World}
/-- the end of a round: a good token is appended -/
theorem scan_tl_good {Q : Exit → Act → World → Prop} {v0 v1 v4 v5 v6 v7 v8 v9 v10 v11 v21 : Value} {a : Act} (H : FrS v0 v1 v4 v5 v6 v7 v8 v9 v10 v11 v21 a) {kt : Nat} (e9 : v9 = .pointer (some ⟨kt, 0, none⟩)) {k p nn : Nat} {er : Int} {tx : Bs} (hk : k ≠ 1) (ht : Has w kt #[.int .i64 k, .int .i64 p, sv tx, .int .u64 nn, .int .i64 er] 132) {sl : Sl} {n : Nat} {xs : List Value} (e4 : v4 = sl.v n) (hn : n ≤ 5000) (hown : w.ownsRow 0 132 5 (sl.v n) n xs) (hne : (sl.v n).ownBlock ≠ some kt)
    (hQ : ∀ a' g cap w2, FrS v0 v1 (.slice (some ⟨g, 0, none⟩) (n + 1) cap) v5 v6 v7 v8 v9 v10 v11 v21 a' → w2.ownsRow 0 132 5 (.slice (some ⟨g, 0, none⟩) (n + 1) cap) (n + 1) (xs ++ tokC ⟨k, p, tx, nn, 0⟩) → Fr (fun j => (sl.v n).ownBlock = some j) ((w.setCell ⟨kt, 4, none⟩ (.int .i64 0)).alloc (.cells (tokC ⟨k, p, tx, nn, 0⟩).toArray 132)) w2 → ((sl.v n).ownBlock = some g ∨ g = w.heap.size + 1) → g < w2.heap.size → Q .normal a' w2) :
    (scanTl Tryz.f60.body).wp Tryz.prog Q a w := by
  obtain ⟨u, rfl⟩ := H.form
  subst e9
  subst e4
  have d0 := ht.cell 0
  have d4 := ht.cell 4
  have dl := ht.lt
  have dz := ht.frozen 4
  simp only [List.getElem?_toArray, List.getElem?_cons_succ, List.getElem?_cons_zero] at d0 d4
  have hp := ht.put 4 (.int .i64 0)
  have y0 := hp.cell 0
  have y1 := hp.cell 1
  have y2 := hp.cell 2
  have y3 := hp.cell 3
  have y4 := hp.cell 4
  simp only [List.setIfInBounds_toArray, List.set_cons_succ, List.set_cons_zero, List.getElem?_toArray, List.getElem?_cons_succ, List.getElem?_cons_zero] at y0 y1 y2 y3 y4
  have HQ : Hid (∀ a' g cap w2, FrS v0 v1 (.slice (some ⟨g, 0, none⟩) (n + 1) cap) v5 v6 v7 v8 (.pointer (some ⟨kt, 0, none⟩)) v10 v11 v21 a' → w2.ownsRow 0 132 5 (.slice (some ⟨g, 0, none⟩) (n + 1) cap) (n + 1) (xs ++ tokC ⟨k, p, tx, nn, 0⟩) → Fr (fun j => (sl.v n).ownBlock = some j) ((w.setCell ⟨kt, 4, none⟩ (.int .i64 0)).alloc (.cells (tokC ⟨k, p, tx, nn, 0⟩).toArray 132)) w2 → ((sl.v n).ownBlock = some g ∨ g = w.heap.size + 1) → g < w2.heap.size → Q .normal a' w2) := hQ
  have HT : Hid (Has w kt #[.int .i64 k, .int .i64 p, sv tx, .int .u64 nn, .int .i64 er] 132) := ht
  have HOWN : Hid ((w.setCell ⟨kt, 4, none⟩ (.int .i64 0)).ownsRow 0 132 5 (sl.v n) n xs) := owns_other hown (p := ⟨kt, 4, none⟩) hne _
  have hk1 : ((k : Int) == 1) = false := by simp; omega
  clear hQ ht hown H hp
  simp only [scanTl, scanP7, scanL, cdR, cdL, cdIn, Tryz.f60, Option.getD_some]
  go_wp2_with (at_builtin; go_must (refine wpList_appN row_toks _ rfl (.tmp 200) (.tmp 202) rfl (sl.v n) n xs rfl (owns_alloc HOWN.out _) w.heap.size 1 1 (tokC ⟨k, p, tx, nn, 0⟩) rfl ?hB rfl (by omega) (tokC_one _) ?bd ?go))
  case hB =>
    have := Has.newSet w ⟨kt, 4, none⟩ (.int .i64 0) (tokC ⟨k, p, tx, nn, 0⟩).toArray 132
    exact this
  case bd => omega
  case go =>
    intro g cap w2 q1 q2 q3 q4
    go_wp2_with fail
    refine HQ.out _ g cap w2 ?_ q1 q2 q3 q4
    exact ⟨by kernel_rfl, by kernel_rfl, by kernel_rfl, by kernel_rfl, by kernel_rfl, by kernel_rfl, by kernel_rfl, by kernel_rfl, by kernel_rfl, by kernel_rfl, by kernel_rfl, by kernel_rfl, rfl⟩
/-- the end of a round: a bad token is the last -/
theorem scan_tl_bad {Q : Exit → Act → World → Prop} {v0 v1 v4 v5 v6 v7 v8 v9 v10 v11 v21 : Value} {a : Act} (H : FrS v0 v1 v4 v5 v6 v7 v8 v9 v10 v11 v21 a) {kt kL : Nat} (e9 : v9 = .pointer (some ⟨kt, 0, none⟩)) (e5 : v5 = .pointer (some ⟨kL, 0, none⟩)) {p nn : Nat} {er : Int} {tx : Bs} {cs : Array Value} (ht : Has w kt #[.int .i64 1, .int .i64 p, sv tx, .int .u64 nn, .int .i64 er] 132) (hL : Has w kL #[cs.getD 0 undef, cs.getD 1 undef, cs.getD 2 undef, cs.getD 3 undef, cs.getD 4 undef] 132)
    (hQ : ∀ a', FrS v0 v1 v4 v5 v6 v7 v8 v9 v10 v11 v21 a' → Q (.exit 0) a' (((((w.setCell ⟨kL, 0, none⟩ (.int .i64 1)).setCell ⟨kL, 1, none⟩ (.int .i64 p)).setCell ⟨kL, 2, none⟩ (sv tx)).setCell ⟨kL, 3, none⟩ (.int .u64 nn)).setCell ⟨kL, 4, none⟩ (.int .i64 er))) :
    (scanTl Tryz.f60.body).wp Tryz.prog Q a w := by
  obtain ⟨u, rfl⟩ := H.form
  subst e9
  subst e5
  have d0 := ht.cell 0
  have d1 := ht.cell 1
  have d2 := ht.cell 2
  have d3 := ht.cell 3
  have d4 := ht.cell 4
  have dl := ht.lt
  have dk := hL.lt
  have z0 := hL.frozen 0
  have z1 := hL.frozen 1
  have z2 := hL.frozen 2
  have z3 := hL.frozen 3
  have z4 := hL.frozen 4
  have x0 := hL.cell 0
  have x1 := hL.cell 1
  have x2 := hL.cell 2
  have x3 := hL.cell 3
  have x4 := hL.cell 4
  simp only [List.getElem?_toArray, List.getElem?_cons_succ, List.getElem?_cons_zero] at d0 d1 d2 d3 d4 x0 x1 x2 x3 x4
  generalize cs.getD 0 undef = k0 at *
  generalize cs.getD 1 undef = k1 at *
  generalize cs.getD 2 undef = k2 at *
  generalize cs.getD 3 undef = k3 at *
  generalize cs.getD 4 undef = k4 at *
  have HQ : Hid (∀ a', FrS v0 v1 v4 (.pointer (some ⟨kL, 0, none⟩)) v6 v7 v8 (.pointer (some ⟨kt, 0, none⟩)) v10 v11 v21 a' → Q (.exit 0) a' (((((w.setCell ⟨kL, 0, none⟩ (.int .i64 1)).setCell ⟨kL, 1, none⟩ (.int .i64 p)).setCell ⟨kL, 2, none⟩ (sv tx)).setCell ⟨kL, 3, none⟩ (.int .u64 nn)).setCell ⟨kL, 4, none⟩ (.int .i64 er))) := hQ
  clear hQ ht hL H
  simp only [scanTl, scanP7, scanL, cdR, cdL, cdIn, Tryz.f60, Option.getD_some]
  go_wp2_with fail
  exact HQ.out _ ⟨by kernel_rfl, by kernel_rfl, by kernel_rfl, by kernel_rfl, by kernel_rfl, by kernel_rfl, by kernel_rfl, by kernel_rfl, by kernel_rfl, by kernel_rfl, by kernel_rfl, by kernel_rfl, rfl⟩
end
end Go.Proofs.Qxb6500574aGreatDoor
