/-
  THE WALK of vm: loop: its frame.
-/
import Derived.Test.Qxb6500574aGreatDoorVCall6
import Derived.Test.Qxb6500574aGreatDoorVSo4
import Derived.Scope
import Derived.Deep.LoopGhost
namespace Go.Proofs.Qxb6500574aGreatDoor
open Go Go.RowKit
set_option linter.unusedVariables false
set_option linter.unusedSimpArgs false
def codeL : Code → Code
  | .seq a _ => a
  | c => c
def codeR : Code → Code
  | .seq _ b => b
  | c => c
def codeIn : Code → Code
  | .block _ b => b
  | .loop b => b
  | .scope b => b
  | c => c
/-- the frame of loop -/
structure Fr62 (b bT i b6 b7 : Nat) (a : Act) : Prop where
  size : a.tmps.size = 222
  t0 : a.tmps[0]? = some (.pointer (some ⟨b, 0, none⟩))
  t1 : a.tmps[1]? = some (.int .i64 i)
  t2 : a.tmps[2]? = some (.pointer (some ⟨bT, i * 5, none⟩))
  t6 : a.tmps[6]? = some (.pointer (some ⟨b6, 0, none⟩))
  t7 : a.tmps[7]? = some (.pointer (some ⟨b7, 0, none⟩))
  df : a.defers = []
set_option maxRecDepth 100000 in
theorem List.range222 {α : Type} (u : Nat → α) : (List.range 222).map u = u 0 :: u 1 :: u 2 :: u 3 :: u 4 :: u 5 :: u 6 :: u 7 :: u 8 :: u 9 :: u 10 :: u 11 :: u 12 :: u 13 :: u 14 :: u 15 :: u 16 :: u 17 :: u 18 :: u 19 :: u 20 :: u 21 :: u 22 :: u 23 :: u 24 :: u 25 :: u 26 :: u 27 :: u 28 :: u 29 :: u 30 :: u 31 :: u 32 :: u 33 :: u 34 :: u 35 :: u 36 :: u 37 :: u 38 :: u 39 :: u 40 :: u 41 :: u 42 :: u 43 :: u 44 :: u 45 :: u 46 :: u 47 :: u 48 :: u 49 :: u 50 :: u 51 :: u 52 :: u 53 :: u 54 :: u 55 :: u 56 :: u 57 :: u 58 :: u 59 :: u 60 :: u 61 :: u 62 :: u 63 :: u 64 :: u 65 :: u 66 :: u 67 :: u 68 :: u 69 :: u 70 :: u 71 :: u 72 :: u 73 :: u 74 :: u 75 :: u 76 :: u 77 :: u 78 :: u 79 :: u 80 :: u 81 :: u 82 :: u 83 :: u 84 :: u 85 :: u 86 :: u 87 :: u 88 :: u 89 :: u 90 :: u 91 :: u 92 :: u 93 :: u 94 :: u 95 :: u 96 :: u 97 :: u 98 :: u 99 :: u 100 :: u 101 :: u 102 :: u 103 :: u 104 :: u 105 :: u 106 :: u 107 :: u 108 :: u 109 :: u 110 :: u 111 :: u 112 :: u 113 :: u 114 :: u 115 :: u 116 :: u 117 :: u 118 :: u 119 :: u 120 :: u 121 :: u 122 :: u 123 :: u 124 :: u 125 :: u 126 :: u 127 :: u 128 :: u 129 :: u 130 :: u 131 :: u 132 :: u 133 :: u 134 :: u 135 :: u 136 :: u 137 :: u 138 :: u 139 :: u 140 :: u 141 :: u 142 :: u 143 :: u 144 :: u 145 :: u 146 :: u 147 :: u 148 :: u 149 :: u 150 :: u 151 :: u 152 :: u 153 :: u 154 :: u 155 :: u 156 :: u 157 :: u 158 :: u 159 :: u 160 :: u 161 :: u 162 :: u 163 :: u 164 :: u 165 :: u 166 :: u 167 :: u 168 :: u 169 :: u 170 :: u 171 :: u 172 :: u 173 :: u 174 :: u 175 :: u 176 :: u 177 :: u 178 :: u 179 :: u 180 :: u 181 :: u 182 :: u 183 :: u 184 :: u 185 :: u 186 :: u 187 :: u 188 :: u 189 :: u 190 :: u 191 :: u 192 :: u 193 :: u 194 :: u 195 :: u 196 :: u 197 :: u 198 :: u 199 :: u 200 :: u 201 :: u 202 :: u 203 :: u 204 :: u 205 :: u 206 :: u 207 :: u 208 :: u 209 :: u 210 :: u 211 :: u 212 :: u 213 :: u 214 :: u 215 :: u 216 :: u 217 :: u 218 :: u 219 :: u 220 :: u 221 :: [] := rfl
set_option maxRecDepth 100000 in
theorem Fr62.form {b bT i b6 b7 : Nat} {a : Act} (H : Fr62 b bT i b6 b7 a) : ∃ u : Nat → Value, a = { tmps := List.toArray (.pointer (some ⟨b, 0, none⟩) :: .int .i64 i :: .pointer (some ⟨bT, i * 5, none⟩) :: u 3 :: u 4 :: u 5 :: .pointer (some ⟨b6, 0, none⟩) :: .pointer (some ⟨b7, 0, none⟩) :: u 8 :: u 9 :: u 10 :: u 11 :: u 12 :: u 13 :: u 14 :: u 15 :: u 16 :: u 17 :: u 18 :: u 19 :: u 20 :: u 21 :: u 22 :: u 23 :: u 24 :: u 25 :: u 26 :: u 27 :: u 28 :: u 29 :: u 30 :: u 31 :: u 32 :: u 33 :: u 34 :: u 35 :: u 36 :: u 37 :: u 38 :: u 39 :: u 40 :: u 41 :: u 42 :: u 43 :: u 44 :: u 45 :: u 46 :: u 47 :: u 48 :: u 49 :: u 50 :: u 51 :: u 52 :: u 53 :: u 54 :: u 55 :: u 56 :: u 57 :: u 58 :: u 59 :: u 60 :: u 61 :: u 62 :: u 63 :: u 64 :: u 65 :: u 66 :: u 67 :: u 68 :: u 69 :: u 70 :: u 71 :: u 72 :: u 73 :: u 74 :: u 75 :: u 76 :: u 77 :: u 78 :: u 79 :: u 80 :: u 81 :: u 82 :: u 83 :: u 84 :: u 85 :: u 86 :: u 87 :: u 88 :: u 89 :: u 90 :: u 91 :: u 92 :: u 93 :: u 94 :: u 95 :: u 96 :: u 97 :: u 98 :: u 99 :: u 100 :: u 101 :: u 102 :: u 103 :: u 104 :: u 105 :: u 106 :: u 107 :: u 108 :: u 109 :: u 110 :: u 111 :: u 112 :: u 113 :: u 114 :: u 115 :: u 116 :: u 117 :: u 118 :: u 119 :: u 120 :: u 121 :: u 122 :: u 123 :: u 124 :: u 125 :: u 126 :: u 127 :: u 128 :: u 129 :: u 130 :: u 131 :: u 132 :: u 133 :: u 134 :: u 135 :: u 136 :: u 137 :: u 138 :: u 139 :: u 140 :: u 141 :: u 142 :: u 143 :: u 144 :: u 145 :: u 146 :: u 147 :: u 148 :: u 149 :: u 150 :: u 151 :: u 152 :: u 153 :: u 154 :: u 155 :: u 156 :: u 157 :: u 158 :: u 159 :: u 160 :: u 161 :: u 162 :: u 163 :: u 164 :: u 165 :: u 166 :: u 167 :: u 168 :: u 169 :: u 170 :: u 171 :: u 172 :: u 173 :: u 174 :: u 175 :: u 176 :: u 177 :: u 178 :: u 179 :: u 180 :: u 181 :: u 182 :: u 183 :: u 184 :: u 185 :: u 186 :: u 187 :: u 188 :: u 189 :: u 190 :: u 191 :: u 192 :: u 193 :: u 194 :: u 195 :: u 196 :: u 197 :: u 198 :: u 199 :: u 200 :: u 201 :: u 202 :: u 203 :: u 204 :: u 205 :: u 206 :: u 207 :: u 208 :: u 209 :: u 210 :: u 211 :: u 212 :: u 213 :: u 214 :: u 215 :: u 216 :: u 217 :: u 218 :: u 219 :: u 220 :: u 221 :: []), defers := [] } := by
  obtain ⟨tmps, defers⟩ := a
  obtain ⟨h1, h2, h3, h4, h6, h7, h5⟩ := H
  simp only at h1 h2 h3 h4 h5 h6 h7
  subst h5
  refine ⟨fun i => tmps.getD i undef, ?_⟩
  congr 1
  apply Array.ext'
  have e : tmps.toList = (List.range 222).map (fun i => tmps.getD i undef) := by
    apply List.ext_getElem
    · simpa using h1
    · intro i a1 a2
      simp at a1
      simp [Array.getD, a1]
  rw [e]
  have g0 : tmps.getD 0 undef = .pointer (some ⟨b, 0, none⟩) := by simp [Array.getD_eq_getD_getElem?, h2]
  have g1 : tmps.getD 1 undef = .int .i64 i := by simp [Array.getD_eq_getD_getElem?, h3]
  have g2 : tmps.getD 2 undef = .pointer (some ⟨bT, i * 5, none⟩) := by simp [Array.getD_eq_getD_getElem?, h4]
  have g6 : tmps.getD 6 undef = .pointer (some ⟨b6, 0, none⟩) := by simp [Array.getD_eq_getD_getElem?, h6]
  have g7 : tmps.getD 7 undef = .pointer (some ⟨b7, 0, none⟩) := by simp [Array.getD_eq_getD_getElem?, h7]
  rw [← g0, ← g1, ← g2, ← g6, ← g7]
  exact List.range222 (fun i => tmps.getD i undef)
def roundOf (c : Option Code) : Code := codeIn (codeIn (codeIn (codeL (codeR (codeR (codeIn (codeR (c.getD .skip))))))))
section
variable {w : World} {b bT i : Nat}
set_option maxRecDepth 100000
set_option maxHeartbeats 600000
/-- where the loop is left by its exit -/
def LDone (Post : Ending → World → Prop) (b6 b7 : Nat) (w' : World) : Prop := ∃ ev : EvD, Has w' b6 (evCells ev0) 190 ∧ Has w' b7 (evCells ev) 190 ∧ b6 ≠ b7 ∧ Post (.returned ev.val) (set9 w' b6 ev)
/-- the loop by its rounds: I n holds at a round's head: n rounds at most are to come -/
theorem loop_rounds {Post : Ending → World → Prop} (I : Nat → World → Prop) (n0 : Nat) (h0 : I n0 ((w.alloc (.cells #[.int .i64 0, .int .i64 0, .int .i64 0, .int .i64 0, .int .u64 0, sv [], .int .i64 0, .int .u64 0, sv []] 190)).alloc (.cells #[.int .i64 0, .int .i64 0, .int .i64 0, .int .i64 0, .int .u64 0, sv [], .int .i64 0, .int .u64 0, sv []] 190)))
    (round : ∀ n w1, I n w1 → ∀ a, Fr62 b bT i w.heap.size (w.heap.size + 1) a → ∀ Q : Exit → Act → World → Prop,
      (∀ c a t v w, Q (.panic c) (a.put (some t) v) w → Q (.panic c) a w) →
      (∀ n' a' w', n' < n → Fr62 b bT i w.heap.size (w.heap.size + 1) a' → I n' w' → Q .normal a' w' ∧ Q (.exit 1) a' w') →
      (∀ a' w', Fr62 b bT i w.heap.size (w.heap.size + 1) a' → LDone Post w.heap.size (w.heap.size + 1) w' → Q (.exit 0) a' w') →
      (∀ a' w' c, a'.defers = [] → Post (.panicked c) w' → Q (.panic c) a' w') → (roundOf Tryz.f214.body).wp Tryz.prog Q a w1) :
    Calls Tryz.prog 214 #[.pointer (some ⟨b, 0, none⟩), .int .i64 i, .pointer (some ⟨bT, i * 5, none⟩)] w Post := by
  go_enter Tryz.func214, Tryz.ntmps214
  go_wp2_with fail
  refine wp_scope_straight ?_
  refine wp_seq ?_
  go_wp2_with fail
  refine wp_label ?_
  go_wp2_with fail
  refine wp_loop_ghost (fun n a' w' => Fr62 b bT i w.heap.size (w.heap.size + 1) a' ∧ I n w') n0 ?_ ?_
  · exact ⟨⟨by kernel_rfl, by kernel_rfl, by kernel_rfl, by kernel_rfl, by kernel_rfl, by kernel_rfl, rfl⟩, h0⟩
  rintro n a w1 ⟨ha, hI⟩
  refine wp_block ?_
  refine round n w1 hI a ha _ ?_ ?_ ?_ ?_
  · intro c a t v w h
    exact h
  · intro n' a' w' hn ha' hI'
    exact ⟨⟨n', hn, ha', hI'⟩, ⟨n', hn, ha', hI'⟩⟩
  · intro a' w' ha' hd
    obtain ⟨u, rfl⟩ := ha'.form
    obtain ⟨⟨ek, eth, ee, ⟨vt, vn, vs⟩, ⟨wt, wn, ws⟩⟩, hb6, hb7, hne, hp⟩ := hd
    have H6 : Hid (Has w' w.heap.size (evCells ev0) 190) := hb6
    obtain ⟨x0, x1, x2, x3, x4, x5, x6, x7, x8⟩ := hb6.ev
    obtain ⟨y0, y1, y2, y3, y4, y5, y6, y7, y8⟩ := hb7.ev
    dsimp only [ev0, nilV] at x0 x1 x2 x3 x4 x5 x6 x7 x8 y0 y1 y2 y3 y4 y5 y6 y7 y8
    have hbe := hb6.lt
    have hbf := hb7.lt
    have hz := hb6.frozen
    have hz0 := hz 0
    have hz1 := hz 1
    have hz2 := hz 2
    have hz3 := hz 3
    have hz4 := hz 4
    have hz5 := hz 5
    have hz6 := hz 6
    have hz7 := hz 7
    have hz8 := hz 8
    have HP : Hid (Post (.returned (EvD.val ⟨ek, eth, ee, ⟨vt, vn, vs⟩, ⟨wt, wn, ws⟩⟩)) (set9 w' w.heap.size ⟨ek, eth, ee, ⟨vt, vn, vs⟩, ⟨wt, wn, ws⟩⟩)) := hp
    clear hz hp hb6 hb7 round h0 hI ha ha'
    go_wp2_with fail
    exact bodyPost_ret (res_cell isEvent rfl rfl (Has.set9 ⟨ek, eth, ee, ⟨vt, vn, vs⟩, ⟨wt, wn, ws⟩⟩ H6.out) rfl) rfl HP.out
  · intro a' w' c hd hp
    exact ⟨hd, hp⟩
end
end Go.Proofs.Qxb6500574aGreatDoor
