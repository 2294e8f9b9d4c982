/-
  THE WALK of table: CheckMid: its frame; what is seen.
-/
import Derived.Test.Qxb6500574aGreatDoorUCk0
import Derived.Test.Qxb6500574aGreatDoorVLoop0
namespace Go.Proofs.Qxb6500574aGreatDoor
open Go Go.RowKit
set_option linter.unusedVariables false
set_option linter.unusedSimpArgs false
set_option maxRecDepth 100000 in
theorem List.range249 {α : Type} (u : Nat → α) : (List.range 249).map u = u 0 :: u 1 :: u 2 :: u 3 :: u 4 :: u 5 :: u 6 :: u 7 :: u 8 :: u 9 :: u 10 :: u 11 :: u 12 :: u 13 :: u 14 :: u 15 :: u 16 :: u 17 :: u 18 :: u 19 :: u 20 :: u 21 :: u 22 :: u 23 :: u 24 :: u 25 :: u 26 :: u 27 :: u 28 :: u 29 :: u 30 :: u 31 :: u 32 :: u 33 :: u 34 :: u 35 :: u 36 :: u 37 :: u 38 :: u 39 :: u 40 :: u 41 :: u 42 :: u 43 :: u 44 :: u 45 :: u 46 :: u 47 :: u 48 :: u 49 :: u 50 :: u 51 :: u 52 :: u 53 :: u 54 :: u 55 :: u 56 :: u 57 :: u 58 :: u 59 :: u 60 :: u 61 :: u 62 :: u 63 :: u 64 :: u 65 :: u 66 :: u 67 :: u 68 :: u 69 :: u 70 :: u 71 :: u 72 :: u 73 :: u 74 :: u 75 :: u 76 :: u 77 :: u 78 :: u 79 :: u 80 :: u 81 :: u 82 :: u 83 :: u 84 :: u 85 :: u 86 :: u 87 :: u 88 :: u 89 :: u 90 :: u 91 :: u 92 :: u 93 :: u 94 :: u 95 :: u 96 :: u 97 :: u 98 :: u 99 :: u 100 :: u 101 :: u 102 :: u 103 :: u 104 :: u 105 :: u 106 :: u 107 :: u 108 :: u 109 :: u 110 :: u 111 :: u 112 :: u 113 :: u 114 :: u 115 :: u 116 :: u 117 :: u 118 :: u 119 :: u 120 :: u 121 :: u 122 :: u 123 :: u 124 :: u 125 :: u 126 :: u 127 :: u 128 :: u 129 :: u 130 :: u 131 :: u 132 :: u 133 :: u 134 :: u 135 :: u 136 :: u 137 :: u 138 :: u 139 :: u 140 :: u 141 :: u 142 :: u 143 :: u 144 :: u 145 :: u 146 :: u 147 :: u 148 :: u 149 :: u 150 :: u 151 :: u 152 :: u 153 :: u 154 :: u 155 :: u 156 :: u 157 :: u 158 :: u 159 :: u 160 :: u 161 :: u 162 :: u 163 :: u 164 :: u 165 :: u 166 :: u 167 :: u 168 :: u 169 :: u 170 :: u 171 :: u 172 :: u 173 :: u 174 :: u 175 :: u 176 :: u 177 :: u 178 :: u 179 :: u 180 :: u 181 :: u 182 :: u 183 :: u 184 :: u 185 :: u 186 :: u 187 :: u 188 :: u 189 :: u 190 :: u 191 :: u 192 :: u 193 :: u 194 :: u 195 :: u 196 :: u 197 :: u 198 :: u 199 :: u 200 :: u 201 :: u 202 :: u 203 :: u 204 :: u 205 :: u 206 :: u 207 :: u 208 :: u 209 :: u 210 :: u 211 :: u 212 :: u 213 :: u 214 :: u 215 :: u 216 :: u 217 :: u 218 :: u 219 :: u 220 :: u 221 :: u 222 :: u 223 :: u 224 :: u 225 :: u 226 :: u 227 :: u 228 :: u 229 :: u 230 :: u 231 :: u 232 :: u 233 :: u 234 :: u 235 :: u 236 :: u 237 :: u 238 :: u 239 :: u 240 :: u 241 :: u 242 :: u 243 :: u 244 :: u 245 :: u 246 :: u 247 :: u 248 :: [] := rfl
set_option maxRecDepth 100000 in
theorem form249 {a : Act} (h1 : a.tmps.size = 249) (h5 : a.defers = []) : ∃ u : Nat → Value, a = { tmps := List.toArray (u 0 :: u 1 :: u 2 :: u 3 :: u 4 :: u 5 :: u 6 :: u 7 :: u 8 :: u 9 :: u 10 :: u 11 :: u 12 :: u 13 :: u 14 :: u 15 :: u 16 :: u 17 :: u 18 :: u 19 :: u 20 :: u 21 :: u 22 :: u 23 :: u 24 :: u 25 :: u 26 :: u 27 :: u 28 :: u 29 :: u 30 :: u 31 :: u 32 :: u 33 :: u 34 :: u 35 :: u 36 :: u 37 :: u 38 :: u 39 :: u 40 :: u 41 :: u 42 :: u 43 :: u 44 :: u 45 :: u 46 :: u 47 :: u 48 :: u 49 :: u 50 :: u 51 :: u 52 :: u 53 :: u 54 :: u 55 :: u 56 :: u 57 :: u 58 :: u 59 :: u 60 :: u 61 :: u 62 :: u 63 :: u 64 :: u 65 :: u 66 :: u 67 :: u 68 :: u 69 :: u 70 :: u 71 :: u 72 :: u 73 :: u 74 :: u 75 :: u 76 :: u 77 :: u 78 :: u 79 :: u 80 :: u 81 :: u 82 :: u 83 :: u 84 :: u 85 :: u 86 :: u 87 :: u 88 :: u 89 :: u 90 :: u 91 :: u 92 :: u 93 :: u 94 :: u 95 :: u 96 :: u 97 :: u 98 :: u 99 :: u 100 :: u 101 :: u 102 :: u 103 :: u 104 :: u 105 :: u 106 :: u 107 :: u 108 :: u 109 :: u 110 :: u 111 :: u 112 :: u 113 :: u 114 :: u 115 :: u 116 :: u 117 :: u 118 :: u 119 :: u 120 :: u 121 :: u 122 :: u 123 :: u 124 :: u 125 :: u 126 :: u 127 :: u 128 :: u 129 :: u 130 :: u 131 :: u 132 :: u 133 :: u 134 :: u 135 :: u 136 :: u 137 :: u 138 :: u 139 :: u 140 :: u 141 :: u 142 :: u 143 :: u 144 :: u 145 :: u 146 :: u 147 :: u 148 :: u 149 :: u 150 :: u 151 :: u 152 :: u 153 :: u 154 :: u 155 :: u 156 :: u 157 :: u 158 :: u 159 :: u 160 :: u 161 :: u 162 :: u 163 :: u 164 :: u 165 :: u 166 :: u 167 :: u 168 :: u 169 :: u 170 :: u 171 :: u 172 :: u 173 :: u 174 :: u 175 :: u 176 :: u 177 :: u 178 :: u 179 :: u 180 :: u 181 :: u 182 :: u 183 :: u 184 :: u 185 :: u 186 :: u 187 :: u 188 :: u 189 :: u 190 :: u 191 :: u 192 :: u 193 :: u 194 :: u 195 :: u 196 :: u 197 :: u 198 :: u 199 :: u 200 :: u 201 :: u 202 :: u 203 :: u 204 :: u 205 :: u 206 :: u 207 :: u 208 :: u 209 :: u 210 :: u 211 :: u 212 :: u 213 :: u 214 :: u 215 :: u 216 :: u 217 :: u 218 :: u 219 :: u 220 :: u 221 :: u 222 :: u 223 :: u 224 :: u 225 :: u 226 :: u 227 :: u 228 :: u 229 :: u 230 :: u 231 :: u 232 :: u 233 :: u 234 :: u 235 :: u 236 :: u 237 :: u 238 :: u 239 :: u 240 :: u 241 :: u 242 :: u 243 :: u 244 :: u 245 :: u 246 :: u 247 :: u 248 :: []), defers := [] } ∧ ∀ k v, a.tmps[k]? = some v → u k = v := by
  obtain ⟨tmps, defers⟩ := a
  simp only at h1 h5
  subst h5
  refine ⟨fun i => tmps.getD i undef, ?_, fun k v hk => ?_⟩
  · congr 1
    apply Array.ext'
    have e : tmps.toList = (List.range 249).map (fun i => tmps.getD i undef) := by
      apply List.ext_getElem
      · simpa using h1
      · intro i a1 a2
        simp at a1
        simp [Array.getD, a1]
    rw [e]
    exact List.range249 (fun i => tmps.getD i undef)
  · show tmps.getD k undef = v
    simp [Array.getD_eq_getD_getElem?, hk]
/-- the frame: the tables, the result's cell, the table, the list of what was seen -/
structure FrM (bt g h D B : Nat) (a : Act) : Prop where
  size : a.tmps.size = 249
  df : a.defers = []
  t0 : a.tmps[0]? = some (.pointer (some ⟨bt, 0, none⟩))
  t4 : a.tmps[4]? = some (.pointer (some ⟨D, 0, none⟩))
  t5 : a.tmps[5]? = some (.pointer (some ⟨g, h * 6, none⟩))
  t6 : a.tmps[6]? = some (.pointer (some ⟨B, 0, none⟩))
/-- what was seen lies in S -/
structure Seen (w W : World) (D B : Nat) (sn : List Bool) (S : Nat → Prop) : Prop where
  fr : Fr (fun _ => False) w W
  d : Has W D #[.bool false] 4
  dw : w.heap.size ≤ D
  h : Has W B (snC sn) 343
  bw : w.heap.size ≤ B
  ne : B ≠ D
  len : sn.length = 32
  ok : ∀ q, sn[q]? = some true → S q
section
variable {w W W1 : World} {D B : Nat} {sn : List Bool} {S S1 : Nat → Prop}
theorem Seen.mono (h : Seen w W D B sn S) (f : Fr (fun k => w.heap.size ≤ k ∧ k ≠ B ∧ k ≠ D) W W1) : Seen w W1 D B sn S :=
  ⟨h.fr.trans f (fun j hj x => by omega), h.d.fr f (fun x => x.2.2 rfl), h.dw, h.h.fr f (fun x => x.2.1 rfl), h.bw, h.ne, h.len, h.ok⟩
theorem Seen.fresh (h : Seen w W D B sn S) (f : Fr (fun _ => False) W W1) : Seen w W1 D B sn S := h.mono (f.weaken (fun _ _ x => x.elim))
theorem Seen.wide (h : Seen w W D B sn S) (hs : ∀ q, S q → S1 q) : Seen w W D B sn S1 := ⟨h.fr, h.d, h.dw, h.h, h.bw, h.ne, h.len, fun q hq => hs q (h.ok q hq)⟩
theorem Seen.not (h : Seen w W D B sn S) {p : Nat} (hp : p < 32) (hn : ¬ S p) : sn[p]? = some false := by
  have hl : p < sn.length := by rw [h.len]; exact hp
  rw [List.getElem?_eq_getElem hl]
  cases hb : sn[p] with
  | false => rfl
  | true => exact absurd (h.ok p (by rw [List.getElem?_eq_getElem hl, hb])) hn
theorem Seen.put (h : Seen w W D B sn S) {p : Nat} (hB : Has W1 B (snC (sn.set p true)) 343) (f : Fr (fun j => j = B) W W1) : Seen w W1 D B (sn.set p true) (fun q => S q ∨ q = p) := by
  refine ⟨h.fr.trans f (fun j hj x => by have := h.bw; omega), h.d.fr f (fun x => h.ne x.symm), h.dw, hB, h.bw, h.ne, by rw [List.length_set]; exact h.len, fun q hq => ?_⟩
  by_cases e : p = q
  · exact .inr e.symm
  · rw [List.getElem?_set_ne e] at hq
    exact .inl (h.ok q hq)
theorem es_mem {α : Type} {K : α → Value} {es : Array MapEntry} {l : List (α × Nat)} (he : es.toList.map (fun e => (e.key, e.val)) = ents K l) {e : MapEntry} (h : e ∈ es.toList) : ∃ x ∈ l, e.key = K x.1 ∧ e.val = .int .i32 (x.2 : Nat) := by
  have h1 : (e.key, e.val) ∈ es.toList.map (fun e => (e.key, e.val)) := List.mem_map.2 ⟨e, h, rfl⟩
  rw [he] at h1
  obtain ⟨x, hx, hxe⟩ := List.mem_map.1 h1
  refine ⟨x, hx, ?_, ?_⟩
  · exact (congrArg Prod.fst hxe).symm
  · exact (congrArg Prod.snd hxe).symm
theorem es_inj {α : Type} {K : α → Value} {es : Array MapEntry} {l : List (α × Nat)} (he : es.toList.map (fun e => (e.key, e.val)) = ents K l) (hn : (l.map (fun e => e.2)).Nodup) {e e' : MapEntry} (h : e ∈ es.toList) (h' : e' ∈ es.toList) (hv : e.val = e'.val) : e = e' := by
  obtain ⟨i, hi, ei⟩ := List.getElem_of_mem h
  obtain ⟨j, hj, ej⟩ := List.getElem_of_mem h'
  have hl : es.toList.length = l.length := by have := congrArg List.length he; simpa [ents] using this
  have at' : ∀ (k : Nat) (hk : k < es.toList.length), es.toList[k].val = .int .i32 ((l[k]'(by omega)).2 : Nat) := by
    intro k hk
    have h1 : (es.toList.map (fun e => (e.key, e.val)))[k]? = (ents K l)[k]? := by rw [he]
    rw [List.getElem?_map, List.getElem?_eq_getElem hk, ents, List.getElem?_map, List.getElem?_eq_getElem (show k < l.length by omega)] at h1
    simp only [Option.map_some, Option.some.injEq, Prod.mk.injEq] at h1
    exact h1.2
  have e1 := at' i hi
  have e2 := at' j hj
  rw [ei, hv, ← ej, e2] at e1
  have e3 : (l[j]'(by omega)).2 = (l[i]'(by omega)).2 := by
    have : ((l[j]'(by omega)).2 : Int) = ((l[i]'(by omega)).2 : Int) := by injection e1
    omega
  have hij : j = i := by
    have h1 : (l.map (fun e => e.2))[j]'(by simp; omega) = (l.map (fun e => e.2))[i]'(by simp; omega) := by simpa using e3
    exact (List.getElem_inj hn).1 h1
  subst hij
  rw [← ei, ej]
/-- the entries that the iterator gave -/
def Gone (es : Array MapEntry) (seen : Array Nat) (q : Nat) : Prop := ∃ e ∈ es.toList, e.born ∈ seen.toList ∧ e.val = .int .i32 q
theorem gone_push {es : Array MapEntry} {seen : Array Nat} {e : MapEntry} {p : Nat} (he : e ∈ es.toList) (hv : e.val = .int .i32 p) {q : Nat} (h : Gone es seen q ∨ q = p) : Gone es (seen.push e.born) q := by
  rcases h with ⟨e', h1, h2, h3⟩ | rfl
  · exact ⟨e', h1, by simp [List.mem_append]; exact .inl (by simpa using h2), h3⟩
  · exact ⟨e, he, by simp, hv⟩
theorem left_mem {es : Array MapEntry} {seen : Array Nat} {e : MapEntry} (h : e ∈ (leftOf es seen).toList) : e ∈ es.toList ∧ e.born ∉ seen.toList := by
  unfold leftOf at h
  simp only [Array.toList_filter, List.mem_filter] at h
  refine ⟨h.1, fun x => ?_⟩
  have := h.2
  simp at this
  exact this (by simpa using x)
theorem not_gone {α : Type} {K : α → Value} {es : Array MapEntry} {l : List (α × Nat)} (he : es.toList.map (fun e => (e.key, e.val)) = ents K l) (hn : (l.map (fun e => e.2)).Nodup) {seen : Array Nat} {e : MapEntry} (h : e ∈ (leftOf es seen).toList) {p : Nat} (hv : e.val = .int .i32 p) : ¬ Gone es seen p := by
  rintro ⟨e', h1, h2, h3⟩
  obtain ⟨h4, h5⟩ := left_mem h
  have := es_inj he hn h1 h4 (h3.trans hv.symm)
  subst this
  exact h5 h2
theorem gone_mem {α : Type} {K : α → Value} {es : Array MapEntry} {l : List (α × Nat)} (he : es.toList.map (fun e => (e.key, e.val)) = ents K l) {seen : Array Nat} {q : Nat} (h : Gone es seen q) : q ∈ l.map (fun e => e.2) := by
  obtain ⟨e, h1, h2, h3⟩ := h
  obtain ⟨x, hx, _, h5⟩ := es_mem he h1
  rw [h3] at h5
  have : (q : Int) = (x.2 : Int) := by injection h5
  exact List.mem_map.2 ⟨x, hx, by omega⟩
end
section
variable {w W : World} {o : Nat → Nat} {bt bn n h g : Nat} {s : Sl} {xs : List (TabD × TbL)} {t : TabD} {l : TbL} {D B : Nat} {sn : List Bool} {S : Nat → Prop}
theorem points_seen (r : TabsRep w o bt bn s n xs) (hx : xs[h]? = some (t, l)) (hg : s.a = some ⟨g, 0, none⟩) (hol : t.order.length ≤ 32) (hS : Seen w W D B sn S) {p : Nat} {k : Vl} (hp : ∃ x, t.order[p]? = some x ∧ x.1 = k) (hn : ¬ S p) :
    Calls Tryz.prog 215 #[.pointer (some ⟨g, h * 6, none⟩), .int .i32 p, k.val, .pointer (some ⟨B, 0, none⟩)] W fun e w' => e = .returned (.bool true) ∧ Seen w w' D B (sn.set p true) (fun q => S q ∨ q = p) ∧ Fr (fun j => j = B) W w' := by
  obtain ⟨x, h1, h2⟩ := hp
  obtain ⟨g', ga, _, _, gl, gc, gf⟩ := r.at hx
  rw [hg] at ga
  cases ga
  obtain ⟨go, q1, q2, q3, q4, q5, q6⟩ := ((r.one h _ hx).ord).at eCells_len (show (t, l).1.order[p]? = some x from h1)
  have c0 := gc 0 (by omega)
  have k0 := hS.fr.cell (q5 0 (by omega))
  have k1 := hS.fr.cell (q5 1 (by omega))
  have k2 := hS.fr.cell (q5 2 (by omega))
  dsimp only at q1
  simp only [tbCells, eCells, vCells, List.cons_append, List.nil_append, List.getElem?_cons_succ, List.getElem?_cons_zero, Sl.v, Nat.add_zero, q1, h2] at c0 k0 k1 k2
  have hpl := (List.getElem?_eq_some_iff.1 h1).1
  have hb := hS.bw
  have hsz := hS.fr.size
  refine (points_any (k := k) hS.len hS.h (by omega) (show B ≠ go by omega) (by omega) (hS.fr.cell c0) rfl (show go < W.heap.size by omega) hpl (by omega) (hS.not (by omega) hn) k0 k1 k2).mono ?_
  rintro e w' ⟨rfl, e2, e3⟩
  exact ⟨rfl, hS.put e2 e3, e3⟩
end
end Go.Proofs.Qxb6500574aGreatDoor
