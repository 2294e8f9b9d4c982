/-
  THE WALKS of syntaxm: next: the tokens.
-/
import Derived.Test.Qxb6500574aGreatDoorZQ4
import Derived.Test.Qxb6500574aGreatDoorZQ7
import Derived.Test.Qxb6500574aGreatDoorZA10
namespace Go.Proofs.Qxb6500574aGreatDoor
open Go Go.RowKit
set_option linter.unusedVariables false
set_option linter.unusedSimpArgs false
def n1 (c : Option Code) : Code := zR (zR (zR (zR (nxT c))))
def n2 (c : Option Code) : Code := zR (n1 c)
def n3 (c : Option Code) : Code := zR (n2 c)
def n4 (c : Option Code) : Code := zR (n3 c)
def n5 (c : Option Code) : Code := zR (n4 c)
structure FrMz (v0 v2 v4 v5 v6 : Value) (a : Act) : Prop where
  size : a.tmps.size = 385
  t0 : a.tmps[0]? = some v0
  t2 : a.tmps[2]? = some v2
  t4 : a.tmps[4]? = some v4
  t5 : a.tmps[5]? = some v5
  t6 : a.tmps[6]? = some v6
  df : a.defers = []
set_option maxRecDepth 100000 in
theorem FrMz.form {v0 v2 v4 v5 v6 : Value} {a : Act} (H : FrMz v0 v2 v4 v5 v6 a) : ∃ u : Nat → Value, a = { tmps := List.toArray (v0 :: u 1 :: v2 :: u 3 :: v4 :: v5 :: v6 :: u 7 :: u 8 :: u 9 :: u 10 :: u 11 :: u 12 :: u 13 :: u 14 :: u 15 :: u 16 :: u 17 :: u 18 :: u 19 :: u 20 :: u 21 :: u 22 :: u 23 :: u 24 :: u 25 :: u 26 :: u 27 :: u 28 :: u 29 :: u 30 :: u 31 :: u 32 :: u 33 :: u 34 :: u 35 :: u 36 :: u 37 :: u 38 :: u 39 :: u 40 :: u 41 :: u 42 :: u 43 :: u 44 :: u 45 :: u 46 :: u 47 :: u 48 :: u 49 :: u 50 :: u 51 :: u 52 :: u 53 :: u 54 :: u 55 :: u 56 :: u 57 :: u 58 :: u 59 :: u 60 :: u 61 :: u 62 :: u 63 :: u 64 :: u 65 :: u 66 :: u 67 :: u 68 :: u 69 :: u 70 :: u 71 :: u 72 :: u 73 :: u 74 :: u 75 :: u 76 :: u 77 :: u 78 :: u 79 :: u 80 :: u 81 :: u 82 :: u 83 :: u 84 :: u 85 :: u 86 :: u 87 :: u 88 :: u 89 :: u 90 :: u 91 :: u 92 :: u 93 :: u 94 :: u 95 :: u 96 :: u 97 :: u 98 :: u 99 :: u 100 :: u 101 :: u 102 :: u 103 :: u 104 :: u 105 :: u 106 :: u 107 :: u 108 :: u 109 :: u 110 :: u 111 :: u 112 :: u 113 :: u 114 :: u 115 :: u 116 :: u 117 :: u 118 :: u 119 :: u 120 :: u 121 :: u 122 :: u 123 :: u 124 :: u 125 :: u 126 :: u 127 :: u 128 :: u 129 :: u 130 :: u 131 :: u 132 :: u 133 :: u 134 :: u 135 :: u 136 :: u 137 :: u 138 :: u 139 :: u 140 :: u 141 :: u 142 :: u 143 :: u 144 :: u 145 :: u 146 :: u 147 :: u 148 :: u 149 :: u 150 :: u 151 :: u 152 :: u 153 :: u 154 :: u 155 :: u 156 :: u 157 :: u 158 :: u 159 :: u 160 :: u 161 :: u 162 :: u 163 :: u 164 :: u 165 :: u 166 :: u 167 :: u 168 :: u 169 :: u 170 :: u 171 :: u 172 :: u 173 :: u 174 :: u 175 :: u 176 :: u 177 :: u 178 :: u 179 :: u 180 :: u 181 :: u 182 :: u 183 :: u 184 :: u 185 :: u 186 :: u 187 :: u 188 :: u 189 :: u 190 :: u 191 :: u 192 :: u 193 :: u 194 :: u 195 :: u 196 :: u 197 :: u 198 :: u 199 :: u 200 :: u 201 :: u 202 :: u 203 :: u 204 :: u 205 :: u 206 :: u 207 :: u 208 :: u 209 :: u 210 :: u 211 :: u 212 :: u 213 :: u 214 :: u 215 :: u 216 :: u 217 :: u 218 :: u 219 :: u 220 :: u 221 :: u 222 :: u 223 :: u 224 :: u 225 :: u 226 :: u 227 :: u 228 :: u 229 :: u 230 :: u 231 :: u 232 :: u 233 :: u 234 :: u 235 :: u 236 :: u 237 :: u 238 :: u 239 :: u 240 :: u 241 :: u 242 :: u 243 :: u 244 :: u 245 :: u 246 :: u 247 :: u 248 :: u 249 :: u 250 :: u 251 :: u 252 :: u 253 :: u 254 :: u 255 :: u 256 :: u 257 :: u 258 :: u 259 :: u 260 :: u 261 :: u 262 :: u 263 :: u 264 :: u 265 :: u 266 :: u 267 :: u 268 :: u 269 :: u 270 :: u 271 :: u 272 :: u 273 :: u 274 :: u 275 :: u 276 :: u 277 :: u 278 :: u 279 :: u 280 :: u 281 :: u 282 :: u 283 :: u 284 :: u 285 :: u 286 :: u 287 :: u 288 :: u 289 :: u 290 :: u 291 :: u 292 :: u 293 :: u 294 :: u 295 :: u 296 :: u 297 :: u 298 :: u 299 :: u 300 :: u 301 :: u 302 :: u 303 :: u 304 :: u 305 :: u 306 :: u 307 :: u 308 :: u 309 :: u 310 :: u 311 :: u 312 :: u 313 :: u 314 :: u 315 :: u 316 :: u 317 :: u 318 :: u 319 :: u 320 :: u 321 :: u 322 :: u 323 :: u 324 :: u 325 :: u 326 :: u 327 :: u 328 :: u 329 :: u 330 :: u 331 :: u 332 :: u 333 :: u 334 :: u 335 :: u 336 :: u 337 :: u 338 :: u 339 :: u 340 :: u 341 :: u 342 :: u 343 :: u 344 :: u 345 :: u 346 :: u 347 :: u 348 :: u 349 :: u 350 :: u 351 :: u 352 :: u 353 :: u 354 :: u 355 :: u 356 :: u 357 :: u 358 :: u 359 :: u 360 :: u 361 :: u 362 :: u 363 :: u 364 :: u 365 :: u 366 :: u 367 :: u 368 :: u 369 :: u 370 :: u 371 :: u 372 :: u 373 :: u 374 :: u 375 :: u 376 :: u 377 :: u 378 :: u 379 :: u 380 :: u 381 :: u 382 :: u 383 :: u 384 :: []), defers := [] } := by
  obtain ⟨tmps, defers⟩ := a
  obtain ⟨hz, h0, h2, h4, h5, h6, hd⟩ := H
  simp only at hz h0 h2 h4 h5 h6 hd
  subst hd
  refine ⟨fun i => tmps.getD i undef, ?_⟩
  congr 1
  apply Array.ext'
  have e : tmps.toList = (List.range 385).map (fun i => tmps.getD i undef) := by
    apply List.ext_getElem
    · simpa using hz
    · intro i a1 a2
      simp at a1
      simp [Array.getD, a1]
  rw [e]
  have g0 : tmps.getD 0 undef = v0 := by simp [Array.getD_eq_getD_getElem?, h0]
  have g2 : tmps.getD 2 undef = v2 := by simp [Array.getD_eq_getD_getElem?, h2]
  have g4 : tmps.getD 4 undef = v4 := by simp [Array.getD_eq_getD_getElem?, h4]
  have g5 : tmps.getD 5 undef = v5 := by simp [Array.getD_eq_getD_getElem?, h5]
  have g6 : tmps.getD 6 undef = v6 := by simp [Array.getD_eq_getD_getElem?, h6]
  rw [← g0, ← g2, ← g4, ← g5, ← g6]
  exact range385 (fun i => tmps.getD i undef)
/-- a token has been read -/
def NxQ (W : World) (A : PzP) (d : PzD) (X : Tok × Nat) (e : Ending) (w' : World) : Prop := e = .returned (.tuple #[]) ∧ PzM w' A { d with e := X.2, t := tkc X.1 } ∧ PzS W A w' A
section
variable {w W : World} {A : PzP} {d : PzD} {a : Act} {c : UInt8} {X : Tok × Nat}
theorem PzM.tok (h : PzM W A d) (t : TkC) : PzM (((((W.setCell ⟨A.b, 3, none⟩ (.int .i64 t.k)).setCell ⟨A.b, 4, none⟩ (sv t.s)).setCell ⟨A.b, 5, none⟩ (.int .u64 t.n)).setCell ⟨A.b, 6, none⟩ (.int .i64 t.p)).setCell ⟨A.b, 7, none⟩ (.int .i64 t.e)) A { d with t := t } ∧ PzS W A (((((W.setCell ⟨A.b, 3, none⟩ (.int .i64 t.k)).setCell ⟨A.b, 4, none⟩ (sv t.s)).setCell ⟨A.b, 5, none⟩ (.int .u64 t.n)).setCell ⟨A.b, 6, none⟩ (.int .i64 t.p)).setCell ⟨A.b, 7, none⟩ (.int .i64 t.e)) A := by
  obtain ⟨a1, b1⟩ := h.put 3 (.int .i64 t.k) (d' := { d with t := ⟨t.k, d.t.s, d.t.n, d.t.p, d.t.e⟩ }) rfl rfl h.pe
  obtain ⟨a2, b2⟩ := a1.put 4 (sv t.s) (d' := { d with t := ⟨t.k, t.s, d.t.n, d.t.p, d.t.e⟩ }) rfl rfl h.pe
  obtain ⟨a3, b3⟩ := a2.put 5 (.int .u64 t.n) (d' := { d with t := ⟨t.k, t.s, t.n, d.t.p, d.t.e⟩ }) rfl rfl h.pe
  obtain ⟨a4, b4⟩ := a3.put 6 (.int .i64 t.p) (d' := { d with t := ⟨t.k, t.s, t.n, t.p, d.t.e⟩ }) rfl rfl h.pe
  obtain ⟨a5, b5⟩ := a4.put 7 (.int .i64 t.e) (d' := { d with t := t }) rfl rfl h.pe
  exact ⟨a5, (((b1.trans b2).trans b3).trans b4).trans b5⟩
/-- the end of a token's walk: its place is set, then its cells -/
theorem PzM.fin (h : PzM W A d) (j : Nat) (hj : j ≤ A.s.length) (t : TkC) (hX : X.2 = j) (hT : tkc X.1 = t) : NxQ W A d X (.returned (.tuple #[])) ((((((W.setCell ⟨A.b, 2, none⟩ (.int .i64 (j : Nat))).setCell ⟨A.b, 3, none⟩ (.int .i64 t.k)).setCell ⟨A.b, 4, none⟩ (sv t.s)).setCell ⟨A.b, 5, none⟩ (.int .u64 t.n)).setCell ⟨A.b, 6, none⟩ (.int .i64 t.p)).setCell ⟨A.b, 7, none⟩ (.int .i64 t.e)) := by
  obtain ⟨a1, b1⟩ := h.pos j hj (u := (j : Int)) rfl
  obtain ⟨a2, b2⟩ := a1.tok t
  exact ⟨rfl, by rw [hX, hT]; exact a2, b1.trans b2⟩
set_option maxRecDepth 100000
set_option maxHeartbeats 2000000
theorem nx_eq1 : nxT Tryz.f105.body = Code.seq (zL (nxT Tryz.f105.body)) (Code.seq (zL (zR (nxT Tryz.f105.body))) (Code.seq (zL (zR (zR (nxT Tryz.f105.body)))) (Code.seq (zL (zR (zR (zR (nxT Tryz.f105.body))))) (n1 Tryz.f105.body)))) := by kernel_rfl
theorem nx_start (h : PzM W A d) (hX : X = tokM A.s d.e) (H : FrN (.pointer (some ⟨A.b, 0, none⟩)) (sv A.s) a)
    (hN : ∀ (c : UInt8) (a : Act), A.s[d.e]? = some c → FrMz (.pointer (some ⟨A.b, 0, none⟩)) (sv A.s) (.int .i64 (d.e : Nat)) (.int .u8 (c.toNat : Nat)) (.int .i64 (d.e : Nat)) a → (n1 Tryz.f105.body).wp Tryz.prog (bodyPost Tryz.prog Tryz.f105 (NxQ W A d X)) a W) :
    (nxT Tryz.f105.body).wp Tryz.prog (bodyPost Tryz.prog Tryz.f105 (NxQ W A d X)) a W := by
  obtain ⟨u, rfl⟩ := H.form
  obtain ⟨Q, HQ⟩ : ∃ Q : Ending → World → Prop, Hid (NxQ W A d X = Q) := ⟨_, rfl⟩
  rw [HQ.out]
  rw [HQ.out] at hN
  have c2 : W.cell? ⟨A.b, 2, none⟩ = some (.int .i64 (d.e : Nat)) := h.c 2
  have c0 : W.cell? ⟨A.b, 0, none⟩ = some (.pointer (some ⟨A.bn, 0, none⟩)) := h.c 0
  have c3 : W.cell? ⟨A.b, 3, none⟩ = some (.int .i64 d.t.k) := h.c 3
  have c4 : W.cell? ⟨A.b, 4, none⟩ = some (sv d.t.s) := h.c 4
  have c5 : W.cell? ⟨A.b, 5, none⟩ = some (.int .u64 d.t.n) := h.c 5
  have c6 : W.cell? ⟨A.b, 6, none⟩ = some (.int .i64 d.t.p) := h.c 6
  have c7 : W.cell? ⟨A.b, 7, none⟩ = some (.int .i64 d.t.e) := h.c 7
  have f2 := h.fz 2
  have f3 := h.fz 3
  have f4 := h.fz 4
  have f5 := h.fz 5
  have f6 := h.fz 6
  have f7 := h.fz 7
  have lb := h.lt
  have HH := hid h
  have hle := h.pe
  have ls := h.ls
  obtain ⟨src, HSRC⟩ : ∃ src, Hid (A.s = src) := ⟨_, rfl⟩
  obtain ⟨e, HEE⟩ : ∃ e : Nat, Hid (d.e = e) := ⟨_, rfl⟩
  obtain ⟨⟨xk, xs, xn, xp, xe⟩, HXT⟩ : ∃ t, Hid (d.t = t) := ⟨_, rfl⟩
  rw [HXT.out] at c3 c4 c5 c6 c7
  dsimp only at c3 c4 c5 c6 c7
  rw [HEE.out] at c2 hle hN
  rw [HSRC.out] at hle ls hN
  rw [HSRC.out]
  have hsz : (⟨src.toArray⟩ : ByteArray).size = src.length := by simp [ByteArray.size]
  obtain ⟨LN, HLN⟩ : ∃ LN : Nat, Hid (src.length = LN) := ⟨_, rfl⟩
  rw [HLN.out] at hsz hle ls
  have hsz2 : src.toArray.size = LN := hsz
  have e31 : e ≤ 3000 := by omega
  obtain ⟨TL, HTL⟩ : ∃ TL, Hid (n1 Tryz.f105.body = TL) := ⟨_, rfl⟩
  have EQ := nx_eq1
  rw [HTL.out] at EQ hN
  rw [EQ]
  have HN := hid hN
  clear EQ HTL hN h H
  obtain ⟨x1, hx1⟩ : ∃ cc, cc = zL (nxT Tryz.f105.body) := ⟨_, rfl⟩
  obtain ⟨x2, hx2⟩ : ∃ cc, cc = zL (zR (nxT Tryz.f105.body)) := ⟨_, rfl⟩
  obtain ⟨x3, hx3⟩ : ∃ cc, cc = zL (zR (zR (nxT Tryz.f105.body))) := ⟨_, rfl⟩
  obtain ⟨x4, hx4⟩ : ∃ cc, cc = zL (zR (zR (zR (nxT Tryz.f105.body)))) := ⟨_, rfl⟩
  rw [← hx1, ← hx2, ← hx3, ← hx4]
  simp only [nxT, zR, zL, Tryz.f105, Option.getD_some] at hx1 hx2 hx3 hx4
  subst hx1 hx2 hx3 hx4
  by_cases hend : e < LN
  · obtain ⟨c, hc⟩ : ∃ c, src[e]? = some c := ⟨src[e]'(by rw [HLN.out]; exact hend), by simp⟩
    have hix := fun w => run_index_str src e e rfl hc w
    have FIN := hid (fun a => HN.out c a hc)
    obtain ⟨cn, HCN⟩ : ∃ cn, Hid (c.toNat = cn) := ⟨_, rfl⟩
    rw [HCN.out] at hix FIN
    have bge : ¬ ((LN : Int) ≤ (e : Int)) := by omega
    clear hc
    go_wp2_with fail
    exact FIN.out _ ⟨by kernel_rfl, by kernel_rfl, by kernel_rfl, by kernel_rfl, by kernel_rfl, by kernel_rfl, rfl⟩
  · have he : e = LN := by omega
    subst he
    have hX1 : X = (⟨0, e, [], 0, 0⟩, e) := by
      rw [hX, HSRC.out, HEE.out]
      unfold tokM
      rw [List.getElem?_eq_none (by rw [HLN.out]; exact Nat.le_refl _)]
    have FIN : Hid (Q (.returned (.tuple #[])) (((((W.setCell ⟨A.b, 3, none⟩ (.int .i64 0)).setCell ⟨A.b, 4, none⟩ (sv [])).setCell ⟨A.b, 5, none⟩ (.int .u64 0)).setCell ⟨A.b, 6, none⟩ (.int .i64 (e : Nat))).setCell ⟨A.b, 7, none⟩ (.int .i64 0))) := by
      show Q _ _
      rw [← HQ.out]
      obtain ⟨a2, b2⟩ := HH.out.tok ⟨0, [], 0, e, 0⟩
      refine ⟨rfl, ?_, b2⟩
      rw [hX1]
      have e1 : { d with e := e, t := tkc ⟨0, e, [], 0, 0⟩ } = ({ d with t := ⟨0, [], 0, e, 0⟩ } : PzD) := by
        rw [← HEE.out]
        rfl
      rw [e1]
      exact a2
    clear hX hX1
    go_wp2_with fail
    refine bodyPost_ret (results_none rfl _ _ _) rfl ?_
    exact FIN.out
end
end Go.Proofs.Qxb6500574aGreatDoor
