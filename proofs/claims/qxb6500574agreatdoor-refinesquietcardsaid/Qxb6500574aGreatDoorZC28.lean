/-
  THE WALKS of compm: apply: its end.
-/
import Derived.Test.Qxb6500574aGreatDoorZC27
import Derived.Test.Qxb6500574aGreatDoorZA10
namespace Go.Proofs.Qxb6500574aGreatDoor
open Go Go.RowKit
set_option linter.unusedVariables false
set_option linter.unusedSimpArgs false
structure FrAe (v0 v10 v11 : Value) (a : Act) : Prop where
  size : a.tmps.size = 403
  t0 : a.tmps[0]? = some v0
  t10 : a.tmps[10]? = some v10
  t11 : a.tmps[11]? = some v11
  df : a.defers = []
set_option maxRecDepth 100000 in
theorem FrAe.form {v0 v10 v11 : Value} {a : Act} (H : FrAe v0 v10 v11 a) : ∃ u : Nat → Value, a = { tmps := List.toArray (v0 :: u 1 :: u 2 :: u 3 :: u 4 :: u 5 :: u 6 :: u 7 :: u 8 :: u 9 :: v10 :: v11 :: u 12 :: u 13 :: u 14 :: u 15 :: u 16 :: u 17 :: u 18 :: u 19 :: u 20 :: u 21 :: u 22 :: u 23 :: u 24 :: u 25 :: u 26 :: u 27 :: u 28 :: u 29 :: u 30 :: u 31 :: u 32 :: u 33 :: u 34 :: u 35 :: u 36 :: u 37 :: u 38 :: u 39 :: u 40 :: u 41 :: u 42 :: u 43 :: u 44 :: u 45 :: u 46 :: u 47 :: u 48 :: u 49 :: u 50 :: u 51 :: u 52 :: u 53 :: u 54 :: u 55 :: u 56 :: u 57 :: u 58 :: u 59 :: u 60 :: u 61 :: u 62 :: u 63 :: u 64 :: u 65 :: u 66 :: u 67 :: u 68 :: u 69 :: u 70 :: u 71 :: u 72 :: u 73 :: u 74 :: u 75 :: u 76 :: u 77 :: u 78 :: u 79 :: u 80 :: u 81 :: u 82 :: u 83 :: u 84 :: u 85 :: u 86 :: u 87 :: u 88 :: u 89 :: u 90 :: u 91 :: u 92 :: u 93 :: u 94 :: u 95 :: u 96 :: u 97 :: u 98 :: u 99 :: u 100 :: u 101 :: u 102 :: u 103 :: u 104 :: u 105 :: u 106 :: u 107 :: u 108 :: u 109 :: u 110 :: u 111 :: u 112 :: u 113 :: u 114 :: u 115 :: u 116 :: u 117 :: u 118 :: u 119 :: u 120 :: u 121 :: u 122 :: u 123 :: u 124 :: u 125 :: u 126 :: u 127 :: u 128 :: u 129 :: u 130 :: u 131 :: u 132 :: u 133 :: u 134 :: u 135 :: u 136 :: u 137 :: u 138 :: u 139 :: u 140 :: u 141 :: u 142 :: u 143 :: u 144 :: u 145 :: u 146 :: u 147 :: u 148 :: u 149 :: u 150 :: u 151 :: u 152 :: u 153 :: u 154 :: u 155 :: u 156 :: u 157 :: u 158 :: u 159 :: u 160 :: u 161 :: u 162 :: u 163 :: u 164 :: u 165 :: u 166 :: u 167 :: u 168 :: u 169 :: u 170 :: u 171 :: u 172 :: u 173 :: u 174 :: u 175 :: u 176 :: u 177 :: u 178 :: u 179 :: u 180 :: u 181 :: u 182 :: u 183 :: u 184 :: u 185 :: u 186 :: u 187 :: u 188 :: u 189 :: u 190 :: u 191 :: u 192 :: u 193 :: u 194 :: u 195 :: u 196 :: u 197 :: u 198 :: u 199 :: u 200 :: u 201 :: u 202 :: u 203 :: u 204 :: u 205 :: u 206 :: u 207 :: u 208 :: u 209 :: u 210 :: u 211 :: u 212 :: u 213 :: u 214 :: u 215 :: u 216 :: u 217 :: u 218 :: u 219 :: u 220 :: u 221 :: u 222 :: u 223 :: u 224 :: u 225 :: u 226 :: u 227 :: u 228 :: u 229 :: u 230 :: u 231 :: u 232 :: u 233 :: u 234 :: u 235 :: u 236 :: u 237 :: u 238 :: u 239 :: u 240 :: u 241 :: u 242 :: u 243 :: u 244 :: u 245 :: u 246 :: u 247 :: u 248 :: u 249 :: u 250 :: u 251 :: u 252 :: u 253 :: u 254 :: u 255 :: u 256 :: u 257 :: u 258 :: u 259 :: u 260 :: u 261 :: u 262 :: u 263 :: u 264 :: u 265 :: u 266 :: u 267 :: u 268 :: u 269 :: u 270 :: u 271 :: u 272 :: u 273 :: u 274 :: u 275 :: u 276 :: u 277 :: u 278 :: u 279 :: u 280 :: u 281 :: u 282 :: u 283 :: u 284 :: u 285 :: u 286 :: u 287 :: u 288 :: u 289 :: u 290 :: u 291 :: u 292 :: u 293 :: u 294 :: u 295 :: u 296 :: u 297 :: u 298 :: u 299 :: u 300 :: u 301 :: u 302 :: u 303 :: u 304 :: u 305 :: u 306 :: u 307 :: u 308 :: u 309 :: u 310 :: u 311 :: u 312 :: u 313 :: u 314 :: u 315 :: u 316 :: u 317 :: u 318 :: u 319 :: u 320 :: u 321 :: u 322 :: u 323 :: u 324 :: u 325 :: u 326 :: u 327 :: u 328 :: u 329 :: u 330 :: u 331 :: u 332 :: u 333 :: u 334 :: u 335 :: u 336 :: u 337 :: u 338 :: u 339 :: u 340 :: u 341 :: u 342 :: u 343 :: u 344 :: u 345 :: u 346 :: u 347 :: u 348 :: u 349 :: u 350 :: u 351 :: u 352 :: u 353 :: u 354 :: u 355 :: u 356 :: u 357 :: u 358 :: u 359 :: u 360 :: u 361 :: u 362 :: u 363 :: u 364 :: u 365 :: u 366 :: u 367 :: u 368 :: u 369 :: u 370 :: u 371 :: u 372 :: u 373 :: u 374 :: u 375 :: u 376 :: u 377 :: u 378 :: u 379 :: u 380 :: u 381 :: u 382 :: u 383 :: u 384 :: u 385 :: u 386 :: u 387 :: u 388 :: u 389 :: u 390 :: u 391 :: u 392 :: u 393 :: u 394 :: u 395 :: u 396 :: u 397 :: u 398 :: u 399 :: u 400 :: u 401 :: u 402 :: []), defers := [] } := by
  obtain ⟨tmps, defers⟩ := a
  obtain ⟨hz, h0, h10, h11, hd⟩ := H
  simp only at hz h0 h10 h11 hd
  subst hd
  refine ⟨fun i => tmps.getD i undef, ?_⟩
  congr 1
  apply Array.ext'
  have e : tmps.toList = (List.range 403).map (fun i => tmps.getD i undef) := by
    apply List.ext_getElem
    · simpa using hz
    · intro i a1 a2
      simp at a1
      simp [Array.getD, a1]
  rw [e]
  have g0 : tmps.getD 0 undef = v0 := by simp [Array.getD_eq_getD_getElem?, h0]
  have g10 : tmps.getD 10 undef = v10 := by simp [Array.getD_eq_getD_getElem?, h10]
  have g11 : tmps.getD 11 undef = v11 := by simp [Array.getD_eq_getD_getElem?, h11]
  rw [← g0, ← g10, ← g11]
  exact range403 (fun i => tmps.getD i undef)
/-- two results in blocks of their own -/
structure ApD (w : World) (A : RnP) (N : List Nd) (root : Nat) (W : World) (A1 : RnP) (m : MD) (bp bq : Nat) (p q : Vl) : Prop where
  B : RB w A N root W A1 m
  Lp : LcB W A1 bp (vlC p) 68
  Lq : LcB W A1 bq (vlC q) 68
  ne : bp ≠ bq
  sp : w.heap.size ≤ bp
  sq : w.heap.size ≤ bq
section
variable {w W W1 : World} {A A1 A2 : RnP} {N : List Nd} {root : Nat} {m R : MD} {bA bF xb ba bb bp bq x : Nat} {fn p q : Vl} {args : List Vl} {a : Act}
theorem ApD.setP (D : ApD w A N root W A1 m bp bq p q) (v : Vl) : ApD w A N root (((W.setCell ⟨bp, 0, none⟩ (.int .i64 v.t)).setCell ⟨bp, 1, none⟩ (.int .u64 v.n)).setCell ⟨bp, 2, none⟩ (sv v.s)) A1 m bp bq v q := by
  have z := D.Lp.z
  have n1 : bq ≠ bp := fun e => D.ne e.symm
  exact ⟨⟨((D.B.r.setL z _ _).setL z _ _).setL z _ _, ((D.B.s.setL D.sp _ _).setL D.sp _ _).setL D.sp _ _, D.B.c⟩, ⟨((D.Lp.h.put 0 _).put 1 _).put 2 _, z⟩, ⟨((D.Lq.h.other (p := ⟨bp, 0, none⟩) n1 _).other (p := ⟨bp, 1, none⟩) n1 _).other (p := ⟨bp, 2, none⟩) n1 _, D.Lq.z⟩, D.ne, D.sp, D.sq⟩
theorem ApD.setQ (D : ApD w A N root W A1 m bp bq p q) (v : Vl) : ApD w A N root (((W.setCell ⟨bq, 0, none⟩ (.int .i64 v.t)).setCell ⟨bq, 1, none⟩ (.int .u64 v.n)).setCell ⟨bq, 2, none⟩ (sv v.s)) A1 m bp bq p v := by
  have z := D.Lq.z
  exact ⟨⟨((D.B.r.setL z _ _).setL z _ _).setL z _ _, ((D.B.s.setL D.sq _ _).setL D.sq _ _).setL D.sq _ _, D.B.c⟩, ⟨((D.Lp.h.other (p := ⟨bq, 0, none⟩) D.ne _).other (p := ⟨bq, 1, none⟩) D.ne _).other (p := ⟨bq, 2, none⟩) D.ne _, D.Lp.z⟩, ⟨((D.Lq.h.put 0 _).put 1 _).put 2 _, z⟩, D.ne, D.sp, D.sq⟩
theorem ApD.fr (D : ApD w A N root W A1 m bp bq p q) (f : Fr (fun _ => False) W W1) : ApD w A N root W1 A1 m bp bq p q := ⟨D.B.fresh f, D.Lp.fr f, D.Lq.fr f, D.ne, D.sp, D.sq⟩
theorem ApD.pc (D : ApD w A N root W A1 m bp bq p q) : W.cell? ⟨bp, 0, none⟩ = some (.int .i64 p.t) ∧ W.cell? ⟨bp, 1, none⟩ = some (.int .u64 p.n) ∧ W.cell? ⟨bp, 2, none⟩ = some (sv p.s) ∧ W.frozen? ⟨bp, 0, none⟩ = false ∧ W.frozen? ⟨bp, 1, none⟩ = false ∧ W.frozen? ⟨bp, 2, none⟩ = false ∧ bp < W.heap.size :=
  ⟨D.Lp.h.cell 0, D.Lp.h.cell 1, D.Lp.h.cell 2, D.Lp.h.frozen 0, D.Lp.h.frozen 1, D.Lp.h.frozen 2, D.Lp.h.lt⟩
theorem ApD.qc (D : ApD w A N root W A1 m bp bq p q) : W.cell? ⟨bq, 0, none⟩ = some (.int .i64 q.t) ∧ W.cell? ⟨bq, 1, none⟩ = some (.int .u64 q.n) ∧ W.cell? ⟨bq, 2, none⟩ = some (sv q.s) ∧ W.frozen? ⟨bq, 0, none⟩ = false ∧ W.frozen? ⟨bq, 1, none⟩ = false ∧ W.frozen? ⟨bq, 2, none⟩ = false ∧ bq < W.heap.size :=
  ⟨D.Lq.h.cell 0, D.Lq.h.cell 1, D.Lq.h.cell 2, D.Lq.h.frozen 0, D.Lq.h.frozen 1, D.Lq.h.frozen 2, D.Lq.h.lt⟩
theorem ApC.d (P : ApC w A N root W A1 m bA bF xb ba bb bp bq fn args) : ApD w A N root W A1 m bp bq nilV nilV := ⟨P.B, P.Lp, P.Lq, by have := P.o1; omega, P.sz, by have := P.o1; have := P.sz; omega⟩
set_option maxRecDepth 100000
set_option maxHeartbeats 2000000
/-- the end: two results are pushed -/
theorem ap_end (D : ApD w A N root W A1 m bp bq p q) (hv : m.th.vals.length ≤ 900000) (H : FrAe (.pointer (some ⟨A.br, 0, none⟩)) (.pointer (some ⟨bp, 0, none⟩)) (.pointer (some ⟨bq, 0, none⟩)) a) :
    (apE Tryz.f126.body).wp Tryz.prog (bodyPost Tryz.prog Tryz.f126 (PQm w A N root (m.push [p, q]))) a W := by
  obtain ⟨u, rfl⟩ := H.form
  obtain ⟨Q, HQ⟩ : ∃ Q : Ending → World → Prop, Hid (PQm w A N root (m.push [p, q]) = Q) := ⟨_, rfl⟩
  rw [HQ.out]
  obtain ⟨pt, pn, ps⟩ := p
  obtain ⟨qt, qn, qs⟩ := q
  have C1 := D.B.push (by omega) ⟨pt, pn, ps⟩
  have HC1 : Hid (Calls Tryz.prog 124 #[.pointer (some ⟨A.br, 0, none⟩), .agg #[.int .i64 pt, .int .u64 pn, sv ps]] W _) := C1
  obtain ⟨p0, p1, p2, _, _, _, lp⟩ := D.pc
  have HLq := hid D.Lq
  have hm2 : (m.push [⟨pt, pn, ps⟩]).push [⟨qt, qn, qs⟩] = m.push [⟨pt, pn, ps⟩, ⟨qt, qn, qs⟩] := up_push _ _ _ D.B.c
  have hv2 : (m.push [⟨pt, pn, ps⟩]).th.vals.length ≤ 1000000 := by rw [th_push D.B.c]; simp; omega
  have HM2 := hid hm2
  have HV2 := hid hv2
  dsimp only at p0 p1 p2
  clear C1 D H hv hm2 hv2
  obtain ⟨c, hc⟩ : ∃ c, c = apE Tryz.f126.body := ⟨_, rfl⟩
  rw [← hc]
  simp only [apE, apB, apT, cR, Tryz.f126, Option.getD_some] at hc
  subst hc
  go_wp2_with fail
  refine HC1.out.mono ?_
  rintro e1 w1 ⟨rfl, A3, B3, S3⟩
  have C2 := B3.push HV2.out ⟨qt, qn, qs⟩
  rw [HM2.out] at C2
  have HC2 : Hid (Calls Tryz.prog 124 #[.pointer (some ⟨A.br, 0, none⟩), .agg #[.int .i64 qt, .int .u64 qn, sv qs]] w1 _) := C2
  have L3 := HLq.out.st S3
  have q0 := L3.h.cell 0
  have q1 := L3.h.cell 1
  have q2 := L3.h.cell 2
  have lq := L3.h.lt
  simp only [vlC, List.getElem?_toArray, List.getElem?_cons_succ, List.getElem?_cons_zero] at q0 q1 q2
  clear C2 B3 S3 L3 p0 p1 p2 lp
  go_wp2_with fail
  refine HC2.out.mono ?_
  rintro e2 w2 ⟨rfl, A4, B4, S4⟩
  have FIN : Hid (Q (.returned (.tuple #[])) w2) := by
    show Q _ _
    rw [← HQ.out]
    exact B4.end
  clear B4 S4
  go_wp2
  go_end0
  exact FIN.out
end
end Go.Proofs.Qxb6500574aGreatDoor
