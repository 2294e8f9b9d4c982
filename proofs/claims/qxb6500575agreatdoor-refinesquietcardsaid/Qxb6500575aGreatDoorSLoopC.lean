/-
  THE ROUNDS of run.loop: local.get, local.set, select.
-/
import Derived.Test.Qxb6500575aGreatDoorSLoop1
namespace Go.Proofs.Qxb6500575aGreatDoor
open Go Go.RowKit
set_option linter.unusedVariables false
set_option linter.unusedSimpArgs false

section
variable {σ τ : Type} {G : Gh σ τ} {H : HF τ} {R : RP σ} {T : Nat → Typing} {w : World} {L : InL} {K : KL} {x : InD} {n : Int} {d : KD} {s : σ} {r : Frm} {rs : List Frm} {fn : Nat} {v : FunD} {c : List Flat} {pc : Nat} {ρ : List UInt8} {ops loc low : List V} {i : Flat} {bf gf : Nat} {fuel : Int} {h : Value} {D : World → Prop} {Q : Exit → Act → World → Prop}
set_option maxRecDepth 100000
set_option maxHeartbeats 2000000
theorem sw_get (m : Mid G H R T w L K x n d s r rs fn v c pc ρ ops loc low i bf gf) (hop : i.op = 13) (o : Outs R fuel h (Nx G R T x) D (Tp G R x) Q) (u : Nat → Value) :
    (codeR (codeR (codeR (codeR (roundOf Tryz.f65.body))))).wp Tryz.prog Q { tmps := List.toArray (.pointer (some ⟨R.bx, 0, none⟩) :: .int .i64 fuel :: h :: u 3 :: u 4 :: u 5 :: .pointer (some ⟨gf, rs.length * 5, none⟩) :: .pointer (some ⟨bf, 0, none⟩) :: u 8 :: u 9 :: u 10 :: u 11 :: u 12 :: u 13 :: u 14 :: u 15 :: u 16 :: u 17 :: u 18 :: u 19 :: u 20 :: u 21 :: u 22 :: u 23 :: u 24 :: u 25 :: u 26 :: u 27 :: u 28 :: u 29 :: u 30 :: u 31 :: u 32 :: u 33 :: u 34 :: u 35 :: u 36 :: u 37 :: u 38 :: u 39 :: u 40 :: u 41 :: u 42 :: u 43 :: u 44 :: u 45 :: u 46 :: u 47 :: u 48 :: u 49 :: u 50 :: u 51 :: u 52 :: u 53 :: u 54 :: u 55 :: u 56 :: u 57 :: u 58 :: u 59 :: u 60 :: u 61 :: u 62 :: u 63 :: u 64 :: u 65 :: u 66 :: u 67 :: u 68 :: u 69 :: u 70 :: u 71 :: u 72 :: u 73 :: u 74 :: u 75 :: u 76 :: u 77 :: u 78 :: u 79 :: u 80 :: u 81 :: u 82 :: u 83 :: u 84 :: u 85 :: u 86 :: u 87 :: u 88 :: u 89 :: u 90 :: u 91 :: u 92 :: u 93 :: u 94 :: u 95 :: u 96 :: u 97 :: u 98 :: u 99 :: u 100 :: u 101 :: u 102 :: u 103 :: u 104 :: u 105 :: u 106 :: u 107 :: u 108 :: u 109 :: u 110 :: u 111 :: u 112 :: u 113 :: u 114 :: u 115 :: u 116 :: u 117 :: u 118 :: u 119 :: u 120 :: u 121 :: u 122 :: u 123 :: u 124 :: u 125 :: u 126 :: u 127 :: u 128 :: u 129 :: u 130 :: u 131 :: u 132 :: u 133 :: u 134 :: u 135 :: u 136 :: u 137 :: u 138 :: u 139 :: u 140 :: u 141 :: u 142 :: u 143 :: u 144 :: u 145 :: u 146 :: u 147 :: u 148 :: u 149 :: u 150 :: u 151 :: u 152 :: u 153 :: u 154 :: u 155 :: u 156 :: u 157 :: u 158 :: u 159 :: u 160 :: u 161 :: u 162 :: u 163 :: u 164 :: u 165 :: u 166 :: u 167 :: u 168 :: u 169 :: u 170 :: u 171 :: u 172 :: u 173 :: u 174 :: u 175 :: u 176 :: u 177 :: u 178 :: u 179 :: u 180 :: u 181 :: u 182 :: u 183 :: u 184 :: u 185 :: u 186 :: u 187 :: u 188 :: u 189 :: u 190 :: u 191 :: u 192 :: u 193 :: u 194 :: u 195 :: u 196 :: u 197 :: u 198 :: u 199 :: u 200 :: u 201 :: u 202 :: u 203 :: u 204 :: u 205 :: u 206 :: u 207 :: u 208 :: u 209 :: u 210 :: u 211 :: u 212 :: u 213 :: u 214 :: u 215 :: u 216 :: u 217 :: u 218 :: u 219 :: u 220 :: u 221 :: u 222 :: u 223 :: u 224 :: u 225 :: u 226 :: u 227 :: u 228 :: u 229 :: u 230 :: u 231 :: u 232 :: u 233 :: u 234 :: u 235 :: u 236 :: u 237 :: u 238 :: u 239 :: u 240 :: u 241 :: u 242 :: u 243 :: u 244 :: u 245 :: u 246 :: u 247 :: u 248 :: u 249 :: u 250 :: u 251 :: u 252 :: u 253 :: u 254 :: u 255 :: u 256 :: u 257 :: u 258 :: u 259 :: u 260 :: u 261 :: u 262 :: u 263 :: u 264 :: u 265 :: u 266 :: u 267 :: u 268 :: u 269 :: u 270 :: u 271 :: u 272 :: u 273 :: u 274 :: u 275 :: u 276 :: u 277 :: u 278 :: u 279 :: u 280 :: u 281 :: u 282 :: u 283 :: u 284 :: u 285 :: u 286 :: u 287 :: u 288 :: u 289 :: u 290 :: u 291 :: u 292 :: u 293 :: u 294 :: u 295 :: u 296 :: u 297 :: u 298 :: u 299 :: u 300 :: u 301 :: u 302 :: u 303 :: u 304 :: u 305 :: u 306 :: u 307 :: u 308 :: u 309 :: u 310 :: u 311 :: u 312 :: u 313 :: u 314 :: u 315 :: u 316 :: u 317 :: u 318 :: u 319 :: u 320 :: u 321 :: u 322 :: u 323 :: u 324 :: u 325 :: u 326 :: u 327 :: u 328 :: u 329 :: u 330 :: u 331 :: u 332 :: u 333 :: u 334 :: u 335 :: u 336 :: u 337 :: u 338 :: u 339 :: u 340 :: u 341 :: u 342 :: u 343 :: u 344 :: u 345 :: u 346 :: u 347 :: u 348 :: u 349 :: u 350 :: u 351 :: u 352 :: u 353 :: u 354 :: u 355 :: u 356 :: u 357 :: u 358 :: u 359 :: u 360 :: u 361 :: u 362 :: u 363 :: u 364 :: u 365 :: u 366 :: u 367 :: u 368 :: u 369 :: u 370 :: u 371 :: u 372 :: u 373 :: u 374 :: u 375 :: u 376 :: u 377 :: u 378 :: u 379 :: u 380 :: u 381 :: u 382 :: u 383 :: u 384 :: u 385 :: u 386 :: u 387 :: u 388 :: u 389 :: u 390 :: u 391 :: u 392 :: u 393 :: u 394 :: u 395 :: u 396 :: u 397 :: u 398 :: u 399 :: u 400 :: u 401 :: u 402 :: u 403 :: u 404 :: u 405 :: u 406 :: u 407 :: u 408 :: u 409 :: u 410 :: u 411 :: u 412 :: u 413 :: u 414 :: u 415 :: u 416 :: u 417 :: u 418 :: u 419 :: u 420 :: u 421 :: u 422 :: u 423 :: u 424 :: u 425 :: u 426 :: u 427 :: u 428 :: u 429 :: u 430 :: u 431 :: u 432 :: u 433 :: u 434 :: u 435 :: u 436 :: u 437 :: u 438 :: u 439 :: u 440 :: u 441 :: u 442 :: u 443 :: u 444 :: u 445 :: u 446 :: u 447 :: u 448 :: u 449 :: u 450 :: u 451 :: []), defers := [] } w := by
  have b0 := m.box.cell 0
  have b1 := m.box.cell 1
  have b2 := m.box.cell 2
  have b3 := m.box.cell 3
  simp [hop] at b0 b1 b2 b3
  have c2 := m.run.inst.here.cell 2
  simp at c2
  obtain ⟨l1, l2, l3, l4, l5⟩ := m.lens
  obtain ⟨k1, k2, k3⟩ := m.lts
  have hfl : r.floor = loc.length + low.length := m.lay.floor
  have hxl : x.st.length ≤ ops.length + (loc.length + low.length) ∧ ops.length + (loc.length + low.length) ≤ x.st.length := by rw [m.lay.hst]; simp
  obtain ⟨t, hi0, hloc, hT1⟩ := m.ins.get hop
  obtain ⟨jj, hjj⟩ : ∃ jj : Nat, i.imm = jj := ⟨i.imm.toNat, by omega⟩
  rw [hjj] at hloc b1
  simp only [Int.toNat_natCast] at hloc
  have hjl : jj < loc.length := by
    have := (List.getElem?_eq_some_iff.1 hloc).1
    have h5 := (m.lay.lens m.pt).2.2.2.2
    simp at this
    omega
  obtain ⟨q, hq⟩ : ∃ q, loc.reverse[jj]? = some q := ⟨_, List.getElem?_eq_getElem (by simpa using hjl)⟩
  have hqt : q.ty = t := by
    have e : (loc.map V.ty).reverse[jj]? = some t := by rw [m.lay.hloc]; simpa using hloc
    rw [← List.map_reverse, List.getElem?_map, hq] at e
    simpa using e
  have HX : Hid (G.o = _) := m.lnext (by omega) (lo := ⟨0, q :: ops, loc, d.flat⟩) (by simp [lstep, hop, hjj, hq]) rfl
  have hqf : q.Fits := m.fits.2.1 q (by simpa using List.mem_of_getElem? hq)
  have hsq : x.st.reverse[low.length + jj]? = some q := by
    rw [m.lay.hst]
    simp only [List.reverse_append, List.append_assoc]
    rw [List.getElem?_append_right (by simp), List.getElem?_append_left (by simp; omega)]
    simpa using hq
  obtain ⟨gs, hsa, cq, fq, gsl, scl, bgs⟩ := m.run.inst.stAt hsq
  rw [hsa] at c2
  obtain ⟨gf', hgf', hcf, _⟩ := m.run.inst.top (r := r) (rs := rs) m.fr
  rw [m.gf] at hgf'
  simp at hgf'
  subst hgf'
  have a2 := hcf 2 (by omega)
  have a3 := hcf 3 (by omega)
  simp [frmCells, m.lay.base, m.lay.floor] at a2 a3
  clear hcf hloc hq hsq
  simp only [roundOf, codeR, codeIn, Tryz.f65, Option.getD_some]
  have M : Hid (Mid G H R T w L K x n d s r rs fn v c pc ρ ops loc low i bf gf) := m
  have O : Hid (Outs R fuel h _ _ _ Q) := o
  clear m o
  have HOWN : Hid (w.ownsRow 0 150 1 (.slice (some ⟨gs, 0, none⟩) x.st.length L.sc) x.st.length (x.st.reverse.map V.val)) := by
    have := M.out.run.inst.st
    rw [InL.stV, hsa] at this
    exact this
  have HSA : Hid (L.stV x = .slice (some ⟨gs, 0, none⟩) x.st.length L.sc) := by show _ = _; rw [InL.stV, hsa]
  have HQ : Hid (q.ty = t) := hqt
  have HQF : Hid q.Fits := hqf
  clear hsa hqt hqf
  cases q using V.on with
  | w z =>
    simp only [V.val] at cq
    go_wp2
    refine wp_region_tail 7 (by kernel_rfl) (by kernel_rfl) O.out.pq ?_
    simp only [List.take_succ_cons, List.take_zero, List.drop_succ_cons, List.drop_zero]
    repeat go_big_quiet_step (fail)
    refine wpQuiet_nil ?_
    go_wp2_with fail
    refine (need_dec (by omega) _ _).mono ?_
    rintro e w1 ⟨rfl, rfl⟩
    go_wp2
    refine wp_region_headA1 12 1 0 (fun y => y = w.drew.drew ∨ y = (w.drew.alloc (.cells #[(V.w z).val] 150)).drew) (by kernel_rfl) (by kernel_rfl) O.out.pq (.inl rfl) _ rfl ?_
    simp only [V.val, List.take_succ_cons, List.take_zero, List.drop_succ_cons, List.drop_zero, List.eraseIdx_cons_succ, List.eraseIdx_cons_zero]
    repeat go_big_quiet_step (fail)
    refine wpQuiet_nil ?_
    unfold wpChain
    go_wp2
    refine ⟨.inr rfl, ?_⟩
    rw [wpChain_zero]
    go_wp2_with (at_builtin; refine wpList_app rowVal _ rfl (.tmp 265) (.tmp 273) rfl _ _ _ rfl (owns_drew (owns_alloc (owns_drew HOWN.out) _)) _ [(V.w z).val] rfl (Has.new _ _ _).drew rfl ?one ?bd ?go)
    case one => simp [V.val, Value.oneCell']
    case bd => omega
    case go =>
      intro gg cap w5 q1 q2 q3 q4
      rw [← HSA.out] at q2 q3
      obtain ⟨r1, r2, r3, r4, r5, r6, r7, r8, L', r9⟩ := M.out.drew.pushD M.out.run.drew M.out.gf M.out.box.drew (V.w z) (by rw [List.map_reverse]; exact q1) q2 q3 q4
      have d2 := r1 2
      have e2 := r2 2
      have e3 := r5 (rs.length * 5 + 1)
      have c2' : w.drew.cell? ⟨R.bx, 2, none⟩ = _ := c2
      rw [c2'] at d2
      have R9 : Hid (RunW _ _ _ _ _ _ _ _) := r9
      clear q1 q2 q3 q4 r1 r2 r5 r8 r9 c2'
      go_wp2
      refine O.out.nrm _ _ ⟨by kernel_rfl, by kernel_rfl, by kernel_rfl, by kernel_rfl, rfl⟩ ?_
      refine M.out.next (V.w z :: ops) loc (pc + 1) ?_ rfl ?_ M.out.fits.2.1 (by rw [M.out.lay.hst]; rfl) R9.out HX.out M.out.n0 rfl
      · rw [hT1, List.map_cons, M.out.lay.hops, HQ.out]
      · intro v hv
        rcases List.mem_cons.1 hv with rfl | hv
        · exact HQF.out
        · exact M.out.fits.1 v hv
  | d z =>
    simp only [V.val] at cq
    go_wp2
    refine wp_region_tail 7 (by kernel_rfl) (by kernel_rfl) O.out.pq ?_
    simp only [List.take_succ_cons, List.take_zero, List.drop_succ_cons, List.drop_zero]
    repeat go_big_quiet_step (fail)
    refine wpQuiet_nil ?_
    go_wp2_with fail
    refine (need_dec (by omega) _ _).mono ?_
    rintro e w1 ⟨rfl, rfl⟩
    go_wp2
    refine wp_region_headA1 12 1 0 (fun y => y = w.drew.drew ∨ y = (w.drew.alloc (.cells #[(V.d z).val] 150)).drew) (by kernel_rfl) (by kernel_rfl) O.out.pq (.inl rfl) _ rfl ?_
    simp only [V.val, List.take_succ_cons, List.take_zero, List.drop_succ_cons, List.drop_zero, List.eraseIdx_cons_succ, List.eraseIdx_cons_zero]
    repeat go_big_quiet_step (fail)
    refine wpQuiet_nil ?_
    unfold wpChain
    go_wp2
    refine ⟨.inr rfl, ?_⟩
    rw [wpChain_zero]
    go_wp2_with (at_builtin; refine wpList_app rowVal _ rfl (.tmp 265) (.tmp 273) rfl _ _ _ rfl (owns_drew (owns_alloc (owns_drew HOWN.out) _)) _ [(V.d z).val] rfl (Has.new _ _ _).drew rfl ?one ?bd ?go)
    case one => simp [V.val, Value.oneCell']
    case bd => omega
    case go =>
      intro gg cap w5 q1 q2 q3 q4
      rw [← HSA.out] at q2 q3
      obtain ⟨r1, r2, r3, r4, r5, r6, r7, r8, L', r9⟩ := M.out.drew.pushD M.out.run.drew M.out.gf M.out.box.drew (V.d z) (by rw [List.map_reverse]; exact q1) q2 q3 q4
      have d2 := r1 2
      have e2 := r2 2
      have e3 := r5 (rs.length * 5 + 1)
      have c2' : w.drew.cell? ⟨R.bx, 2, none⟩ = _ := c2
      rw [c2'] at d2
      have R9 : Hid (RunW _ _ _ _ _ _ _ _) := r9
      clear q1 q2 q3 q4 r1 r2 r5 r8 r9 c2'
      go_wp2
      refine O.out.nrm _ _ ⟨by kernel_rfl, by kernel_rfl, by kernel_rfl, by kernel_rfl, rfl⟩ ?_
      refine M.out.next (V.d z :: ops) loc (pc + 1) ?_ rfl ?_ M.out.fits.2.1 (by rw [M.out.lay.hst]; rfl) R9.out HX.out M.out.n0 rfl
      · rw [hT1, List.map_cons, M.out.lay.hops, HQ.out]
      · intro v hv
        rcases List.mem_cons.1 hv with rfl | hv
        · exact HQF.out
        · exact M.out.fits.1 v hv
theorem sw_set (m : Mid G H R T w L K x n d s r rs fn v c pc ρ ops loc low i bf gf) (hop : i.op = 14) (o : Outs R fuel h (Nx G R T x) D (Tp G R x) Q) (u : Nat → Value) :
    (codeR (codeR (codeR (codeR (roundOf Tryz.f65.body))))).wp Tryz.prog Q { tmps := List.toArray (.pointer (some ⟨R.bx, 0, none⟩) :: .int .i64 fuel :: h :: u 3 :: u 4 :: u 5 :: .pointer (some ⟨gf, rs.length * 5, none⟩) :: .pointer (some ⟨bf, 0, none⟩) :: u 8 :: u 9 :: u 10 :: u 11 :: u 12 :: u 13 :: u 14 :: u 15 :: u 16 :: u 17 :: u 18 :: u 19 :: u 20 :: u 21 :: u 22 :: u 23 :: u 24 :: u 25 :: u 26 :: u 27 :: u 28 :: u 29 :: u 30 :: u 31 :: u 32 :: u 33 :: u 34 :: u 35 :: u 36 :: u 37 :: u 38 :: u 39 :: u 40 :: u 41 :: u 42 :: u 43 :: u 44 :: u 45 :: u 46 :: u 47 :: u 48 :: u 49 :: u 50 :: u 51 :: u 52 :: u 53 :: u 54 :: u 55 :: u 56 :: u 57 :: u 58 :: u 59 :: u 60 :: u 61 :: u 62 :: u 63 :: u 64 :: u 65 :: u 66 :: u 67 :: u 68 :: u 69 :: u 70 :: u 71 :: u 72 :: u 73 :: u 74 :: u 75 :: u 76 :: u 77 :: u 78 :: u 79 :: u 80 :: u 81 :: u 82 :: u 83 :: u 84 :: u 85 :: u 86 :: u 87 :: u 88 :: u 89 :: u 90 :: u 91 :: u 92 :: u 93 :: u 94 :: u 95 :: u 96 :: u 97 :: u 98 :: u 99 :: u 100 :: u 101 :: u 102 :: u 103 :: u 104 :: u 105 :: u 106 :: u 107 :: u 108 :: u 109 :: u 110 :: u 111 :: u 112 :: u 113 :: u 114 :: u 115 :: u 116 :: u 117 :: u 118 :: u 119 :: u 120 :: u 121 :: u 122 :: u 123 :: u 124 :: u 125 :: u 126 :: u 127 :: u 128 :: u 129 :: u 130 :: u 131 :: u 132 :: u 133 :: u 134 :: u 135 :: u 136 :: u 137 :: u 138 :: u 139 :: u 140 :: u 141 :: u 142 :: u 143 :: u 144 :: u 145 :: u 146 :: u 147 :: u 148 :: u 149 :: u 150 :: u 151 :: u 152 :: u 153 :: u 154 :: u 155 :: u 156 :: u 157 :: u 158 :: u 159 :: u 160 :: u 161 :: u 162 :: u 163 :: u 164 :: u 165 :: u 166 :: u 167 :: u 168 :: u 169 :: u 170 :: u 171 :: u 172 :: u 173 :: u 174 :: u 175 :: u 176 :: u 177 :: u 178 :: u 179 :: u 180 :: u 181 :: u 182 :: u 183 :: u 184 :: u 185 :: u 186 :: u 187 :: u 188 :: u 189 :: u 190 :: u 191 :: u 192 :: u 193 :: u 194 :: u 195 :: u 196 :: u 197 :: u 198 :: u 199 :: u 200 :: u 201 :: u 202 :: u 203 :: u 204 :: u 205 :: u 206 :: u 207 :: u 208 :: u 209 :: u 210 :: u 211 :: u 212 :: u 213 :: u 214 :: u 215 :: u 216 :: u 217 :: u 218 :: u 219 :: u 220 :: u 221 :: u 222 :: u 223 :: u 224 :: u 225 :: u 226 :: u 227 :: u 228 :: u 229 :: u 230 :: u 231 :: u 232 :: u 233 :: u 234 :: u 235 :: u 236 :: u 237 :: u 238 :: u 239 :: u 240 :: u 241 :: u 242 :: u 243 :: u 244 :: u 245 :: u 246 :: u 247 :: u 248 :: u 249 :: u 250 :: u 251 :: u 252 :: u 253 :: u 254 :: u 255 :: u 256 :: u 257 :: u 258 :: u 259 :: u 260 :: u 261 :: u 262 :: u 263 :: u 264 :: u 265 :: u 266 :: u 267 :: u 268 :: u 269 :: u 270 :: u 271 :: u 272 :: u 273 :: u 274 :: u 275 :: u 276 :: u 277 :: u 278 :: u 279 :: u 280 :: u 281 :: u 282 :: u 283 :: u 284 :: u 285 :: u 286 :: u 287 :: u 288 :: u 289 :: u 290 :: u 291 :: u 292 :: u 293 :: u 294 :: u 295 :: u 296 :: u 297 :: u 298 :: u 299 :: u 300 :: u 301 :: u 302 :: u 303 :: u 304 :: u 305 :: u 306 :: u 307 :: u 308 :: u 309 :: u 310 :: u 311 :: u 312 :: u 313 :: u 314 :: u 315 :: u 316 :: u 317 :: u 318 :: u 319 :: u 320 :: u 321 :: u 322 :: u 323 :: u 324 :: u 325 :: u 326 :: u 327 :: u 328 :: u 329 :: u 330 :: u 331 :: u 332 :: u 333 :: u 334 :: u 335 :: u 336 :: u 337 :: u 338 :: u 339 :: u 340 :: u 341 :: u 342 :: u 343 :: u 344 :: u 345 :: u 346 :: u 347 :: u 348 :: u 349 :: u 350 :: u 351 :: u 352 :: u 353 :: u 354 :: u 355 :: u 356 :: u 357 :: u 358 :: u 359 :: u 360 :: u 361 :: u 362 :: u 363 :: u 364 :: u 365 :: u 366 :: u 367 :: u 368 :: u 369 :: u 370 :: u 371 :: u 372 :: u 373 :: u 374 :: u 375 :: u 376 :: u 377 :: u 378 :: u 379 :: u 380 :: u 381 :: u 382 :: u 383 :: u 384 :: u 385 :: u 386 :: u 387 :: u 388 :: u 389 :: u 390 :: u 391 :: u 392 :: u 393 :: u 394 :: u 395 :: u 396 :: u 397 :: u 398 :: u 399 :: u 400 :: u 401 :: u 402 :: u 403 :: u 404 :: u 405 :: u 406 :: u 407 :: u 408 :: u 409 :: u 410 :: u 411 :: u 412 :: u 413 :: u 414 :: u 415 :: u 416 :: u 417 :: u 418 :: u 419 :: u 420 :: u 421 :: u 422 :: u 423 :: u 424 :: u 425 :: u 426 :: u 427 :: u 428 :: u 429 :: u 430 :: u 431 :: u 432 :: u 433 :: u 434 :: u 435 :: u 436 :: u 437 :: u 438 :: u 439 :: u 440 :: u 441 :: u 442 :: u 443 :: u 444 :: u 445 :: u 446 :: u 447 :: u 448 :: u 449 :: u 450 :: u 451 :: []), defers := [] } w := by
  have b0 := m.box.cell 0
  have b1 := m.box.cell 1
  have b2 := m.box.cell 2
  have b3 := m.box.cell 3
  simp [hop] at b0 b1 b2 b3
  have c2 := m.run.inst.here.cell 2
  simp at c2
  obtain ⟨l1, l2, l3, l4, l5⟩ := m.lens
  obtain ⟨k1, k2, k3⟩ := m.lts
  have hfl : r.floor = loc.length + low.length := m.lay.floor
  have hxl : x.st.length ≤ ops.length + (loc.length + low.length) ∧ ops.length + (loc.length + low.length) ≤ x.st.length := by rw [m.lay.hst]; simp
  obtain ⟨t, ρ', hi0, hloc, e1, hT1⟩ := m.ins.set hop
  obtain ⟨z0, ys, e2, hz0, hys⟩ := pop_ty (by rw [m.lay.hops]; exact e1)
  have hst : x.st = z0 :: (ys ++ (loc ++ low)) := by rw [m.lay.hst, e2]; rfl
  have hzf : z0.Fits := m.fits.1 _ (by rw [e2]; simp)
  have HNF : Hid (-9223372036854775808 ≤ z0.num ∧ z0.num < 9223372036854775808) := by
    cases z0 using V.on with
    | w a => unfold V.Fits at hzf; show _ ∧ _; simp only [V.num]; omega
    | d a => exact hzf
  have hfs : ∀ v ∈ ys, v.Fits := fun v hv => m.fits.1 v (by rw [e2]; simp [hv])
  have hyl : ys.length + 1 = ops.length := by rw [e2]; rfl
  have HX : Hid (G.o = _) := m.lnext (by omega) (lo := ⟨0, ys, (loc.reverse.set i.imm.toNat z0).reverse, d.flat⟩) (by rw [e2]; simp [lstep, hop]) rfl
  have HZF : Hid z0.Fits := hzf
  clear e1 e2
  have m1 := method32
  have m2 := method64
  simp only [String.reduceSingleton, String.reduceAppend] at m1 m2
  obtain ⟨jj, hjj⟩ : ∃ jj : Nat, i.imm = jj := ⟨i.imm.toNat, by omega⟩
  rw [hjj, Int.toNat_natCast] at HX
  rw [hjj] at hloc b1
  simp only [Int.toNat_natCast] at hloc
  have hjl : jj < loc.length := by
    have := (List.getElem?_eq_some_iff.1 hloc).1
    have h5 := (m.lay.lens m.pt).2.2.2.2
    simp at this
    omega
  obtain ⟨q, hq⟩ : ∃ q, loc.reverse[jj]? = some q := ⟨_, List.getElem?_eq_getElem (by simpa using hjl)⟩
  have hqt : q.ty = t := by
    have e : (loc.map V.ty).reverse[jj]? = some t := by rw [m.lay.hloc]; simpa using hloc
    rw [← List.map_reverse, List.getElem?_map, hq] at e
    simpa using e
  have HQR : Hid (loc.reverse[jj]? = some q) := hq
  have hqf : q.Fits := m.fits.2.1 q (by simpa using List.mem_of_getElem? hq)
  have hsq : x.st.reverse[low.length + jj]? = some q := by
    rw [m.lay.hst]
    simp only [List.reverse_append, List.append_assoc]
    rw [List.getElem?_append_right (by simp), List.getElem?_append_left (by simp; omega)]
    simpa using hq
  obtain ⟨gs, hsa, cq, fq, gsl, scl, bgs⟩ := m.run.inst.stAt hsq
  rw [hsa] at c2
  obtain ⟨gf', hgf', hcf, _⟩ := m.run.inst.top (r := r) (rs := rs) m.fr
  rw [m.gf] at hgf'
  simp at hgf'
  subst hgf'
  have a2 := hcf 2 (by omega)
  have a3 := hcf 3 (by omega)
  simp [frmCells, m.lay.base, m.lay.floor] at a2 a3
  clear hcf hloc hq hsq
  simp only [roundOf, codeR, codeIn, Tryz.f65, Option.getD_some]
  have M : Hid (Mid G H R T w L K x n d s r rs fn v c pc ρ ops loc low i bf gf) := m
  have O : Hid (Outs R fuel h _ _ _ Q) := o
  clear m o
  have HSA : Hid (L.sa = some ⟨gs, 0, none⟩) := hsa
  have HQT : Hid (q.ty = t) := hqt
  clear hsa hqt
  cases q using V.on with
  | w z =>
    have e0 : z0.ty = 105 := hz0.trans HQT.out.symm
    simp only [V.val] at cq
    go_wp2
    refine wp_region_tail 7 (by kernel_rfl) (by kernel_rfl) O.out.pq ?_
    simp only [List.take_succ_cons, List.take_zero, List.drop_succ_cons, List.drop_zero]
    repeat go_big_quiet_step (fail)
    refine wpQuiet_nil ?_
    go_wp2_with fail
    refine (need_dec (by omega) _ _).mono ?_
    rintro e w1 ⟨rfl, rfl⟩
    go_wp2_with fail
    refine (kind32 _ _).mono ?_
    rintro e w1 ⟨rfl, rfl⟩
    go_wp2_with fail
    refine (M.out.drew.num105c (M.out.drew.runSt hst) M.out.box.drew hzf (by simp; omega) (by simp; omega) e0).mono ?_
    rintro e w1 ⟨rfl, hr1, hb1⟩
    obtain ⟨gs', hsa', cq', fq', gsl', scl', bgs'⟩ := hr1.inst.stAt (i := low.length + jj) (v := V.w z) (by
      simp only [List.reverse_append, List.append_assoc]
      rw [List.getElem?_append_right (by simp), List.getElem?_append_left (by simp; omega)]
      simpa using HQR.out)
    rw [HSA.out] at hsa'
    simp at hsa'
    subst hsa'
    have c2 := hr1.inst.here.cell 2
    simp [HSA.out] at c2
    have fq' := fq' (low.length + jj)
    simp only [V.val] at cq'
    have hset := hr1.drew.inst.setAt (i := low.length + jj) (by simp; omega) HSA.out (word 105 z0.num)
    have hr2 := hr1.drew.step hset.1 hset.2
    rw [set_mid _ _ _ _ _ hjl] at hr2
    obtain ⟨t1, t2, t3, t4⟩ := M.out.tail M.out.gf hr2
    have t2 := t2 (rs.length * 5 + 1)
    obtain ⟨gf2, hgf2, hx1, hx2, hx3, hx4, hbg2, hsg2⟩ := hr1.inst.top (r := r) (rs := rs) M.out.fr
    rw [M.out.gf] at hgf2
    simp at hgf2
    subst hgf2
    rw [HSA.out] at hsg2
    have hgg : gs ≠ gf := fun e => hsg2 (by rw [e]; rfl)
    have hgg' : gf ≠ gs := fun e => hgg e.symm
    rw [World.cell?_setCell_other w1.drew ⟨gs, low.length + jj, none⟩ ⟨gf, rs.length * 5 + 1, none⟩ _ (fun e => hgg (congrArg Addr.block e))] at t1
    have t1 : w1.cell? ⟨gf, rs.length * 5 + 1, none⟩ = some (.int .i64 pc) := t1
    have t2 : w1.frozen? ⟨gf, rs.length * 5 + 1, none⟩ = false := by simpa using t2
    have t3 : gf < w1.heap.size := by simpa [World.setCell] using t3
    have R1 : Hid (RunW _ _ _ _ _ _ _ _) := t4
    clear hr1 hb1 hr2 hset t4 cq hsg2 hbg2 hx1 hx2 hx3 hx4
    go_wp2
    refine wp_region_head 7 1 (fun y => y = w1.drew) (by kernel_rfl) (by kernel_rfl) O.out.pq rfl ?_
    simp only [List.take_succ_cons, List.take_zero, List.drop_succ_cons, List.drop_zero]
    repeat go_big_quiet_step (fail)
    refine wpQuiet_nil ?_
    unfold wpChain
    go_wp2_with fail
    refine (word105 z0.num _).mono ?_
    rintro e w2 ⟨rfl, rfl⟩
    simp only [word, V.val, if_true]
    go_wp2
    refine ⟨trivial, ?_⟩
    rw [wpChain_zero]
    go_wp2
    refine O.out.nrm _ _ ⟨by kernel_rfl, by kernel_rfl, by kernel_rfl, by kernel_rfl, rfl⟩ ?_
    refine M.out.next ys (loc.reverse.set jj (word 105 z0.num)).reverse (pc + 1) (by rw [hys]; exact hT1) ?_ hfs ?_ rfl R1.out (by rw [HX.out, word_eq HZF.out e0]) M.out.n0 rfl
    · exact set_ty HQR.out (by rw [word_ty (by simp)]; rfl)
    · intro v hv
      have hv := List.mem_or_eq_of_mem_set (List.mem_reverse.1 hv)
      rcases hv with hv | rfl
      · exact M.out.fits.2.1 v (by simpa using hv)
      · exact word_fits _ HNF.out
  | d z =>
    have e0 : z0.ty = 108 := hz0.trans HQT.out.symm
    simp only [V.val] at cq
    go_wp2
    refine wp_region_tail 7 (by kernel_rfl) (by kernel_rfl) O.out.pq ?_
    simp only [List.take_succ_cons, List.take_zero, List.drop_succ_cons, List.drop_zero]
    repeat go_big_quiet_step (fail)
    refine wpQuiet_nil ?_
    go_wp2_with fail
    refine (need_dec (by omega) _ _).mono ?_
    rintro e w1 ⟨rfl, rfl⟩
    go_wp2_with fail
    refine (kind64 _ _).mono ?_
    rintro e w1 ⟨rfl, rfl⟩
    go_wp2_with fail
    refine (M.out.drew.num108c (M.out.drew.runSt hst) M.out.box.drew hzf (by simp; omega) (by simp; omega) e0).mono ?_
    rintro e w1 ⟨rfl, hr1, hb1⟩
    obtain ⟨gs', hsa', cq', fq', gsl', scl', bgs'⟩ := hr1.inst.stAt (i := low.length + jj) (v := V.d z) (by
      simp only [List.reverse_append, List.append_assoc]
      rw [List.getElem?_append_right (by simp), List.getElem?_append_left (by simp; omega)]
      simpa using HQR.out)
    rw [HSA.out] at hsa'
    simp at hsa'
    subst hsa'
    have c2 := hr1.inst.here.cell 2
    simp [HSA.out] at c2
    have fq' := fq' (low.length + jj)
    simp only [V.val] at cq'
    have hset := hr1.drew.inst.setAt (i := low.length + jj) (by simp; omega) HSA.out (word 108 z0.num)
    have hr2 := hr1.drew.step hset.1 hset.2
    rw [set_mid _ _ _ _ _ hjl] at hr2
    obtain ⟨t1, t2, t3, t4⟩ := M.out.tail M.out.gf hr2
    have t2 := t2 (rs.length * 5 + 1)
    obtain ⟨gf2, hgf2, hx1, hx2, hx3, hx4, hbg2, hsg2⟩ := hr1.inst.top (r := r) (rs := rs) M.out.fr
    rw [M.out.gf] at hgf2
    simp at hgf2
    subst hgf2
    rw [HSA.out] at hsg2
    have hgg : gs ≠ gf := fun e => hsg2 (by rw [e]; rfl)
    have hgg' : gf ≠ gs := fun e => hgg e.symm
    rw [World.cell?_setCell_other w1.drew ⟨gs, low.length + jj, none⟩ ⟨gf, rs.length * 5 + 1, none⟩ _ (fun e => hgg (congrArg Addr.block e))] at t1
    have t1 : w1.cell? ⟨gf, rs.length * 5 + 1, none⟩ = some (.int .i64 pc) := t1
    have t2 : w1.frozen? ⟨gf, rs.length * 5 + 1, none⟩ = false := by simpa using t2
    have t3 : gf < w1.heap.size := by simpa [World.setCell] using t3
    have R1 : Hid (RunW _ _ _ _ _ _ _ _) := t4
    clear hr1 hb1 hr2 hset t4 cq hsg2 hbg2 hx1 hx2 hx3 hx4
    go_wp2
    refine wp_region_head 7 1 (fun y => y = w1.drew) (by kernel_rfl) (by kernel_rfl) O.out.pq rfl ?_
    simp only [List.take_succ_cons, List.take_zero, List.drop_succ_cons, List.drop_zero]
    repeat go_big_quiet_step (fail)
    refine wpQuiet_nil ?_
    unfold wpChain
    go_wp2_with fail
    refine (word108 z0.num _).mono ?_
    rintro e w2 ⟨rfl, rfl⟩
    simp only [word, V.val, show ¬ ((108 : UInt8) = 105) by decide, if_false]
    go_wp2
    refine ⟨trivial, ?_⟩
    rw [wpChain_zero]
    go_wp2
    refine O.out.nrm _ _ ⟨by kernel_rfl, by kernel_rfl, by kernel_rfl, by kernel_rfl, rfl⟩ ?_
    refine M.out.next ys (loc.reverse.set jj (word 108 z0.num)).reverse (pc + 1) (by rw [hys]; exact hT1) ?_ hfs ?_ rfl R1.out (by rw [HX.out, word_eq HZF.out e0]) M.out.n0 rfl
    · exact set_ty HQR.out (by rw [word_ty (by simp)]; rfl)
    · intro v hv
      have hv := List.mem_or_eq_of_mem_set (List.mem_reverse.1 hv)
      rcases hv with hv | rfl
      · exact M.out.fits.2.1 v (by simpa using hv)
      · exact word_fits _ HNF.out
end
end Go.Proofs.Qxb6500575aGreatDoor
