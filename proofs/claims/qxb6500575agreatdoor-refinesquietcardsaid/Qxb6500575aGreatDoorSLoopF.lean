/-
  THE ROUNDS of run.loop: load.
-/
import Derived.Test.Qxb6500575aGreatDoorSLoop1
import Derived.Test.Qxb6500575aGreatDoorXGrow
import Derived.Test.Qxb6500575aGreatDoorReg3
namespace Go.Proofs.Qxb6500575aGreatDoor
open Go Go.RowKit
set_option linter.unusedVariables false
set_option linter.unusedSimpArgs false

section
variable {σ τ : Type} {G : Gh σ τ} {H : HF τ} {R : RP σ} {T : Nat → Typing} {w : World} {L : InL} {K : KL} {x : InD} {n : Int} {d : KD} {s : σ} {r : Frm} {rs : List Frm} {fn : Nat} {v : FunD} {c : List Flat} {pc : Nat} {ρ : List UInt8} {ops loc low : List V} {i : Flat} {bf gf : Nat} {fuel : Int} {h : Value} {D : World → Prop} {Q : Exit → Act → World → Prop}
set_option maxRecDepth 100000
set_option maxHeartbeats 2000000
theorem sw_load19 (m : Mid G H R T w L K x n d s r rs fn v c pc ρ ops loc low i bf gf) (hop : i.op = 19) (mc : MachX) (o : Outs R fuel h (Nx G R T x) D (Tp G R x) Q) (u : Nat → Value) :
    (codeR (codeR (codeR (codeR (roundOf Tryz.f65.body))))).wp Tryz.prog Q { tmps := List.toArray (.pointer (some ⟨R.bx, 0, none⟩) :: .int .i64 fuel :: h :: u 3 :: u 4 :: u 5 :: .pointer (some ⟨gf, rs.length * 5, none⟩) :: .pointer (some ⟨bf, 0, none⟩) :: u 8 :: u 9 :: u 10 :: u 11 :: u 12 :: u 13 :: u 14 :: u 15 :: u 16 :: u 17 :: u 18 :: u 19 :: u 20 :: u 21 :: u 22 :: u 23 :: u 24 :: u 25 :: u 26 :: u 27 :: u 28 :: u 29 :: u 30 :: u 31 :: u 32 :: u 33 :: u 34 :: u 35 :: u 36 :: u 37 :: u 38 :: u 39 :: u 40 :: u 41 :: u 42 :: u 43 :: u 44 :: u 45 :: u 46 :: u 47 :: u 48 :: u 49 :: u 50 :: u 51 :: u 52 :: u 53 :: u 54 :: u 55 :: u 56 :: u 57 :: u 58 :: u 59 :: u 60 :: u 61 :: u 62 :: u 63 :: u 64 :: u 65 :: u 66 :: u 67 :: u 68 :: u 69 :: u 70 :: u 71 :: u 72 :: u 73 :: u 74 :: u 75 :: u 76 :: u 77 :: u 78 :: u 79 :: u 80 :: u 81 :: u 82 :: u 83 :: u 84 :: u 85 :: u 86 :: u 87 :: u 88 :: u 89 :: u 90 :: u 91 :: u 92 :: u 93 :: u 94 :: u 95 :: u 96 :: u 97 :: u 98 :: u 99 :: u 100 :: u 101 :: u 102 :: u 103 :: u 104 :: u 105 :: u 106 :: u 107 :: u 108 :: u 109 :: u 110 :: u 111 :: u 112 :: u 113 :: u 114 :: u 115 :: u 116 :: u 117 :: u 118 :: u 119 :: u 120 :: u 121 :: u 122 :: u 123 :: u 124 :: u 125 :: u 126 :: u 127 :: u 128 :: u 129 :: u 130 :: u 131 :: u 132 :: u 133 :: u 134 :: u 135 :: u 136 :: u 137 :: u 138 :: u 139 :: u 140 :: u 141 :: u 142 :: u 143 :: u 144 :: u 145 :: u 146 :: u 147 :: u 148 :: u 149 :: u 150 :: u 151 :: u 152 :: u 153 :: u 154 :: u 155 :: u 156 :: u 157 :: u 158 :: u 159 :: u 160 :: u 161 :: u 162 :: u 163 :: u 164 :: u 165 :: u 166 :: u 167 :: u 168 :: u 169 :: u 170 :: u 171 :: u 172 :: u 173 :: u 174 :: u 175 :: u 176 :: u 177 :: u 178 :: u 179 :: u 180 :: u 181 :: u 182 :: u 183 :: u 184 :: u 185 :: u 186 :: u 187 :: u 188 :: u 189 :: u 190 :: u 191 :: u 192 :: u 193 :: u 194 :: u 195 :: u 196 :: u 197 :: u 198 :: u 199 :: u 200 :: u 201 :: u 202 :: u 203 :: u 204 :: u 205 :: u 206 :: u 207 :: u 208 :: u 209 :: u 210 :: u 211 :: u 212 :: u 213 :: u 214 :: u 215 :: u 216 :: u 217 :: u 218 :: u 219 :: u 220 :: u 221 :: u 222 :: u 223 :: u 224 :: u 225 :: u 226 :: u 227 :: u 228 :: u 229 :: u 230 :: u 231 :: u 232 :: u 233 :: u 234 :: u 235 :: u 236 :: u 237 :: u 238 :: u 239 :: u 240 :: u 241 :: u 242 :: u 243 :: u 244 :: u 245 :: u 246 :: u 247 :: u 248 :: u 249 :: u 250 :: u 251 :: u 252 :: u 253 :: u 254 :: u 255 :: u 256 :: u 257 :: u 258 :: u 259 :: u 260 :: u 261 :: u 262 :: u 263 :: u 264 :: u 265 :: u 266 :: u 267 :: u 268 :: u 269 :: u 270 :: u 271 :: u 272 :: u 273 :: u 274 :: u 275 :: u 276 :: u 277 :: u 278 :: u 279 :: u 280 :: u 281 :: u 282 :: u 283 :: u 284 :: u 285 :: u 286 :: u 287 :: u 288 :: u 289 :: u 290 :: u 291 :: u 292 :: u 293 :: u 294 :: u 295 :: u 296 :: u 297 :: u 298 :: u 299 :: u 300 :: u 301 :: u 302 :: u 303 :: u 304 :: u 305 :: u 306 :: u 307 :: u 308 :: u 309 :: u 310 :: u 311 :: u 312 :: u 313 :: u 314 :: u 315 :: u 316 :: u 317 :: u 318 :: u 319 :: u 320 :: u 321 :: u 322 :: u 323 :: u 324 :: u 325 :: u 326 :: u 327 :: u 328 :: u 329 :: u 330 :: u 331 :: u 332 :: u 333 :: u 334 :: u 335 :: u 336 :: u 337 :: u 338 :: u 339 :: u 340 :: u 341 :: u 342 :: u 343 :: u 344 :: u 345 :: u 346 :: u 347 :: u 348 :: u 349 :: u 350 :: u 351 :: u 352 :: u 353 :: u 354 :: u 355 :: u 356 :: u 357 :: u 358 :: u 359 :: u 360 :: u 361 :: u 362 :: u 363 :: u 364 :: u 365 :: u 366 :: u 367 :: u 368 :: u 369 :: u 370 :: u 371 :: u 372 :: u 373 :: u 374 :: u 375 :: u 376 :: u 377 :: u 378 :: u 379 :: u 380 :: u 381 :: u 382 :: u 383 :: u 384 :: u 385 :: u 386 :: u 387 :: u 388 :: u 389 :: u 390 :: u 391 :: u 392 :: u 393 :: u 394 :: u 395 :: u 396 :: u 397 :: u 398 :: u 399 :: u 400 :: u 401 :: u 402 :: u 403 :: u 404 :: u 405 :: u 406 :: u 407 :: u 408 :: u 409 :: u 410 :: u 411 :: u 412 :: u 413 :: u 414 :: u 415 :: u 416 :: u 417 :: u 418 :: u 419 :: u 420 :: u 421 :: u 422 :: u 423 :: u 424 :: u 425 :: u 426 :: u 427 :: u 428 :: u 429 :: u 430 :: u 431 :: u 432 :: u 433 :: u 434 :: u 435 :: u 436 :: u 437 :: u 438 :: u 439 :: u 440 :: u 441 :: u 442 :: u 443 :: u 444 :: u 445 :: u 446 :: u 447 :: u 448 :: u 449 :: u 450 :: u 451 :: []), defers := [] } w := by
  have b0 := m.box.cell 0
  have b1 := m.box.cell 1
  have b2 := m.box.cell 2
  have b3 := m.box.cell 3
  simp [hop] at b0 b1 b2 b3
  have c2 := m.run.inst.here.cell 2
  simp at c2
  obtain ⟨l1, l2, l3, l4, l5⟩ := m.lens
  obtain ⟨k1, k2, k3⟩ := m.lts
  have hfl : r.floor = loc.length + low.length := m.lay.floor
  have hxl : x.st.length ≤ ops.length + (loc.length + low.length) ∧ ops.length + (loc.length + low.length) ≤ x.st.length := by rw [m.lay.hst]; simp
  obtain ⟨ρ', e1, h2⟩ := (m.ins.plain (by omega)).2
  rw [hop] at e1 h2
  obtain ⟨k, ys, e2, hys⟩ := pop_w (by rw [m.lay.hops]; rw [e1]; rfl)
  have hst : x.st = V.w k :: (ys ++ (loc ++ low)) := by rw [m.lay.hst, e2]; rfl
  have hkf : (V.w k).Fits := m.fits.1 _ (by rw [e2]; simp)
  have hfs : ∀ v ∈ ys, v.Fits := fun v hv => m.fits.1 v (by rw [e2]; simp [hv])
  have HL : Hid (lstep i ops loc d.flat d.max = if (loadP d.flat 19 k i.imm).2 = 0 then ⟨0, V.w (wrap32 (loadP d.flat 19 k i.imm).1) :: ys, loc, d.flat⟩ else ⟨(loadP d.flat 19 k i.imm).2, ys, loc, d.flat⟩) := by
    show _ = _
    rw [e2]
    by_cases hz : (loadP d.flat 19 k i.imm).2 = 0 <;> simp [lstep, hop, V.num, hz]
  have hyl : ys.length + 1 = ops.length := by rw [e2]; rfl
  clear e1 e2 c2
  simp only [roundOf, codeR, codeIn, Tryz.f65, Option.getD_some]
  have M : Hid (Mid G H R T w L K x n d s r rs fn v c pc ρ ops loc low i bf gf) := m
  have O : Hid (Outs R fuel h _ _ _ Q) := o
  clear m o
  go_wp2_with fail
  refine (M.out.pop32c (M.out.runSt hst) M.out.box hkf (by simp; omega) (by simp; omega)).mono ?_
  rintro e w1 ⟨rfl, hr1, hb1⟩
  obtain ⟨Z, hZ⟩ : ∃ Z, Z = ys ++ (loc ++ low) := ⟨_, rfl⟩
  rw [← hZ] at hr1
  have HZ : Hid (Z = ys ++ (loc ++ low)) := hZ
  have l1' : Z.length ≤ 124 := by rw [hZ]; simp; omega
  clear hZ
  have c1 := hr1.inst.here.cell 1
  simp at c1
  have b0 := hb1.cell 0
  have b1 := hb1.cell 1
  simp [hop] at b0 b1
  have HR1 : Hid (RunW _ _ _ _ _ _ _ _) := hr1
  have HB1 : Hid (Has w1 bf _ _) := hb1
  clear hr1 hb1
  have hbf0 : w1.drew.cell? ⟨bf, 0, none⟩ = _ := b0
  have hbf1 : w1.drew.cell? ⟨bf, 1, none⟩ = _ := b1
  go_wp2
  refine wp_region_two [0, 1, 2, 3, 4, 5, 6, 7, 8] 9 [10, 11, 12, 13, 14] 15 (fun y => y.cell? ⟨R.bx, 1, none⟩ = some (.pointer (some ⟨R.bk, 0, none⟩)) ∧ y.cell? ⟨bf, 0, none⟩ = some (.int .i64 19) ∧ y.cell? ⟨bf, 1, none⟩ = some (.int .i64 i.imm)) (by kernel_rfl) (by kernel_rfl) O.out.pq ⟨c1, b0, b1⟩ [_, _, _, _, _, _, _, _, _] rfl _ rfl [_, _, _, _, _] rfl ?_
  refine wpQ_move rfl (.tmp 0) (.pointer (some ⟨R.bx, 0, none⟩)) rfl (by kernel_rfl) ?_
  simp only [Act.put, List.setIfInBounds_toArray, List.set_cons_succ, List.set_cons_zero]
  refine wpQ_nilCheck rfl (.tmp 375) ⟨R.bx, 0, none⟩ rfl (by kernel_rfl) ?_
  simp only [Act.put, List.setIfInBounds_toArray, List.set_cons_succ, List.set_cons_zero]
  refine wpQ_fieldAddr rfl (.tmp 376) 1 ⟨R.bx, 0, none⟩ ⟨R.bx, 1, none⟩ rfl (by kernel_rfl) (fun w => by kernel_rfl) ?_
  simp only [Act.put, List.setIfInBounds_toArray, List.set_cons_succ, List.set_cons_zero]
  refine wpQ_load1 rfl (.tmp 377) ⟨R.bx, 1, none⟩ (.pointer (some ⟨R.bk, 0, none⟩)) rfl (by kernel_rfl) (by kernel_rfl) (fun _ h => h.1) ?_
  simp only [Act.put, List.setIfInBounds_toArray, List.set_cons_succ, List.set_cons_zero]
  refine wpQ_fieldAddr rfl (.tmp 7) 0 ⟨bf, 0, none⟩ ⟨bf, 0, none⟩ rfl (by kernel_rfl) (fun w => by kernel_rfl) ?_
  simp only [Act.put, List.setIfInBounds_toArray, List.set_cons_succ, List.set_cons_zero]
  refine wpQ_load1 rfl (.tmp 379) ⟨bf, 0, none⟩ (.int .i64 19) rfl (by kernel_rfl) (by kernel_rfl) (fun _ h => h.2.1) ?_
  simp only [Act.put, List.setIfInBounds_toArray, List.set_cons_succ, List.set_cons_zero]
  refine wpQ_move rfl (.tmp 18) (.int .i64 k) rfl (by kernel_rfl) ?_
  simp only [Act.put, List.setIfInBounds_toArray, List.set_cons_succ, List.set_cons_zero]
  refine wpQ_fieldAddr rfl (.tmp 7) 1 ⟨bf, 0, none⟩ ⟨bf, 1, none⟩ rfl (by kernel_rfl) (fun w => by kernel_rfl) ?_
  simp only [Act.put, List.setIfInBounds_toArray, List.set_cons_succ, List.set_cons_zero]
  refine wpQ_load1 rfl (.tmp 382) ⟨bf, 1, none⟩ (.int .i64 i.imm) rfl (by kernel_rfl) (by kernel_rfl) (fun _ h => h.2.2) ?_
  simp only [Act.put, List.setIfInBounds_toArray, List.set_cons_succ, List.set_cons_zero]
  refine wpQuiet_nil ?_
  go_wp2_with fail
  refine (mc.load 19 k i.imm HR1.out.drew.mach (by omega) (by omega)).mono ?_
  rintro e w2 ⟨rfl, hf2⟩
  obtain ⟨nn, HNN⟩ : ∃ nn, Hid (nn = (loadP d.flat 19 k i.imm).1) := ⟨_, rfl⟩
  obtain ⟨er, HER⟩ : ∃ er, Hid (er = (loadP d.flat 19 k i.imm).2) := ⟨_, rfl⟩
  rw [← HNN.out, ← HER.out]
  have her : er = 0 ∨ er = 12 := by rw [HER.out]; exact loadP_err _ _ _ _
  have hn : I64 nn := by rw [HNN.out]; exact loadP_i64 _ _ _ _ (by omega) (by omega)
  have hr2 := HR1.out.drew.fresh hf2
  have hb2 : Has w2 bf _ _ := HB1.out.drew.fr hf2 (fun h => h)
  have c2' := hr2.inst.here.cell 2
  simp only [List.getElem?_toArray, List.getElem?_cons_succ, List.getElem?_cons_zero] at c2'
  have b0 := hb2.cell 0
  simp [hop] at b0
  have k1 := hr2.inst.here.lt
  have HR : Hid (RunW _ _ _ _ _ _ _ _) := hr2
  have HB : Hid (Has w2 bf _ _) := hb2
  have HOWN : Hid (w2.ownsRow _ _ _ _ _ _) := hr2.inst.st
  have HLN : Hid (Z.length ≤ 1000) := by show _ ≤ _; omega
  have hc1 := hr2.inst.here.cell 1
  have hb1' := hb2.cell 1
  simp at hc1 hb1'
  clear hr2 hb2 hf2
  go_wp2
  refine ⟨⟨hc1, b0, hb1'⟩, ?_⟩
  refine wpQ_move rfl (.tmp 384) (.tuple #[.int .i64 nn, .int .i64 er]) rfl (by kernel_rfl) ?_
  simp only [Act.put, List.setIfInBounds_toArray, List.set_cons_succ, List.set_cons_zero]
  refine wpQ_pure rfl (.int .i64 nn) (fun w => by kernel_rfl) ?_
  simp only [Act.put, List.setIfInBounds_toArray, List.set_cons_succ, List.set_cons_zero]
  refine wpQ_pure rfl (.int .i64 er) (fun w => by kernel_rfl) ?_
  simp only [Act.put, List.setIfInBounds_toArray, List.set_cons_succ, List.set_cons_zero]
  refine wpQ_pure rfl (.int .i64 nn) (fun w => by kernel_rfl) ?_
  simp only [Act.put, List.setIfInBounds_toArray, List.set_cons_succ, List.set_cons_zero]
  refine wpQ_pure rfl (.int .i64 er) (fun w => by kernel_rfl) ?_
  simp only [Act.put, List.setIfInBounds_toArray, List.set_cons_succ, List.set_cons_zero]
  refine wpQuiet_nil ?_
  show wpList _ _ _ [] _ _
  clear hc1 hb1'
  rcases her with rfl | rfl
  · go_wp2_with fail
    refine (need_ok _ _).mono ?_
    rintro e w3 ⟨rfl, rfl⟩
    go_wp2_with (at_builtin; refine wpList_app rowVal _ rfl (.tmp 409) (.tmp 413) rfl _ _ _ rfl (owns_alloc HOWN.out _) _ [.iface 208 (.int .i32 (wrap32 nn))] rfl (Has.new _ _ _) rfl ?one ?bd ?go)
    case one => simp [Value.oneCell']
    case bd => have := HLN.out; omega
    case go =>
      intro gg cap w5 q1 q2 q3 q4
      obtain ⟨r1, r2, r3, r4, r5, r6, r7, r8, L', r9⟩ := M.out.pushL HR.out M.out.gf HB.out (V.w (wrap32 nn)) (by first | exact q1 | (rw [List.map_reverse]; exact q1)) q2 q3 q4
      have d2 := r1 2
      have e2 := r2 2
      have e3 := r5 (rs.length * 5 + 1)
      rw [c2'] at d2
      have R9 : Hid (RunW _ _ _ _ _ _ _ _) := r9
      clear q1 q2 q3 q4 r1 r2 r5 r8 r9
      go_wp2
      refine O.out.nrm _ _ ⟨by kernel_rfl, by kernel_rfl, by kernel_rfl, by kernel_rfl, rfl⟩ ?_
      refine M.out.next (V.w (wrap32 nn) :: ys) loc (pc + 1) ?_ rfl ?_ M.out.fits.2.1 (by rw [HZ.out]; rfl) R9.out (M.out.lnext (by omega) (lo := ⟨0, V.w (wrap32 nn) :: ys, loc, d.flat⟩) (by rw [HL.out, if_pos HER.out.symm, ← HNN.out]) rfl) M.out.n0 rfl
      · rw [h2, List.map_cons, hys]; rfl
      · intro v hv
        rcases List.mem_cons.1 hv with rfl | hv
        · unfold V.Fits wrap32; omega
        · exact hfs v hv
  · go_wp2_with fail
    refine (need_no 12 _).mono ?_
    rintro e w3 ⟨rfl, rfl⟩
    go_wp2
    exact O.out.pan _ _ 12 rfl (by omega) (by omega) ⟨L, K, _, n, d, s, HR.out, rfl, rfl, M.out.trap (M.out.ltrap (by omega) (lo := ⟨12, ys, loc, d.flat⟩) (by rw [HL.out, if_neg (by rw [← HER.out]; decide), ← HER.out]) (show (12 : Int) ≠ 0 by decide)) M.out.n0 rfl⟩
theorem sw_load20 (m : Mid G H R T w L K x n d s r rs fn v c pc ρ ops loc low i bf gf) (hop : i.op = 20) (mc : MachX) (o : Outs R fuel h (Nx G R T x) D (Tp G R x) Q) (u : Nat → Value) :
    (codeR (codeR (codeR (codeR (roundOf Tryz.f65.body))))).wp Tryz.prog Q { tmps := List.toArray (.pointer (some ⟨R.bx, 0, none⟩) :: .int .i64 fuel :: h :: u 3 :: u 4 :: u 5 :: .pointer (some ⟨gf, rs.length * 5, none⟩) :: .pointer (some ⟨bf, 0, none⟩) :: u 8 :: u 9 :: u 10 :: u 11 :: u 12 :: u 13 :: u 14 :: u 15 :: u 16 :: u 17 :: u 18 :: u 19 :: u 20 :: u 21 :: u 22 :: u 23 :: u 24 :: u 25 :: u 26 :: u 27 :: u 28 :: u 29 :: u 30 :: u 31 :: u 32 :: u 33 :: u 34 :: u 35 :: u 36 :: u 37 :: u 38 :: u 39 :: u 40 :: u 41 :: u 42 :: u 43 :: u 44 :: u 45 :: u 46 :: u 47 :: u 48 :: u 49 :: u 50 :: u 51 :: u 52 :: u 53 :: u 54 :: u 55 :: u 56 :: u 57 :: u 58 :: u 59 :: u 60 :: u 61 :: u 62 :: u 63 :: u 64 :: u 65 :: u 66 :: u 67 :: u 68 :: u 69 :: u 70 :: u 71 :: u 72 :: u 73 :: u 74 :: u 75 :: u 76 :: u 77 :: u 78 :: u 79 :: u 80 :: u 81 :: u 82 :: u 83 :: u 84 :: u 85 :: u 86 :: u 87 :: u 88 :: u 89 :: u 90 :: u 91 :: u 92 :: u 93 :: u 94 :: u 95 :: u 96 :: u 97 :: u 98 :: u 99 :: u 100 :: u 101 :: u 102 :: u 103 :: u 104 :: u 105 :: u 106 :: u 107 :: u 108 :: u 109 :: u 110 :: u 111 :: u 112 :: u 113 :: u 114 :: u 115 :: u 116 :: u 117 :: u 118 :: u 119 :: u 120 :: u 121 :: u 122 :: u 123 :: u 124 :: u 125 :: u 126 :: u 127 :: u 128 :: u 129 :: u 130 :: u 131 :: u 132 :: u 133 :: u 134 :: u 135 :: u 136 :: u 137 :: u 138 :: u 139 :: u 140 :: u 141 :: u 142 :: u 143 :: u 144 :: u 145 :: u 146 :: u 147 :: u 148 :: u 149 :: u 150 :: u 151 :: u 152 :: u 153 :: u 154 :: u 155 :: u 156 :: u 157 :: u 158 :: u 159 :: u 160 :: u 161 :: u 162 :: u 163 :: u 164 :: u 165 :: u 166 :: u 167 :: u 168 :: u 169 :: u 170 :: u 171 :: u 172 :: u 173 :: u 174 :: u 175 :: u 176 :: u 177 :: u 178 :: u 179 :: u 180 :: u 181 :: u 182 :: u 183 :: u 184 :: u 185 :: u 186 :: u 187 :: u 188 :: u 189 :: u 190 :: u 191 :: u 192 :: u 193 :: u 194 :: u 195 :: u 196 :: u 197 :: u 198 :: u 199 :: u 200 :: u 201 :: u 202 :: u 203 :: u 204 :: u 205 :: u 206 :: u 207 :: u 208 :: u 209 :: u 210 :: u 211 :: u 212 :: u 213 :: u 214 :: u 215 :: u 216 :: u 217 :: u 218 :: u 219 :: u 220 :: u 221 :: u 222 :: u 223 :: u 224 :: u 225 :: u 226 :: u 227 :: u 228 :: u 229 :: u 230 :: u 231 :: u 232 :: u 233 :: u 234 :: u 235 :: u 236 :: u 237 :: u 238 :: u 239 :: u 240 :: u 241 :: u 242 :: u 243 :: u 244 :: u 245 :: u 246 :: u 247 :: u 248 :: u 249 :: u 250 :: u 251 :: u 252 :: u 253 :: u 254 :: u 255 :: u 256 :: u 257 :: u 258 :: u 259 :: u 260 :: u 261 :: u 262 :: u 263 :: u 264 :: u 265 :: u 266 :: u 267 :: u 268 :: u 269 :: u 270 :: u 271 :: u 272 :: u 273 :: u 274 :: u 275 :: u 276 :: u 277 :: u 278 :: u 279 :: u 280 :: u 281 :: u 282 :: u 283 :: u 284 :: u 285 :: u 286 :: u 287 :: u 288 :: u 289 :: u 290 :: u 291 :: u 292 :: u 293 :: u 294 :: u 295 :: u 296 :: u 297 :: u 298 :: u 299 :: u 300 :: u 301 :: u 302 :: u 303 :: u 304 :: u 305 :: u 306 :: u 307 :: u 308 :: u 309 :: u 310 :: u 311 :: u 312 :: u 313 :: u 314 :: u 315 :: u 316 :: u 317 :: u 318 :: u 319 :: u 320 :: u 321 :: u 322 :: u 323 :: u 324 :: u 325 :: u 326 :: u 327 :: u 328 :: u 329 :: u 330 :: u 331 :: u 332 :: u 333 :: u 334 :: u 335 :: u 336 :: u 337 :: u 338 :: u 339 :: u 340 :: u 341 :: u 342 :: u 343 :: u 344 :: u 345 :: u 346 :: u 347 :: u 348 :: u 349 :: u 350 :: u 351 :: u 352 :: u 353 :: u 354 :: u 355 :: u 356 :: u 357 :: u 358 :: u 359 :: u 360 :: u 361 :: u 362 :: u 363 :: u 364 :: u 365 :: u 366 :: u 367 :: u 368 :: u 369 :: u 370 :: u 371 :: u 372 :: u 373 :: u 374 :: u 375 :: u 376 :: u 377 :: u 378 :: u 379 :: u 380 :: u 381 :: u 382 :: u 383 :: u 384 :: u 385 :: u 386 :: u 387 :: u 388 :: u 389 :: u 390 :: u 391 :: u 392 :: u 393 :: u 394 :: u 395 :: u 396 :: u 397 :: u 398 :: u 399 :: u 400 :: u 401 :: u 402 :: u 403 :: u 404 :: u 405 :: u 406 :: u 407 :: u 408 :: u 409 :: u 410 :: u 411 :: u 412 :: u 413 :: u 414 :: u 415 :: u 416 :: u 417 :: u 418 :: u 419 :: u 420 :: u 421 :: u 422 :: u 423 :: u 424 :: u 425 :: u 426 :: u 427 :: u 428 :: u 429 :: u 430 :: u 431 :: u 432 :: u 433 :: u 434 :: u 435 :: u 436 :: u 437 :: u 438 :: u 439 :: u 440 :: u 441 :: u 442 :: u 443 :: u 444 :: u 445 :: u 446 :: u 447 :: u 448 :: u 449 :: u 450 :: u 451 :: []), defers := [] } w := by
  have b0 := m.box.cell 0
  have b1 := m.box.cell 1
  have b2 := m.box.cell 2
  have b3 := m.box.cell 3
  simp [hop] at b0 b1 b2 b3
  have c2 := m.run.inst.here.cell 2
  simp at c2
  obtain ⟨l1, l2, l3, l4, l5⟩ := m.lens
  obtain ⟨k1, k2, k3⟩ := m.lts
  have hfl : r.floor = loc.length + low.length := m.lay.floor
  have hxl : x.st.length ≤ ops.length + (loc.length + low.length) ∧ ops.length + (loc.length + low.length) ≤ x.st.length := by rw [m.lay.hst]; simp
  obtain ⟨ρ', e1, h2⟩ := (m.ins.plain (by omega)).2
  rw [hop] at e1 h2
  obtain ⟨k, ys, e2, hys⟩ := pop_w (by rw [m.lay.hops]; rw [e1]; rfl)
  have hst : x.st = V.w k :: (ys ++ (loc ++ low)) := by rw [m.lay.hst, e2]; rfl
  have hkf : (V.w k).Fits := m.fits.1 _ (by rw [e2]; simp)
  have hfs : ∀ v ∈ ys, v.Fits := fun v hv => m.fits.1 v (by rw [e2]; simp [hv])
  have HL : Hid (lstep i ops loc d.flat d.max = if (loadP d.flat 20 k i.imm).2 = 0 then ⟨0, V.d (loadP d.flat 20 k i.imm).1 :: ys, loc, d.flat⟩ else ⟨(loadP d.flat 20 k i.imm).2, ys, loc, d.flat⟩) := by
    show _ = _
    rw [e2]
    by_cases hz : (loadP d.flat 20 k i.imm).2 = 0 <;> simp [lstep, hop, V.num, hz]
  have hyl : ys.length + 1 = ops.length := by rw [e2]; rfl
  clear e1 e2 c2
  simp only [roundOf, codeR, codeIn, Tryz.f65, Option.getD_some]
  have M : Hid (Mid G H R T w L K x n d s r rs fn v c pc ρ ops loc low i bf gf) := m
  have O : Hid (Outs R fuel h _ _ _ Q) := o
  clear m o
  go_wp2_with fail
  refine (M.out.pop32c (M.out.runSt hst) M.out.box hkf (by simp; omega) (by simp; omega)).mono ?_
  rintro e w1 ⟨rfl, hr1, hb1⟩
  obtain ⟨Z, hZ⟩ : ∃ Z, Z = ys ++ (loc ++ low) := ⟨_, rfl⟩
  rw [← hZ] at hr1
  have HZ : Hid (Z = ys ++ (loc ++ low)) := hZ
  have l1' : Z.length ≤ 124 := by rw [hZ]; simp; omega
  clear hZ
  have c1 := hr1.inst.here.cell 1
  simp at c1
  have b0 := hb1.cell 0
  have b1 := hb1.cell 1
  simp [hop] at b0 b1
  have HR1 : Hid (RunW _ _ _ _ _ _ _ _) := hr1
  have HB1 : Hid (Has w1 bf _ _) := hb1
  clear hr1 hb1
  have hbf0 : w1.drew.cell? ⟨bf, 0, none⟩ = _ := b0
  have hbf1 : w1.drew.cell? ⟨bf, 1, none⟩ = _ := b1
  go_wp2
  refine wp_region_two [0, 1, 2, 3, 4, 5, 6, 7, 8] 9 [10, 11, 12, 13, 14] 15 (fun y => y.cell? ⟨R.bx, 1, none⟩ = some (.pointer (some ⟨R.bk, 0, none⟩)) ∧ y.cell? ⟨bf, 0, none⟩ = some (.int .i64 20) ∧ y.cell? ⟨bf, 1, none⟩ = some (.int .i64 i.imm)) (by kernel_rfl) (by kernel_rfl) O.out.pq ⟨c1, b0, b1⟩ [_, _, _, _, _, _, _, _, _] rfl _ rfl [_, _, _, _, _] rfl ?_
  refine wpQ_move rfl (.tmp 0) (.pointer (some ⟨R.bx, 0, none⟩)) rfl (by kernel_rfl) ?_
  simp only [Act.put, List.setIfInBounds_toArray, List.set_cons_succ, List.set_cons_zero]
  refine wpQ_nilCheck rfl (.tmp 375) ⟨R.bx, 0, none⟩ rfl (by kernel_rfl) ?_
  simp only [Act.put, List.setIfInBounds_toArray, List.set_cons_succ, List.set_cons_zero]
  refine wpQ_fieldAddr rfl (.tmp 376) 1 ⟨R.bx, 0, none⟩ ⟨R.bx, 1, none⟩ rfl (by kernel_rfl) (fun w => by kernel_rfl) ?_
  simp only [Act.put, List.setIfInBounds_toArray, List.set_cons_succ, List.set_cons_zero]
  refine wpQ_load1 rfl (.tmp 377) ⟨R.bx, 1, none⟩ (.pointer (some ⟨R.bk, 0, none⟩)) rfl (by kernel_rfl) (by kernel_rfl) (fun _ h => h.1) ?_
  simp only [Act.put, List.setIfInBounds_toArray, List.set_cons_succ, List.set_cons_zero]
  refine wpQ_fieldAddr rfl (.tmp 7) 0 ⟨bf, 0, none⟩ ⟨bf, 0, none⟩ rfl (by kernel_rfl) (fun w => by kernel_rfl) ?_
  simp only [Act.put, List.setIfInBounds_toArray, List.set_cons_succ, List.set_cons_zero]
  refine wpQ_load1 rfl (.tmp 379) ⟨bf, 0, none⟩ (.int .i64 20) rfl (by kernel_rfl) (by kernel_rfl) (fun _ h => h.2.1) ?_
  simp only [Act.put, List.setIfInBounds_toArray, List.set_cons_succ, List.set_cons_zero]
  refine wpQ_move rfl (.tmp 18) (.int .i64 k) rfl (by kernel_rfl) ?_
  simp only [Act.put, List.setIfInBounds_toArray, List.set_cons_succ, List.set_cons_zero]
  refine wpQ_fieldAddr rfl (.tmp 7) 1 ⟨bf, 0, none⟩ ⟨bf, 1, none⟩ rfl (by kernel_rfl) (fun w => by kernel_rfl) ?_
  simp only [Act.put, List.setIfInBounds_toArray, List.set_cons_succ, List.set_cons_zero]
  refine wpQ_load1 rfl (.tmp 382) ⟨bf, 1, none⟩ (.int .i64 i.imm) rfl (by kernel_rfl) (by kernel_rfl) (fun _ h => h.2.2) ?_
  simp only [Act.put, List.setIfInBounds_toArray, List.set_cons_succ, List.set_cons_zero]
  refine wpQuiet_nil ?_
  go_wp2_with fail
  refine (mc.load 20 k i.imm HR1.out.drew.mach (by omega) (by omega)).mono ?_
  rintro e w2 ⟨rfl, hf2⟩
  obtain ⟨nn, HNN⟩ : ∃ nn, Hid (nn = (loadP d.flat 20 k i.imm).1) := ⟨_, rfl⟩
  obtain ⟨er, HER⟩ : ∃ er, Hid (er = (loadP d.flat 20 k i.imm).2) := ⟨_, rfl⟩
  rw [← HNN.out, ← HER.out]
  have her : er = 0 ∨ er = 12 := by rw [HER.out]; exact loadP_err _ _ _ _
  have hn : I64 nn := by rw [HNN.out]; exact loadP_i64 _ _ _ _ (by omega) (by omega)
  have hr2 := HR1.out.drew.fresh hf2
  have hb2 : Has w2 bf _ _ := HB1.out.drew.fr hf2 (fun h => h)
  have c2' := hr2.inst.here.cell 2
  simp only [List.getElem?_toArray, List.getElem?_cons_succ, List.getElem?_cons_zero] at c2'
  have b0 := hb2.cell 0
  simp [hop] at b0
  have k1 := hr2.inst.here.lt
  have HR : Hid (RunW _ _ _ _ _ _ _ _) := hr2
  have HB : Hid (Has w2 bf _ _) := hb2
  have HOWN : Hid (w2.ownsRow _ _ _ _ _ _) := hr2.inst.st
  have HLN : Hid (Z.length ≤ 1000) := by show _ ≤ _; omega
  have hc1 := hr2.inst.here.cell 1
  have hb1' := hb2.cell 1
  simp at hc1 hb1'
  clear hr2 hb2 hf2
  go_wp2
  refine ⟨⟨hc1, b0, hb1'⟩, ?_⟩
  refine wpQ_move rfl (.tmp 384) (.tuple #[.int .i64 nn, .int .i64 er]) rfl (by kernel_rfl) ?_
  simp only [Act.put, List.setIfInBounds_toArray, List.set_cons_succ, List.set_cons_zero]
  refine wpQ_pure rfl (.int .i64 nn) (fun w => by kernel_rfl) ?_
  simp only [Act.put, List.setIfInBounds_toArray, List.set_cons_succ, List.set_cons_zero]
  refine wpQ_pure rfl (.int .i64 er) (fun w => by kernel_rfl) ?_
  simp only [Act.put, List.setIfInBounds_toArray, List.set_cons_succ, List.set_cons_zero]
  refine wpQ_pure rfl (.int .i64 nn) (fun w => by kernel_rfl) ?_
  simp only [Act.put, List.setIfInBounds_toArray, List.set_cons_succ, List.set_cons_zero]
  refine wpQ_pure rfl (.int .i64 er) (fun w => by kernel_rfl) ?_
  simp only [Act.put, List.setIfInBounds_toArray, List.set_cons_succ, List.set_cons_zero]
  refine wpQuiet_nil ?_
  show wpList _ _ _ [] _ _
  clear hc1 hb1'
  rcases her with rfl | rfl
  · go_wp2_with fail
    refine (need_ok _ _).mono ?_
    rintro e w3 ⟨rfl, rfl⟩
    go_wp2_with (at_builtin; refine wpList_app rowVal _ rfl (.tmp 398) (.tmp 401) rfl _ _ _ rfl (owns_alloc HOWN.out _) _ [.iface 209 (.int .i64 nn)] rfl (Has.new _ _ _) rfl ?one ?bd ?go)
    case one => simp [Value.oneCell']
    case bd => have := HLN.out; omega
    case go =>
      intro gg cap w5 q1 q2 q3 q4
      obtain ⟨r1, r2, r3, r4, r5, r6, r7, r8, L', r9⟩ := M.out.pushL HR.out M.out.gf HB.out (V.d nn) (by first | exact q1 | (rw [List.map_reverse]; exact q1)) q2 q3 q4
      have d2 := r1 2
      have e2 := r2 2
      have e3 := r5 (rs.length * 5 + 1)
      rw [c2'] at d2
      have R9 : Hid (RunW _ _ _ _ _ _ _ _) := r9
      clear q1 q2 q3 q4 r1 r2 r5 r8 r9
      go_wp2
      refine O.out.nrm _ _ ⟨by kernel_rfl, by kernel_rfl, by kernel_rfl, by kernel_rfl, rfl⟩ ?_
      refine M.out.next (V.d nn :: ys) loc (pc + 1) ?_ rfl ?_ M.out.fits.2.1 (by rw [HZ.out]; rfl) R9.out (M.out.lnext (by omega) (lo := ⟨0, V.d nn :: ys, loc, d.flat⟩) (by rw [HL.out, if_pos HER.out.symm, ← HNN.out]) rfl) M.out.n0 rfl
      · rw [h2, List.map_cons, hys]; rfl
      · intro v hv
        rcases List.mem_cons.1 hv with rfl | hv
        · exact hn
        · exact hfs v hv
  · go_wp2_with fail
    refine (need_no 12 _).mono ?_
    rintro e w3 ⟨rfl, rfl⟩
    go_wp2
    exact O.out.pan _ _ 12 rfl (by omega) (by omega) ⟨L, K, _, n, d, s, HR.out, rfl, rfl, M.out.trap (M.out.ltrap (by omega) (lo := ⟨12, ys, loc, d.flat⟩) (by rw [HL.out, if_neg (by rw [← HER.out]; decide), ← HER.out]) (show (12 : Int) ≠ 0 by decide)) M.out.n0 rfl⟩
theorem sw_load21 (m : Mid G H R T w L K x n d s r rs fn v c pc ρ ops loc low i bf gf) (hop : i.op = 21) (mc : MachX) (o : Outs R fuel h (Nx G R T x) D (Tp G R x) Q) (u : Nat → Value) :
    (codeR (codeR (codeR (codeR (roundOf Tryz.f65.body))))).wp Tryz.prog Q { tmps := List.toArray (.pointer (some ⟨R.bx, 0, none⟩) :: .int .i64 fuel :: h :: u 3 :: u 4 :: u 5 :: .pointer (some ⟨gf, rs.length * 5, none⟩) :: .pointer (some ⟨bf, 0, none⟩) :: u 8 :: u 9 :: u 10 :: u 11 :: u 12 :: u 13 :: u 14 :: u 15 :: u 16 :: u 17 :: u 18 :: u 19 :: u 20 :: u 21 :: u 22 :: u 23 :: u 24 :: u 25 :: u 26 :: u 27 :: u 28 :: u 29 :: u 30 :: u 31 :: u 32 :: u 33 :: u 34 :: u 35 :: u 36 :: u 37 :: u 38 :: u 39 :: u 40 :: u 41 :: u 42 :: u 43 :: u 44 :: u 45 :: u 46 :: u 47 :: u 48 :: u 49 :: u 50 :: u 51 :: u 52 :: u 53 :: u 54 :: u 55 :: u 56 :: u 57 :: u 58 :: u 59 :: u 60 :: u 61 :: u 62 :: u 63 :: u 64 :: u 65 :: u 66 :: u 67 :: u 68 :: u 69 :: u 70 :: u 71 :: u 72 :: u 73 :: u 74 :: u 75 :: u 76 :: u 77 :: u 78 :: u 79 :: u 80 :: u 81 :: u 82 :: u 83 :: u 84 :: u 85 :: u 86 :: u 87 :: u 88 :: u 89 :: u 90 :: u 91 :: u 92 :: u 93 :: u 94 :: u 95 :: u 96 :: u 97 :: u 98 :: u 99 :: u 100 :: u 101 :: u 102 :: u 103 :: u 104 :: u 105 :: u 106 :: u 107 :: u 108 :: u 109 :: u 110 :: u 111 :: u 112 :: u 113 :: u 114 :: u 115 :: u 116 :: u 117 :: u 118 :: u 119 :: u 120 :: u 121 :: u 122 :: u 123 :: u 124 :: u 125 :: u 126 :: u 127 :: u 128 :: u 129 :: u 130 :: u 131 :: u 132 :: u 133 :: u 134 :: u 135 :: u 136 :: u 137 :: u 138 :: u 139 :: u 140 :: u 141 :: u 142 :: u 143 :: u 144 :: u 145 :: u 146 :: u 147 :: u 148 :: u 149 :: u 150 :: u 151 :: u 152 :: u 153 :: u 154 :: u 155 :: u 156 :: u 157 :: u 158 :: u 159 :: u 160 :: u 161 :: u 162 :: u 163 :: u 164 :: u 165 :: u 166 :: u 167 :: u 168 :: u 169 :: u 170 :: u 171 :: u 172 :: u 173 :: u 174 :: u 175 :: u 176 :: u 177 :: u 178 :: u 179 :: u 180 :: u 181 :: u 182 :: u 183 :: u 184 :: u 185 :: u 186 :: u 187 :: u 188 :: u 189 :: u 190 :: u 191 :: u 192 :: u 193 :: u 194 :: u 195 :: u 196 :: u 197 :: u 198 :: u 199 :: u 200 :: u 201 :: u 202 :: u 203 :: u 204 :: u 205 :: u 206 :: u 207 :: u 208 :: u 209 :: u 210 :: u 211 :: u 212 :: u 213 :: u 214 :: u 215 :: u 216 :: u 217 :: u 218 :: u 219 :: u 220 :: u 221 :: u 222 :: u 223 :: u 224 :: u 225 :: u 226 :: u 227 :: u 228 :: u 229 :: u 230 :: u 231 :: u 232 :: u 233 :: u 234 :: u 235 :: u 236 :: u 237 :: u 238 :: u 239 :: u 240 :: u 241 :: u 242 :: u 243 :: u 244 :: u 245 :: u 246 :: u 247 :: u 248 :: u 249 :: u 250 :: u 251 :: u 252 :: u 253 :: u 254 :: u 255 :: u 256 :: u 257 :: u 258 :: u 259 :: u 260 :: u 261 :: u 262 :: u 263 :: u 264 :: u 265 :: u 266 :: u 267 :: u 268 :: u 269 :: u 270 :: u 271 :: u 272 :: u 273 :: u 274 :: u 275 :: u 276 :: u 277 :: u 278 :: u 279 :: u 280 :: u 281 :: u 282 :: u 283 :: u 284 :: u 285 :: u 286 :: u 287 :: u 288 :: u 289 :: u 290 :: u 291 :: u 292 :: u 293 :: u 294 :: u 295 :: u 296 :: u 297 :: u 298 :: u 299 :: u 300 :: u 301 :: u 302 :: u 303 :: u 304 :: u 305 :: u 306 :: u 307 :: u 308 :: u 309 :: u 310 :: u 311 :: u 312 :: u 313 :: u 314 :: u 315 :: u 316 :: u 317 :: u 318 :: u 319 :: u 320 :: u 321 :: u 322 :: u 323 :: u 324 :: u 325 :: u 326 :: u 327 :: u 328 :: u 329 :: u 330 :: u 331 :: u 332 :: u 333 :: u 334 :: u 335 :: u 336 :: u 337 :: u 338 :: u 339 :: u 340 :: u 341 :: u 342 :: u 343 :: u 344 :: u 345 :: u 346 :: u 347 :: u 348 :: u 349 :: u 350 :: u 351 :: u 352 :: u 353 :: u 354 :: u 355 :: u 356 :: u 357 :: u 358 :: u 359 :: u 360 :: u 361 :: u 362 :: u 363 :: u 364 :: u 365 :: u 366 :: u 367 :: u 368 :: u 369 :: u 370 :: u 371 :: u 372 :: u 373 :: u 374 :: u 375 :: u 376 :: u 377 :: u 378 :: u 379 :: u 380 :: u 381 :: u 382 :: u 383 :: u 384 :: u 385 :: u 386 :: u 387 :: u 388 :: u 389 :: u 390 :: u 391 :: u 392 :: u 393 :: u 394 :: u 395 :: u 396 :: u 397 :: u 398 :: u 399 :: u 400 :: u 401 :: u 402 :: u 403 :: u 404 :: u 405 :: u 406 :: u 407 :: u 408 :: u 409 :: u 410 :: u 411 :: u 412 :: u 413 :: u 414 :: u 415 :: u 416 :: u 417 :: u 418 :: u 419 :: u 420 :: u 421 :: u 422 :: u 423 :: u 424 :: u 425 :: u 426 :: u 427 :: u 428 :: u 429 :: u 430 :: u 431 :: u 432 :: u 433 :: u 434 :: u 435 :: u 436 :: u 437 :: u 438 :: u 439 :: u 440 :: u 441 :: u 442 :: u 443 :: u 444 :: u 445 :: u 446 :: u 447 :: u 448 :: u 449 :: u 450 :: u 451 :: []), defers := [] } w := by
  have b0 := m.box.cell 0
  have b1 := m.box.cell 1
  have b2 := m.box.cell 2
  have b3 := m.box.cell 3
  simp [hop] at b0 b1 b2 b3
  have c2 := m.run.inst.here.cell 2
  simp at c2
  obtain ⟨l1, l2, l3, l4, l5⟩ := m.lens
  obtain ⟨k1, k2, k3⟩ := m.lts
  have hfl : r.floor = loc.length + low.length := m.lay.floor
  have hxl : x.st.length ≤ ops.length + (loc.length + low.length) ∧ ops.length + (loc.length + low.length) ≤ x.st.length := by rw [m.lay.hst]; simp
  obtain ⟨ρ', e1, h2⟩ := (m.ins.plain (by omega)).2
  rw [hop] at e1 h2
  obtain ⟨k, ys, e2, hys⟩ := pop_w (by rw [m.lay.hops]; rw [e1]; rfl)
  have hst : x.st = V.w k :: (ys ++ (loc ++ low)) := by rw [m.lay.hst, e2]; rfl
  have hkf : (V.w k).Fits := m.fits.1 _ (by rw [e2]; simp)
  have hfs : ∀ v ∈ ys, v.Fits := fun v hv => m.fits.1 v (by rw [e2]; simp [hv])
  have HL : Hid (lstep i ops loc d.flat d.max = if (loadP d.flat 21 k i.imm).2 = 0 then ⟨0, V.w (wrap32 (loadP d.flat 21 k i.imm).1) :: ys, loc, d.flat⟩ else ⟨(loadP d.flat 21 k i.imm).2, ys, loc, d.flat⟩) := by
    show _ = _
    rw [e2]
    by_cases hz : (loadP d.flat 21 k i.imm).2 = 0 <;> simp [lstep, hop, V.num, hz]
  have hyl : ys.length + 1 = ops.length := by rw [e2]; rfl
  clear e1 e2 c2
  simp only [roundOf, codeR, codeIn, Tryz.f65, Option.getD_some]
  have M : Hid (Mid G H R T w L K x n d s r rs fn v c pc ρ ops loc low i bf gf) := m
  have O : Hid (Outs R fuel h _ _ _ Q) := o
  clear m o
  go_wp2_with fail
  refine (M.out.pop32c (M.out.runSt hst) M.out.box hkf (by simp; omega) (by simp; omega)).mono ?_
  rintro e w1 ⟨rfl, hr1, hb1⟩
  obtain ⟨Z, hZ⟩ : ∃ Z, Z = ys ++ (loc ++ low) := ⟨_, rfl⟩
  rw [← hZ] at hr1
  have HZ : Hid (Z = ys ++ (loc ++ low)) := hZ
  have l1' : Z.length ≤ 124 := by rw [hZ]; simp; omega
  clear hZ
  have c1 := hr1.inst.here.cell 1
  simp at c1
  have b0 := hb1.cell 0
  have b1 := hb1.cell 1
  simp [hop] at b0 b1
  have HR1 : Hid (RunW _ _ _ _ _ _ _ _) := hr1
  have HB1 : Hid (Has w1 bf _ _) := hb1
  clear hr1 hb1
  have hbf0 : w1.drew.cell? ⟨bf, 0, none⟩ = _ := b0
  have hbf1 : w1.drew.cell? ⟨bf, 1, none⟩ = _ := b1
  go_wp2
  refine wp_region_two [0, 1, 2, 3, 4, 5, 6, 7, 8] 9 [10, 11, 12, 13, 14] 15 (fun y => y.cell? ⟨R.bx, 1, none⟩ = some (.pointer (some ⟨R.bk, 0, none⟩)) ∧ y.cell? ⟨bf, 0, none⟩ = some (.int .i64 21) ∧ y.cell? ⟨bf, 1, none⟩ = some (.int .i64 i.imm)) (by kernel_rfl) (by kernel_rfl) O.out.pq ⟨c1, b0, b1⟩ [_, _, _, _, _, _, _, _, _] rfl _ rfl [_, _, _, _, _] rfl ?_
  refine wpQ_move rfl (.tmp 0) (.pointer (some ⟨R.bx, 0, none⟩)) rfl (by kernel_rfl) ?_
  simp only [Act.put, List.setIfInBounds_toArray, List.set_cons_succ, List.set_cons_zero]
  refine wpQ_nilCheck rfl (.tmp 375) ⟨R.bx, 0, none⟩ rfl (by kernel_rfl) ?_
  simp only [Act.put, List.setIfInBounds_toArray, List.set_cons_succ, List.set_cons_zero]
  refine wpQ_fieldAddr rfl (.tmp 376) 1 ⟨R.bx, 0, none⟩ ⟨R.bx, 1, none⟩ rfl (by kernel_rfl) (fun w => by kernel_rfl) ?_
  simp only [Act.put, List.setIfInBounds_toArray, List.set_cons_succ, List.set_cons_zero]
  refine wpQ_load1 rfl (.tmp 377) ⟨R.bx, 1, none⟩ (.pointer (some ⟨R.bk, 0, none⟩)) rfl (by kernel_rfl) (by kernel_rfl) (fun _ h => h.1) ?_
  simp only [Act.put, List.setIfInBounds_toArray, List.set_cons_succ, List.set_cons_zero]
  refine wpQ_fieldAddr rfl (.tmp 7) 0 ⟨bf, 0, none⟩ ⟨bf, 0, none⟩ rfl (by kernel_rfl) (fun w => by kernel_rfl) ?_
  simp only [Act.put, List.setIfInBounds_toArray, List.set_cons_succ, List.set_cons_zero]
  refine wpQ_load1 rfl (.tmp 379) ⟨bf, 0, none⟩ (.int .i64 21) rfl (by kernel_rfl) (by kernel_rfl) (fun _ h => h.2.1) ?_
  simp only [Act.put, List.setIfInBounds_toArray, List.set_cons_succ, List.set_cons_zero]
  refine wpQ_move rfl (.tmp 18) (.int .i64 k) rfl (by kernel_rfl) ?_
  simp only [Act.put, List.setIfInBounds_toArray, List.set_cons_succ, List.set_cons_zero]
  refine wpQ_fieldAddr rfl (.tmp 7) 1 ⟨bf, 0, none⟩ ⟨bf, 1, none⟩ rfl (by kernel_rfl) (fun w => by kernel_rfl) ?_
  simp only [Act.put, List.setIfInBounds_toArray, List.set_cons_succ, List.set_cons_zero]
  refine wpQ_load1 rfl (.tmp 382) ⟨bf, 1, none⟩ (.int .i64 i.imm) rfl (by kernel_rfl) (by kernel_rfl) (fun _ h => h.2.2) ?_
  simp only [Act.put, List.setIfInBounds_toArray, List.set_cons_succ, List.set_cons_zero]
  refine wpQuiet_nil ?_
  go_wp2_with fail
  refine (mc.load 21 k i.imm HR1.out.drew.mach (by omega) (by omega)).mono ?_
  rintro e w2 ⟨rfl, hf2⟩
  obtain ⟨nn, HNN⟩ : ∃ nn, Hid (nn = (loadP d.flat 21 k i.imm).1) := ⟨_, rfl⟩
  obtain ⟨er, HER⟩ : ∃ er, Hid (er = (loadP d.flat 21 k i.imm).2) := ⟨_, rfl⟩
  rw [← HNN.out, ← HER.out]
  have her : er = 0 ∨ er = 12 := by rw [HER.out]; exact loadP_err _ _ _ _
  have hn : I64 nn := by rw [HNN.out]; exact loadP_i64 _ _ _ _ (by omega) (by omega)
  have hr2 := HR1.out.drew.fresh hf2
  have hb2 : Has w2 bf _ _ := HB1.out.drew.fr hf2 (fun h => h)
  have c2' := hr2.inst.here.cell 2
  simp only [List.getElem?_toArray, List.getElem?_cons_succ, List.getElem?_cons_zero] at c2'
  have b0 := hb2.cell 0
  simp [hop] at b0
  have k1 := hr2.inst.here.lt
  have HR : Hid (RunW _ _ _ _ _ _ _ _) := hr2
  have HB : Hid (Has w2 bf _ _) := hb2
  have HOWN : Hid (w2.ownsRow _ _ _ _ _ _) := hr2.inst.st
  have HLN : Hid (Z.length ≤ 1000) := by show _ ≤ _; omega
  have hc1 := hr2.inst.here.cell 1
  have hb1' := hb2.cell 1
  simp at hc1 hb1'
  clear hr2 hb2 hf2
  go_wp2
  refine ⟨⟨hc1, b0, hb1'⟩, ?_⟩
  refine wpQ_move rfl (.tmp 384) (.tuple #[.int .i64 nn, .int .i64 er]) rfl (by kernel_rfl) ?_
  simp only [Act.put, List.setIfInBounds_toArray, List.set_cons_succ, List.set_cons_zero]
  refine wpQ_pure rfl (.int .i64 nn) (fun w => by kernel_rfl) ?_
  simp only [Act.put, List.setIfInBounds_toArray, List.set_cons_succ, List.set_cons_zero]
  refine wpQ_pure rfl (.int .i64 er) (fun w => by kernel_rfl) ?_
  simp only [Act.put, List.setIfInBounds_toArray, List.set_cons_succ, List.set_cons_zero]
  refine wpQ_pure rfl (.int .i64 nn) (fun w => by kernel_rfl) ?_
  simp only [Act.put, List.setIfInBounds_toArray, List.set_cons_succ, List.set_cons_zero]
  refine wpQ_pure rfl (.int .i64 er) (fun w => by kernel_rfl) ?_
  simp only [Act.put, List.setIfInBounds_toArray, List.set_cons_succ, List.set_cons_zero]
  refine wpQuiet_nil ?_
  show wpList _ _ _ [] _ _
  clear hc1 hb1'
  rcases her with rfl | rfl
  · go_wp2_with fail
    refine (need_ok _ _).mono ?_
    rintro e w3 ⟨rfl, rfl⟩
    go_wp2_with (at_builtin; refine wpList_app rowVal _ rfl (.tmp 409) (.tmp 413) rfl _ _ _ rfl (owns_alloc HOWN.out _) _ [.iface 208 (.int .i32 (wrap32 nn))] rfl (Has.new _ _ _) rfl ?one ?bd ?go)
    case one => simp [Value.oneCell']
    case bd => have := HLN.out; omega
    case go =>
      intro gg cap w5 q1 q2 q3 q4
      obtain ⟨r1, r2, r3, r4, r5, r6, r7, r8, L', r9⟩ := M.out.pushL HR.out M.out.gf HB.out (V.w (wrap32 nn)) (by first | exact q1 | (rw [List.map_reverse]; exact q1)) q2 q3 q4
      have d2 := r1 2
      have e2 := r2 2
      have e3 := r5 (rs.length * 5 + 1)
      rw [c2'] at d2
      have R9 : Hid (RunW _ _ _ _ _ _ _ _) := r9
      clear q1 q2 q3 q4 r1 r2 r5 r8 r9
      go_wp2
      refine O.out.nrm _ _ ⟨by kernel_rfl, by kernel_rfl, by kernel_rfl, by kernel_rfl, rfl⟩ ?_
      refine M.out.next (V.w (wrap32 nn) :: ys) loc (pc + 1) ?_ rfl ?_ M.out.fits.2.1 (by rw [HZ.out]; rfl) R9.out (M.out.lnext (by omega) (lo := ⟨0, V.w (wrap32 nn) :: ys, loc, d.flat⟩) (by rw [HL.out, if_pos HER.out.symm, ← HNN.out]) rfl) M.out.n0 rfl
      · rw [h2, List.map_cons, hys]; rfl
      · intro v hv
        rcases List.mem_cons.1 hv with rfl | hv
        · unfold V.Fits wrap32; omega
        · exact hfs v hv
  · go_wp2_with fail
    refine (need_no 12 _).mono ?_
    rintro e w3 ⟨rfl, rfl⟩
    go_wp2
    exact O.out.pan _ _ 12 rfl (by omega) (by omega) ⟨L, K, _, n, d, s, HR.out, rfl, rfl, M.out.trap (M.out.ltrap (by omega) (lo := ⟨12, ys, loc, d.flat⟩) (by rw [HL.out, if_neg (by rw [← HER.out]; decide), ← HER.out]) (show (12 : Int) ≠ 0 by decide)) M.out.n0 rfl⟩
end
end Go.Proofs.Qxb6500575aGreatDoor
