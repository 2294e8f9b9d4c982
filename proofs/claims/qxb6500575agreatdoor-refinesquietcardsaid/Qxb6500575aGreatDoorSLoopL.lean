/-
  THE ROUNDS of run.loop: br_table.
-/
import Derived.Test.Qxb6500575aGreatDoorSLoop1
import Derived.Test.Qxb6500575aGreatDoorXAt
import Derived.Test.Qxb6500575aGreatDoorKOps
import Derived.Test.Qxb6500575aGreatDoorXBin0
import Derived.Test.Qxb6500575aGreatDoorSAdd
namespace Go.Proofs.Qxb6500575aGreatDoor
open Go Go.RowKit
set_option linter.unusedVariables false
set_option linter.unusedSimpArgs false

section
variable {σ τ : Type} {G : Gh σ τ} {H : HF τ} {R : RP σ} {T : Nat → Typing} {w : World} {L : InL} {K : KL} {x : InD} {n : Int} {d : KD} {s : σ} {r : Frm} {rs : List Frm} {fn : Nat} {v : FunD} {c : List Flat} {pc : Nat} {ρ : List UInt8} {ops loc low : List V} {i : Flat} {bf gf : Nat} {fuel : Int} {h : Value} {D : World → Prop} {Q : Exit → Act → World → Prop}
set_option maxRecDepth 100000
set_option maxHeartbeats 2000000
theorem sw_brtable (m : Mid G H R T w L K x n d s r rs fn v c pc ρ ops loc low i bf gf) (hop : i.op = 8) (o : Outs R fuel h (Nx G R T x) D (Tp G R x) Q) (u : Nat → Value) :
    (codeR (codeR (codeR (codeR (roundOf Tryz.f65.body))))).wp Tryz.prog Q { tmps := List.toArray (.pointer (some ⟨R.bx, 0, none⟩) :: .int .i64 fuel :: h :: u 3 :: u 4 :: u 5 :: .pointer (some ⟨gf, rs.length * 5, none⟩) :: .pointer (some ⟨bf, 0, none⟩) :: u 8 :: u 9 :: u 10 :: u 11 :: u 12 :: u 13 :: u 14 :: u 15 :: u 16 :: u 17 :: u 18 :: u 19 :: u 20 :: u 21 :: u 22 :: u 23 :: u 24 :: u 25 :: u 26 :: u 27 :: u 28 :: u 29 :: u 30 :: u 31 :: u 32 :: u 33 :: u 34 :: u 35 :: u 36 :: u 37 :: u 38 :: u 39 :: u 40 :: u 41 :: u 42 :: u 43 :: u 44 :: u 45 :: u 46 :: u 47 :: u 48 :: u 49 :: u 50 :: u 51 :: u 52 :: u 53 :: u 54 :: u 55 :: u 56 :: u 57 :: u 58 :: u 59 :: u 60 :: u 61 :: u 62 :: u 63 :: u 64 :: u 65 :: u 66 :: u 67 :: u 68 :: u 69 :: u 70 :: u 71 :: u 72 :: u 73 :: u 74 :: u 75 :: u 76 :: u 77 :: u 78 :: u 79 :: u 80 :: u 81 :: u 82 :: u 83 :: u 84 :: u 85 :: u 86 :: u 87 :: u 88 :: u 89 :: u 90 :: u 91 :: u 92 :: u 93 :: u 94 :: u 95 :: u 96 :: u 97 :: u 98 :: u 99 :: u 100 :: u 101 :: u 102 :: u 103 :: u 104 :: u 105 :: u 106 :: u 107 :: u 108 :: u 109 :: u 110 :: u 111 :: u 112 :: u 113 :: u 114 :: u 115 :: u 116 :: u 117 :: u 118 :: u 119 :: u 120 :: u 121 :: u 122 :: u 123 :: u 124 :: u 125 :: u 126 :: u 127 :: u 128 :: u 129 :: u 130 :: u 131 :: u 132 :: u 133 :: u 134 :: u 135 :: u 136 :: u 137 :: u 138 :: u 139 :: u 140 :: u 141 :: u 142 :: u 143 :: u 144 :: u 145 :: u 146 :: u 147 :: u 148 :: u 149 :: u 150 :: u 151 :: u 152 :: u 153 :: u 154 :: u 155 :: u 156 :: u 157 :: u 158 :: u 159 :: u 160 :: u 161 :: u 162 :: u 163 :: u 164 :: u 165 :: u 166 :: u 167 :: u 168 :: u 169 :: u 170 :: u 171 :: u 172 :: u 173 :: u 174 :: u 175 :: u 176 :: u 177 :: u 178 :: u 179 :: u 180 :: u 181 :: u 182 :: u 183 :: u 184 :: u 185 :: u 186 :: u 187 :: u 188 :: u 189 :: u 190 :: u 191 :: u 192 :: u 193 :: u 194 :: u 195 :: u 196 :: u 197 :: u 198 :: u 199 :: u 200 :: u 201 :: u 202 :: u 203 :: u 204 :: u 205 :: u 206 :: u 207 :: u 208 :: u 209 :: u 210 :: u 211 :: u 212 :: u 213 :: u 214 :: u 215 :: u 216 :: u 217 :: u 218 :: u 219 :: u 220 :: u 221 :: u 222 :: u 223 :: u 224 :: u 225 :: u 226 :: u 227 :: u 228 :: u 229 :: u 230 :: u 231 :: u 232 :: u 233 :: u 234 :: u 235 :: u 236 :: u 237 :: u 238 :: u 239 :: u 240 :: u 241 :: u 242 :: u 243 :: u 244 :: u 245 :: u 246 :: u 247 :: u 248 :: u 249 :: u 250 :: u 251 :: u 252 :: u 253 :: u 254 :: u 255 :: u 256 :: u 257 :: u 258 :: u 259 :: u 260 :: u 261 :: u 262 :: u 263 :: u 264 :: u 265 :: u 266 :: u 267 :: u 268 :: u 269 :: u 270 :: u 271 :: u 272 :: u 273 :: u 274 :: u 275 :: u 276 :: u 277 :: u 278 :: u 279 :: u 280 :: u 281 :: u 282 :: u 283 :: u 284 :: u 285 :: u 286 :: u 287 :: u 288 :: u 289 :: u 290 :: u 291 :: u 292 :: u 293 :: u 294 :: u 295 :: u 296 :: u 297 :: u 298 :: u 299 :: u 300 :: u 301 :: u 302 :: u 303 :: u 304 :: u 305 :: u 306 :: u 307 :: u 308 :: u 309 :: u 310 :: u 311 :: u 312 :: u 313 :: u 314 :: u 315 :: u 316 :: u 317 :: u 318 :: u 319 :: u 320 :: u 321 :: u 322 :: u 323 :: u 324 :: u 325 :: u 326 :: u 327 :: u 328 :: u 329 :: u 330 :: u 331 :: u 332 :: u 333 :: u 334 :: u 335 :: u 336 :: u 337 :: u 338 :: u 339 :: u 340 :: u 341 :: u 342 :: u 343 :: u 344 :: u 345 :: u 346 :: u 347 :: u 348 :: u 349 :: u 350 :: u 351 :: u 352 :: u 353 :: u 354 :: u 355 :: u 356 :: u 357 :: u 358 :: u 359 :: u 360 :: u 361 :: u 362 :: u 363 :: u 364 :: u 365 :: u 366 :: u 367 :: u 368 :: u 369 :: u 370 :: u 371 :: u 372 :: u 373 :: u 374 :: u 375 :: u 376 :: u 377 :: u 378 :: u 379 :: u 380 :: u 381 :: u 382 :: u 383 :: u 384 :: u 385 :: u 386 :: u 387 :: u 388 :: u 389 :: u 390 :: u 391 :: u 392 :: u 393 :: u 394 :: u 395 :: u 396 :: u 397 :: u 398 :: u 399 :: u 400 :: u 401 :: u 402 :: u 403 :: u 404 :: u 405 :: u 406 :: u 407 :: u 408 :: u 409 :: u 410 :: u 411 :: u 412 :: u 413 :: u 414 :: u 415 :: u 416 :: u 417 :: u 418 :: u 419 :: u 420 :: u 421 :: u 422 :: u 423 :: u 424 :: u 425 :: u 426 :: u 427 :: u 428 :: u 429 :: u 430 :: u 431 :: u 432 :: u 433 :: u 434 :: u 435 :: u 436 :: u 437 :: u 438 :: u 439 :: u 440 :: u 441 :: u 442 :: u 443 :: u 444 :: u 445 :: u 446 :: u 447 :: u 448 :: u 449 :: u 450 :: u 451 :: []), defers := [] } w := by
  have b0 := m.box.cell 0
  have b1 := m.box.cell 1
  have b2 := m.box.cell 2
  have b3 := m.box.cell 3
  simp [hop] at b0 b1 b2 b3
  have c2 := m.run.inst.here.cell 2
  simp at c2
  obtain ⟨l1, l2, l3, l4, l5⟩ := m.lens
  obtain ⟨k1, k2, k3⟩ := m.lts
  have hfl : r.floor = loc.length + low.length := m.lay.floor
  have hxl : x.st.length ≤ ops.length + (loc.length + low.length) ∧ ops.length + (loc.length + low.length) ≤ x.st.length := by rw [m.lay.hst]; simp
  obtain ⟨τ', e1, hi0, htab⟩ := m.ins.table hop
  obtain ⟨k, ys, e2, hys⟩ := pop_w (by rw [m.lay.hops]; exact e1)
  have hst : x.st = V.w k :: (ys ++ (loc ++ low)) := by rw [m.lay.hst, e2]; rfl
  have hkf : (V.w k).Fits := m.fits.1 _ (by rw [e2]; simp)
  have hfs : ∀ v ∈ ys, v.Fits := fun v hv => m.fits.1 v (by rw [e2]; simp [hv])
  have hyl : ys.length + 1 = ops.length := by rw [e2]; rfl
  obtain ⟨J, hJ⟩ : ∃ J : Nat, i.imm = J := ⟨i.imm.toNat, by omega⟩
  have HGO : Hid (∀ (mm : Nat) (ee : Flat), min (k % 4294967296) i.imm = mm → c[pc + 1 + mm]? = some ee → G.o = ⟨0, fjump ⟨fn, pc, ops, loc⟩ ⟨6, ee.imm, ee.keep, ee.cut⟩ ys :: dec low rs, [], d.flat, G.sem s, 1⟩) := by
    intro mm ee h1 h2
    rw [m.go, e2]
    simp only [fexec, hop]
    simp [show (V.w k).num = k from rfl, h1, h2, fjump]
  clear e1 e2
  simp only [roundOf, codeR, codeIn, Tryz.f65, Option.getD_some]
  have M : Hid (Mid G H R T w L K x n d s r rs fn v c pc ρ ops loc low i bf gf) := m
  have O : Hid (Outs R fuel h _ _ _ Q) := o
  clear m o
  go_wp2_with fail
  refine (M.out.pop32c (M.out.runSt hst) M.out.box hkf (by simp; omega) (by simp; omega)).mono ?_
  rintro e w1 ⟨rfl, hr1, hb1⟩
  have b0 := hb1.cell 0
  have b1 := hb1.cell 1
  simp [hop, hJ] at b0 b1
  have HR1 : Hid (RunW _ _ _ _ _ _ _ _) := hr1
  have HB1 : Hid (Has w1 bf _ _) := hb1
  clear hr1 hb1
  have hq := and32 k
  obtain ⟨q, hqe⟩ : ∃ q, q = bits .and .i64 k 4294967295 := ⟨_, rfl⟩
  rw [← hqe] at hq
  have hqe' : bits .and .i64 k 4294967295 = q := hqe.symm
  clear hqe
  rw [hJ] at htab
  rcases Int.lt_trichotomy q (J : Int) with hqJ | hqJ | hqJ
  · obtain ⟨mm, rfl⟩ : ∃ mm : Nat, q = mm := ⟨q.toNat, by omega⟩
    have hmn : min (mm : Int) (J : Int) = mm := by omega
    go_wp2
    obtain ⟨ee, hec, heo, heT⟩ := htab mm (by omega)
    have HX : Hid (G.o = _) := HGO.out mm ee (by rw [← andiU, hqe', hJ]; omega) hec
    have hjk : JumpOk (fun _ imm ρ => 0 ≤ imm ∧ T fn imm.toNat = some ρ) (pc + 1 + mm) ee (ys.map V.ty) := by
      rw [hys]
      exact ((M.out.lay.fin M.out.pt).1.ok _ _ _ hec heT).br heo
    have hplt : pc + 1 + mm < c.length := (List.getElem?_eq_some_iff.1 hec).1
    have hc144 := (M.out.lay.fin M.out.pt).2
    have CELLS : ∀ {y : World} {m : Int}, RunW R y L K { x with st := ys ++ (loc ++ low) } m d s → y.cell? ⟨R.bx, 0, none⟩ = some (.pointer (some ⟨R.bp, 0, none⟩)) ∧ y.cell? ⟨gf, rs.length * 5, none⟩ = some (.int .i64 fn) ∧ y.cell? ⟨gf, rs.length * 5 + 1, none⟩ = some (.int .i64 pc) := by
      intro y m hy
      have c0 := hy.inst.here.cell 0
      simp at c0
      obtain ⟨g2, e1, e2, _⟩ := hy.inst.top (r := r) (rs := rs) M.out.fr
      rw [M.out.gf] at e1
      simp at e1
      subst e1
      have a0 := e2 0 (by omega)
      have a1 := e2 1 (by omega)
      simp [frmCells, M.out.lay.f, M.out.lay.hpc] at a0 a1
      exact ⟨c0, a0, a1⟩
    have HC : Hid (∀ {y : World} {m : Int}, RunW R y L K { x with st := ys ++ (loc ++ low) } m d s → _) := @CELLS
    have AT : Hid (∀ {y : World} {m : Int}, RunW R y L K { x with st := ys ++ (loc ++ low) } m d s → Calls Tryz.prog 95 #[.pointer (some ⟨R.bp, 0, none⟩), .int .i64 fn, .int .i64 ((pc : Int) + 1 + mm)] y (fun e w' => e = .returned (.agg #[.int .i64 6, .int .i64 ee.imm, .int .i64 ee.keep, .int .i64 ee.cut]) ∧ RunW R w' L K { x with st := ys ++ (loc ++ low) } (wrap64 (m + 1)) d s ∧ Fr (fun k => k = R.bp) y w')) := by
      intro y m hy
      have := xat_any _ _ _ _ fn (pc + 1 + mm) y hy.prog (by have := M.out.pt.clen; have := M.out.pt.flen; simp only; omega) M.out.lay.hc hec (by omega)
      have ecast : (((pc + 1 + mm : Nat)) : Int) = (pc : Int) + 1 + mm := by omega
      rw [ecast] at this
      refine this.mono ?_
      rintro e w' ⟨h1, h2, h3⟩
      refine ⟨by rw [h1, Flat.val, heo], hy.fetch h2 h3, h3⟩
    clear CELLS
    refine wp_region_pair 15 (fun y => y.cell? ⟨R.bx, 0, none⟩ = some (.pointer (some ⟨R.bp, 0, none⟩)) ∧ y.cell? ⟨gf, rs.length * 5, none⟩ = some (.int .i64 fn) ∧ y.cell? ⟨gf, rs.length * 5 + 1, none⟩ = some (.int .i64 pc)) (by kernel_rfl) (by kernel_rfl) O.out.pq (HC.out HR1.out.drew) _ _ _ rfl ?_
    simp only [List.take_succ_cons, List.take_zero]
    refine wpQ_move rfl (.tmp 0) (.pointer (some ⟨R.bx, 0, none⟩)) rfl (by kernel_rfl) ?_
    simp only [Act.put, List.setIfInBounds_toArray, List.set_cons_succ, List.set_cons_zero]
    refine wpQ_nilCheck rfl (.tmp 145) ⟨R.bx, 0, none⟩ rfl (by kernel_rfl) ?_
    simp only [Act.put, List.setIfInBounds_toArray, List.set_cons_succ, List.set_cons_zero]
    refine wpQ_fieldAddr rfl (.tmp 146) 0 ⟨R.bx, 0, none⟩ ⟨R.bx, 0, none⟩ rfl (by kernel_rfl) (fun w => by kernel_rfl) ?_
    simp only [Act.put, List.setIfInBounds_toArray, List.set_cons_succ, List.set_cons_zero]
    refine wpQ_load1 rfl (.tmp 147) ⟨R.bx, 0, none⟩ (.pointer (some ⟨R.bp, 0, none⟩)) rfl (by kernel_rfl) (by kernel_rfl) (fun _ h => h.1) ?_
    simp only [Act.put, List.setIfInBounds_toArray, List.set_cons_succ, List.set_cons_zero]
    refine wpQ_move rfl (.tmp 6) (.pointer (some ⟨gf, rs.length * 5, none⟩)) rfl (by kernel_rfl) ?_
    simp only [Act.put, List.setIfInBounds_toArray, List.set_cons_succ, List.set_cons_zero]
    refine wpQ_nilCheck rfl (.tmp 149) ⟨gf, rs.length * 5, none⟩ rfl (by kernel_rfl) ?_
    simp only [Act.put, List.setIfInBounds_toArray, List.set_cons_succ, List.set_cons_zero]
    refine wpQ_fieldAddr rfl (.tmp 150) 0 ⟨gf, rs.length * 5, none⟩ ⟨gf, rs.length * 5, none⟩ rfl (by kernel_rfl) (fun w => by kernel_rfl) ?_
    simp only [Act.put, List.setIfInBounds_toArray, List.set_cons_succ, List.set_cons_zero]
    refine wpQ_load1 rfl (.tmp 151) ⟨gf, rs.length * 5, none⟩ (.int .i64 fn) rfl (by kernel_rfl) (by kernel_rfl) (fun _ h => h.2.1) ?_
    simp only [Act.put, List.setIfInBounds_toArray, List.set_cons_succ, List.set_cons_zero]
    refine wpQ_move rfl (.tmp 6) (.pointer (some ⟨gf, rs.length * 5, none⟩)) rfl (by kernel_rfl) ?_
    simp only [Act.put, List.setIfInBounds_toArray, List.set_cons_succ, List.set_cons_zero]
    refine wpQ_nilCheck rfl (.tmp 153) ⟨gf, rs.length * 5, none⟩ rfl (by kernel_rfl) ?_
    simp only [Act.put, List.setIfInBounds_toArray, List.set_cons_succ, List.set_cons_zero]
    refine wpQ_fieldAddr rfl (.tmp 154) 1 ⟨gf, rs.length * 5, none⟩ ⟨gf, rs.length * 5 + 1, none⟩ rfl (by kernel_rfl) (fun w => by kernel_rfl) ?_
    simp only [Act.put, List.setIfInBounds_toArray, List.set_cons_succ, List.set_cons_zero]
    refine wpQ_load1 rfl (.tmp 155) ⟨gf, rs.length * 5 + 1, none⟩ (.int .i64 pc) rfl (by kernel_rfl) (by kernel_rfl) (fun _ h => h.2.2) ?_
    simp only [Act.put, List.setIfInBounds_toArray, List.set_cons_succ, List.set_cons_zero]
    refine wpQ_add rfl (.tmp 156) (.const (.int .i64 1)) _ pc 1 rfl (by kernel_rfl) rfl (by omega) (by omega) ?_
    simp only [Act.put, List.setIfInBounds_toArray, List.set_cons_succ, List.set_cons_zero]
    refine wpQ_move rfl (.tmp 8) (.int .i64 mm) rfl (by kernel_rfl) ?_
    simp only [Act.put, List.setIfInBounds_toArray, List.set_cons_succ, List.set_cons_zero]
    refine wpQ_add rfl (.tmp 157) (.tmp 158) _ (pc + 1) mm rfl (by kernel_rfl) (by kernel_rfl) (by omega) (by omega) ?_
    simp only [Act.put, List.setIfInBounds_toArray, List.set_cons_succ, List.set_cons_zero]
    have JC : Hid (∀ {y : World}, RunW R y L K { x with st := ys ++ (loc ++ low) } (wrap64 (n + 1)) d s → Calls _ _ _ _ _) := fun {y} hy => M.out.jumpc (j := ⟨6, ee.imm, ee.keep, ee.cut⟩) hy hfs (by omega) hjk (opsA := ops) (pcA := pc) (vs := []) (dn := 1) HX.out rfl rfl
    refine wpQuiet_nil ⟨?_, ?_⟩
    · go_wp2_with fail
      refine (AT.out HR1.out.drew).mono ?_
      rintro e w2 ⟨rfl, hr2, _⟩
      have HR2 : Hid (RunW _ _ _ _ _ _ _ _) := hr2
      clear hr2
      go_wp2
      refine ⟨HC.out HR2.out, ?_⟩
      go_wp2
      refine ⟨HC.out (HR2.out.alloc _), ?_⟩
      go_wp2_with fail
      refine (need_ok _ _).mono ?_
      rintro e w3 ⟨rfl, rfl⟩
      go_wp2_with fail
      refine (JC.out (HR2.out.alloc _)).mono ?_
      rintro e w3 ⟨rfl, hN⟩
      have HN : Hid (Nx G R T x w3) := hN
      clear hN
      go_wp2
      exact O.out.cont _ _ ⟨by kernel_rfl, by kernel_rfl, by kernel_rfl, by kernel_rfl, rfl⟩ HN.out
    · go_wp2
      refine ⟨HC.out (HR1.out.alloc _), ?_⟩
      go_wp2_with fail
      refine (AT.out (HR1.out.drew.alloc (.cells #[.int .i64 0, .int .i64 0, .int .i64 0, .int .i64 0] 176))).mono ?_
      rintro e w2 ⟨rfl, hr2, hF⟩
      have hbp : R.bp < w1.heap.size := HR1.out.prog.funs.here.lt
      have hb2 : Has w2 w1.heap.size #[.int .i64 0, .int .i64 0, .int .i64 0, .int .i64 0] 176 := (Has.new w1.drew _ _).fr hF (fun e => by simp at e; omega)
      have x0 := hb2.cell 0
      have x1 := hb2.cell 1
      have x2 := hb2.cell 2
      have x3 := hb2.cell 3
      simp at x0 x1 x2 x3
      have y0 := hb2.frozen 0
      have y1 := hb2.frozen 1
      have y2 := hb2.frozen 2
      have y3 := hb2.frozen 3
      have hl2 := hb2.lt
      have hps : ¬ PS R.bp R.LP w1.heap.size := fun hS => by
        obtain ⟨cs, t, hh, _⟩ := HR1.out.prog.typed _ hS
        have := hh.lt
        omega
      have hr3 := hr2.scratch (w' := (((w2.setCell ⟨w1.heap.size, 0, none⟩ (.int .i64 6)).setCell ⟨w1.heap.size, 1, none⟩ (.int .i64 ee.imm)).setCell ⟨w1.heap.size, 2, none⟩ (.int .i64 ee.keep)).setCell ⟨w1.heap.size, 3, none⟩ (.int .i64 ee.cut)) hb2 hps HR1.out.fr.size (Fr.setCell (S := fun k => k = w1.heap.size) (Fr.setCell (S := fun k => k = w1.heap.size) (Fr.setCell (S := fun k => k = w1.heap.size) (Fr.setCell (S := fun k => k = w1.heap.size) (Fr.refl _ _) (p := ⟨w1.heap.size, 0, none⟩) (.inl rfl) _) (p := ⟨w1.heap.size, 1, none⟩) (.inl rfl) _) (p := ⟨w1.heap.size, 2, none⟩) (.inl rfl) _) (p := ⟨w1.heap.size, 3, none⟩) (.inl rfl) _)
      have HR2 : Hid (RunW _ _ _ _ _ _ _ _) := hr2
      have HR3 : Hid (RunW _ _ _ _ _ _ _ _) := hr3
      clear hr2 hr3 hb2 hF
      go_wp2
      refine ⟨HC.out HR2.out, ?_⟩
      go_wp2_with fail
      refine (need_ok _ _).mono ?_
      rintro e w3 ⟨rfl, rfl⟩
      go_wp2_with fail
      refine (JC.out HR3.out).mono ?_
      rintro e w3 ⟨rfl, hN⟩
      have HN : Hid (Nx G R T x w3) := hN
      clear hN
      go_wp2
      exact O.out.cont _ _ ⟨by kernel_rfl, by kernel_rfl, by kernel_rfl, by kernel_rfl, rfl⟩ HN.out
  · subst hqJ
    have hmn : min (J : Int) (J : Int) = J := by omega
    go_wp2
    obtain ⟨ee, hec, heo, heT⟩ := htab J (by omega)
    have HX : Hid (G.o = _) := HGO.out J ee (by rw [← andiU, hqe', hJ]; omega) hec
    have hjk : JumpOk (fun _ imm ρ => 0 ≤ imm ∧ T fn imm.toNat = some ρ) (pc + 1 + J) ee (ys.map V.ty) := by
      rw [hys]
      exact ((M.out.lay.fin M.out.pt).1.ok _ _ _ hec heT).br heo
    have hplt : pc + 1 + J < c.length := (List.getElem?_eq_some_iff.1 hec).1
    have hc144 := (M.out.lay.fin M.out.pt).2
    have CELLS : ∀ {y : World} {m : Int}, RunW R y L K { x with st := ys ++ (loc ++ low) } m d s → y.cell? ⟨R.bx, 0, none⟩ = some (.pointer (some ⟨R.bp, 0, none⟩)) ∧ y.cell? ⟨gf, rs.length * 5, none⟩ = some (.int .i64 fn) ∧ y.cell? ⟨gf, rs.length * 5 + 1, none⟩ = some (.int .i64 pc) := by
      intro y m hy
      have c0 := hy.inst.here.cell 0
      simp at c0
      obtain ⟨g2, e1, e2, _⟩ := hy.inst.top (r := r) (rs := rs) M.out.fr
      rw [M.out.gf] at e1
      simp at e1
      subst e1
      have a0 := e2 0 (by omega)
      have a1 := e2 1 (by omega)
      simp [frmCells, M.out.lay.f, M.out.lay.hpc] at a0 a1
      exact ⟨c0, a0, a1⟩
    have HC : Hid (∀ {y : World} {m : Int}, RunW R y L K { x with st := ys ++ (loc ++ low) } m d s → _) := @CELLS
    have AT : Hid (∀ {y : World} {m : Int}, RunW R y L K { x with st := ys ++ (loc ++ low) } m d s → Calls Tryz.prog 95 #[.pointer (some ⟨R.bp, 0, none⟩), .int .i64 fn, .int .i64 ((pc : Int) + 1 + J)] y (fun e w' => e = .returned (.agg #[.int .i64 6, .int .i64 ee.imm, .int .i64 ee.keep, .int .i64 ee.cut]) ∧ RunW R w' L K { x with st := ys ++ (loc ++ low) } (wrap64 (m + 1)) d s ∧ Fr (fun k => k = R.bp) y w')) := by
      intro y m hy
      have := xat_any _ _ _ _ fn (pc + 1 + J) y hy.prog (by have := M.out.pt.clen; have := M.out.pt.flen; simp only; omega) M.out.lay.hc hec (by omega)
      have ecast : (((pc + 1 + J : Nat)) : Int) = (pc : Int) + 1 + J := by omega
      rw [ecast] at this
      refine this.mono ?_
      rintro e w' ⟨h1, h2, h3⟩
      refine ⟨by rw [h1, Flat.val, heo], hy.fetch h2 h3, h3⟩
    clear CELLS
    refine wp_region_pair 15 (fun y => y.cell? ⟨R.bx, 0, none⟩ = some (.pointer (some ⟨R.bp, 0, none⟩)) ∧ y.cell? ⟨gf, rs.length * 5, none⟩ = some (.int .i64 fn) ∧ y.cell? ⟨gf, rs.length * 5 + 1, none⟩ = some (.int .i64 pc)) (by kernel_rfl) (by kernel_rfl) O.out.pq (HC.out HR1.out.drew) _ _ _ rfl ?_
    simp only [List.take_succ_cons, List.take_zero]
    refine wpQ_move rfl (.tmp 0) (.pointer (some ⟨R.bx, 0, none⟩)) rfl (by kernel_rfl) ?_
    simp only [Act.put, List.setIfInBounds_toArray, List.set_cons_succ, List.set_cons_zero]
    refine wpQ_nilCheck rfl (.tmp 145) ⟨R.bx, 0, none⟩ rfl (by kernel_rfl) ?_
    simp only [Act.put, List.setIfInBounds_toArray, List.set_cons_succ, List.set_cons_zero]
    refine wpQ_fieldAddr rfl (.tmp 146) 0 ⟨R.bx, 0, none⟩ ⟨R.bx, 0, none⟩ rfl (by kernel_rfl) (fun w => by kernel_rfl) ?_
    simp only [Act.put, List.setIfInBounds_toArray, List.set_cons_succ, List.set_cons_zero]
    refine wpQ_load1 rfl (.tmp 147) ⟨R.bx, 0, none⟩ (.pointer (some ⟨R.bp, 0, none⟩)) rfl (by kernel_rfl) (by kernel_rfl) (fun _ h => h.1) ?_
    simp only [Act.put, List.setIfInBounds_toArray, List.set_cons_succ, List.set_cons_zero]
    refine wpQ_move rfl (.tmp 6) (.pointer (some ⟨gf, rs.length * 5, none⟩)) rfl (by kernel_rfl) ?_
    simp only [Act.put, List.setIfInBounds_toArray, List.set_cons_succ, List.set_cons_zero]
    refine wpQ_nilCheck rfl (.tmp 149) ⟨gf, rs.length * 5, none⟩ rfl (by kernel_rfl) ?_
    simp only [Act.put, List.setIfInBounds_toArray, List.set_cons_succ, List.set_cons_zero]
    refine wpQ_fieldAddr rfl (.tmp 150) 0 ⟨gf, rs.length * 5, none⟩ ⟨gf, rs.length * 5, none⟩ rfl (by kernel_rfl) (fun w => by kernel_rfl) ?_
    simp only [Act.put, List.setIfInBounds_toArray, List.set_cons_succ, List.set_cons_zero]
    refine wpQ_load1 rfl (.tmp 151) ⟨gf, rs.length * 5, none⟩ (.int .i64 fn) rfl (by kernel_rfl) (by kernel_rfl) (fun _ h => h.2.1) ?_
    simp only [Act.put, List.setIfInBounds_toArray, List.set_cons_succ, List.set_cons_zero]
    refine wpQ_move rfl (.tmp 6) (.pointer (some ⟨gf, rs.length * 5, none⟩)) rfl (by kernel_rfl) ?_
    simp only [Act.put, List.setIfInBounds_toArray, List.set_cons_succ, List.set_cons_zero]
    refine wpQ_nilCheck rfl (.tmp 153) ⟨gf, rs.length * 5, none⟩ rfl (by kernel_rfl) ?_
    simp only [Act.put, List.setIfInBounds_toArray, List.set_cons_succ, List.set_cons_zero]
    refine wpQ_fieldAddr rfl (.tmp 154) 1 ⟨gf, rs.length * 5, none⟩ ⟨gf, rs.length * 5 + 1, none⟩ rfl (by kernel_rfl) (fun w => by kernel_rfl) ?_
    simp only [Act.put, List.setIfInBounds_toArray, List.set_cons_succ, List.set_cons_zero]
    refine wpQ_load1 rfl (.tmp 155) ⟨gf, rs.length * 5 + 1, none⟩ (.int .i64 pc) rfl (by kernel_rfl) (by kernel_rfl) (fun _ h => h.2.2) ?_
    simp only [Act.put, List.setIfInBounds_toArray, List.set_cons_succ, List.set_cons_zero]
    refine wpQ_add rfl (.tmp 156) (.const (.int .i64 1)) _ pc 1 rfl (by kernel_rfl) rfl (by omega) (by omega) ?_
    simp only [Act.put, List.setIfInBounds_toArray, List.set_cons_succ, List.set_cons_zero]
    refine wpQ_move rfl (.tmp 8) (.int .i64 J) rfl (by kernel_rfl) ?_
    simp only [Act.put, List.setIfInBounds_toArray, List.set_cons_succ, List.set_cons_zero]
    refine wpQ_add rfl (.tmp 157) (.tmp 158) _ (pc + 1) J rfl (by kernel_rfl) (by kernel_rfl) (by omega) (by omega) ?_
    simp only [Act.put, List.setIfInBounds_toArray, List.set_cons_succ, List.set_cons_zero]
    have JC : Hid (∀ {y : World}, RunW R y L K { x with st := ys ++ (loc ++ low) } (wrap64 (n + 1)) d s → Calls _ _ _ _ _) := fun {y} hy => M.out.jumpc (j := ⟨6, ee.imm, ee.keep, ee.cut⟩) hy hfs (by omega) hjk (opsA := ops) (pcA := pc) (vs := []) (dn := 1) HX.out rfl rfl
    refine wpQuiet_nil ⟨?_, ?_⟩
    · go_wp2_with fail
      refine (AT.out HR1.out.drew).mono ?_
      rintro e w2 ⟨rfl, hr2, _⟩
      have HR2 : Hid (RunW _ _ _ _ _ _ _ _) := hr2
      clear hr2
      go_wp2
      refine ⟨HC.out HR2.out, ?_⟩
      go_wp2
      refine ⟨HC.out (HR2.out.alloc _), ?_⟩
      go_wp2_with fail
      refine (need_ok _ _).mono ?_
      rintro e w3 ⟨rfl, rfl⟩
      go_wp2_with fail
      refine (JC.out (HR2.out.alloc _)).mono ?_
      rintro e w3 ⟨rfl, hN⟩
      have HN : Hid (Nx G R T x w3) := hN
      clear hN
      go_wp2
      exact O.out.cont _ _ ⟨by kernel_rfl, by kernel_rfl, by kernel_rfl, by kernel_rfl, rfl⟩ HN.out
    · go_wp2
      refine ⟨HC.out (HR1.out.alloc _), ?_⟩
      go_wp2_with fail
      refine (AT.out (HR1.out.drew.alloc (.cells #[.int .i64 0, .int .i64 0, .int .i64 0, .int .i64 0] 176))).mono ?_
      rintro e w2 ⟨rfl, hr2, hF⟩
      have hbp : R.bp < w1.heap.size := HR1.out.prog.funs.here.lt
      have hb2 : Has w2 w1.heap.size #[.int .i64 0, .int .i64 0, .int .i64 0, .int .i64 0] 176 := (Has.new w1.drew _ _).fr hF (fun e => by simp at e; omega)
      have x0 := hb2.cell 0
      have x1 := hb2.cell 1
      have x2 := hb2.cell 2
      have x3 := hb2.cell 3
      simp at x0 x1 x2 x3
      have y0 := hb2.frozen 0
      have y1 := hb2.frozen 1
      have y2 := hb2.frozen 2
      have y3 := hb2.frozen 3
      have hl2 := hb2.lt
      have hps : ¬ PS R.bp R.LP w1.heap.size := fun hS => by
        obtain ⟨cs, t, hh, _⟩ := HR1.out.prog.typed _ hS
        have := hh.lt
        omega
      have hr3 := hr2.scratch (w' := (((w2.setCell ⟨w1.heap.size, 0, none⟩ (.int .i64 6)).setCell ⟨w1.heap.size, 1, none⟩ (.int .i64 ee.imm)).setCell ⟨w1.heap.size, 2, none⟩ (.int .i64 ee.keep)).setCell ⟨w1.heap.size, 3, none⟩ (.int .i64 ee.cut)) hb2 hps HR1.out.fr.size (Fr.setCell (S := fun k => k = w1.heap.size) (Fr.setCell (S := fun k => k = w1.heap.size) (Fr.setCell (S := fun k => k = w1.heap.size) (Fr.setCell (S := fun k => k = w1.heap.size) (Fr.refl _ _) (p := ⟨w1.heap.size, 0, none⟩) (.inl rfl) _) (p := ⟨w1.heap.size, 1, none⟩) (.inl rfl) _) (p := ⟨w1.heap.size, 2, none⟩) (.inl rfl) _) (p := ⟨w1.heap.size, 3, none⟩) (.inl rfl) _)
      have HR2 : Hid (RunW _ _ _ _ _ _ _ _) := hr2
      have HR3 : Hid (RunW _ _ _ _ _ _ _ _) := hr3
      clear hr2 hr3 hb2 hF
      go_wp2
      refine ⟨HC.out HR2.out, ?_⟩
      go_wp2_with fail
      refine (need_ok _ _).mono ?_
      rintro e w3 ⟨rfl, rfl⟩
      go_wp2_with fail
      refine (JC.out HR3.out).mono ?_
      rintro e w3 ⟨rfl, hN⟩
      have HN : Hid (Nx G R T x w3) := hN
      clear hN
      go_wp2
      exact O.out.cont _ _ ⟨by kernel_rfl, by kernel_rfl, by kernel_rfl, by kernel_rfl, rfl⟩ HN.out
  · have hmn : min q (J : Int) = J := by omega
    go_wp2
    obtain ⟨ee, hec, heo, heT⟩ := htab J (by omega)
    have HX : Hid (G.o = _) := HGO.out J ee (by rw [← andiU, hqe', hJ]; omega) hec
    have hjk : JumpOk (fun _ imm ρ => 0 ≤ imm ∧ T fn imm.toNat = some ρ) (pc + 1 + J) ee (ys.map V.ty) := by
      rw [hys]
      exact ((M.out.lay.fin M.out.pt).1.ok _ _ _ hec heT).br heo
    have hplt : pc + 1 + J < c.length := (List.getElem?_eq_some_iff.1 hec).1
    have hc144 := (M.out.lay.fin M.out.pt).2
    have CELLS : ∀ {y : World} {m : Int}, RunW R y L K { x with st := ys ++ (loc ++ low) } m d s → y.cell? ⟨R.bx, 0, none⟩ = some (.pointer (some ⟨R.bp, 0, none⟩)) ∧ y.cell? ⟨gf, rs.length * 5, none⟩ = some (.int .i64 fn) ∧ y.cell? ⟨gf, rs.length * 5 + 1, none⟩ = some (.int .i64 pc) := by
      intro y m hy
      have c0 := hy.inst.here.cell 0
      simp at c0
      obtain ⟨g2, e1, e2, _⟩ := hy.inst.top (r := r) (rs := rs) M.out.fr
      rw [M.out.gf] at e1
      simp at e1
      subst e1
      have a0 := e2 0 (by omega)
      have a1 := e2 1 (by omega)
      simp [frmCells, M.out.lay.f, M.out.lay.hpc] at a0 a1
      exact ⟨c0, a0, a1⟩
    have HC : Hid (∀ {y : World} {m : Int}, RunW R y L K { x with st := ys ++ (loc ++ low) } m d s → _) := @CELLS
    have AT : Hid (∀ {y : World} {m : Int}, RunW R y L K { x with st := ys ++ (loc ++ low) } m d s → Calls Tryz.prog 95 #[.pointer (some ⟨R.bp, 0, none⟩), .int .i64 fn, .int .i64 ((pc : Int) + 1 + J)] y (fun e w' => e = .returned (.agg #[.int .i64 6, .int .i64 ee.imm, .int .i64 ee.keep, .int .i64 ee.cut]) ∧ RunW R w' L K { x with st := ys ++ (loc ++ low) } (wrap64 (m + 1)) d s ∧ Fr (fun k => k = R.bp) y w')) := by
      intro y m hy
      have := xat_any _ _ _ _ fn (pc + 1 + J) y hy.prog (by have := M.out.pt.clen; have := M.out.pt.flen; simp only; omega) M.out.lay.hc hec (by omega)
      have ecast : (((pc + 1 + J : Nat)) : Int) = (pc : Int) + 1 + J := by omega
      rw [ecast] at this
      refine this.mono ?_
      rintro e w' ⟨h1, h2, h3⟩
      refine ⟨by rw [h1, Flat.val, heo], hy.fetch h2 h3, h3⟩
    clear CELLS
    refine wp_region_pair 15 (fun y => y.cell? ⟨R.bx, 0, none⟩ = some (.pointer (some ⟨R.bp, 0, none⟩)) ∧ y.cell? ⟨gf, rs.length * 5, none⟩ = some (.int .i64 fn) ∧ y.cell? ⟨gf, rs.length * 5 + 1, none⟩ = some (.int .i64 pc)) (by kernel_rfl) (by kernel_rfl) O.out.pq (HC.out HR1.out.drew) _ _ _ rfl ?_
    simp only [List.take_succ_cons, List.take_zero]
    refine wpQ_move rfl (.tmp 0) (.pointer (some ⟨R.bx, 0, none⟩)) rfl (by kernel_rfl) ?_
    simp only [Act.put, List.setIfInBounds_toArray, List.set_cons_succ, List.set_cons_zero]
    refine wpQ_nilCheck rfl (.tmp 145) ⟨R.bx, 0, none⟩ rfl (by kernel_rfl) ?_
    simp only [Act.put, List.setIfInBounds_toArray, List.set_cons_succ, List.set_cons_zero]
    refine wpQ_fieldAddr rfl (.tmp 146) 0 ⟨R.bx, 0, none⟩ ⟨R.bx, 0, none⟩ rfl (by kernel_rfl) (fun w => by kernel_rfl) ?_
    simp only [Act.put, List.setIfInBounds_toArray, List.set_cons_succ, List.set_cons_zero]
    refine wpQ_load1 rfl (.tmp 147) ⟨R.bx, 0, none⟩ (.pointer (some ⟨R.bp, 0, none⟩)) rfl (by kernel_rfl) (by kernel_rfl) (fun _ h => h.1) ?_
    simp only [Act.put, List.setIfInBounds_toArray, List.set_cons_succ, List.set_cons_zero]
    refine wpQ_move rfl (.tmp 6) (.pointer (some ⟨gf, rs.length * 5, none⟩)) rfl (by kernel_rfl) ?_
    simp only [Act.put, List.setIfInBounds_toArray, List.set_cons_succ, List.set_cons_zero]
    refine wpQ_nilCheck rfl (.tmp 149) ⟨gf, rs.length * 5, none⟩ rfl (by kernel_rfl) ?_
    simp only [Act.put, List.setIfInBounds_toArray, List.set_cons_succ, List.set_cons_zero]
    refine wpQ_fieldAddr rfl (.tmp 150) 0 ⟨gf, rs.length * 5, none⟩ ⟨gf, rs.length * 5, none⟩ rfl (by kernel_rfl) (fun w => by kernel_rfl) ?_
    simp only [Act.put, List.setIfInBounds_toArray, List.set_cons_succ, List.set_cons_zero]
    refine wpQ_load1 rfl (.tmp 151) ⟨gf, rs.length * 5, none⟩ (.int .i64 fn) rfl (by kernel_rfl) (by kernel_rfl) (fun _ h => h.2.1) ?_
    simp only [Act.put, List.setIfInBounds_toArray, List.set_cons_succ, List.set_cons_zero]
    refine wpQ_move rfl (.tmp 6) (.pointer (some ⟨gf, rs.length * 5, none⟩)) rfl (by kernel_rfl) ?_
    simp only [Act.put, List.setIfInBounds_toArray, List.set_cons_succ, List.set_cons_zero]
    refine wpQ_nilCheck rfl (.tmp 153) ⟨gf, rs.length * 5, none⟩ rfl (by kernel_rfl) ?_
    simp only [Act.put, List.setIfInBounds_toArray, List.set_cons_succ, List.set_cons_zero]
    refine wpQ_fieldAddr rfl (.tmp 154) 1 ⟨gf, rs.length * 5, none⟩ ⟨gf, rs.length * 5 + 1, none⟩ rfl (by kernel_rfl) (fun w => by kernel_rfl) ?_
    simp only [Act.put, List.setIfInBounds_toArray, List.set_cons_succ, List.set_cons_zero]
    refine wpQ_load1 rfl (.tmp 155) ⟨gf, rs.length * 5 + 1, none⟩ (.int .i64 pc) rfl (by kernel_rfl) (by kernel_rfl) (fun _ h => h.2.2) ?_
    simp only [Act.put, List.setIfInBounds_toArray, List.set_cons_succ, List.set_cons_zero]
    refine wpQ_add rfl (.tmp 156) (.const (.int .i64 1)) _ pc 1 rfl (by kernel_rfl) rfl (by omega) (by omega) ?_
    simp only [Act.put, List.setIfInBounds_toArray, List.set_cons_succ, List.set_cons_zero]
    refine wpQ_move rfl (.tmp 8) (.int .i64 J) rfl (by kernel_rfl) ?_
    simp only [Act.put, List.setIfInBounds_toArray, List.set_cons_succ, List.set_cons_zero]
    refine wpQ_add rfl (.tmp 157) (.tmp 158) _ (pc + 1) J rfl (by kernel_rfl) (by kernel_rfl) (by omega) (by omega) ?_
    simp only [Act.put, List.setIfInBounds_toArray, List.set_cons_succ, List.set_cons_zero]
    have JC : Hid (∀ {y : World}, RunW R y L K { x with st := ys ++ (loc ++ low) } (wrap64 (n + 1)) d s → Calls _ _ _ _ _) := fun {y} hy => M.out.jumpc (j := ⟨6, ee.imm, ee.keep, ee.cut⟩) hy hfs (by omega) hjk (opsA := ops) (pcA := pc) (vs := []) (dn := 1) HX.out rfl rfl
    refine wpQuiet_nil ⟨?_, ?_⟩
    · go_wp2_with fail
      refine (AT.out HR1.out.drew).mono ?_
      rintro e w2 ⟨rfl, hr2, _⟩
      have HR2 : Hid (RunW _ _ _ _ _ _ _ _) := hr2
      clear hr2
      go_wp2
      refine ⟨HC.out HR2.out, ?_⟩
      go_wp2
      refine ⟨HC.out (HR2.out.alloc _), ?_⟩
      go_wp2_with fail
      refine (need_ok _ _).mono ?_
      rintro e w3 ⟨rfl, rfl⟩
      go_wp2_with fail
      refine (JC.out (HR2.out.alloc _)).mono ?_
      rintro e w3 ⟨rfl, hN⟩
      have HN : Hid (Nx G R T x w3) := hN
      clear hN
      go_wp2
      exact O.out.cont _ _ ⟨by kernel_rfl, by kernel_rfl, by kernel_rfl, by kernel_rfl, rfl⟩ HN.out
    · go_wp2
      refine ⟨HC.out (HR1.out.alloc _), ?_⟩
      go_wp2_with fail
      refine (AT.out (HR1.out.drew.alloc (.cells #[.int .i64 0, .int .i64 0, .int .i64 0, .int .i64 0] 176))).mono ?_
      rintro e w2 ⟨rfl, hr2, hF⟩
      have hbp : R.bp < w1.heap.size := HR1.out.prog.funs.here.lt
      have hb2 : Has w2 w1.heap.size #[.int .i64 0, .int .i64 0, .int .i64 0, .int .i64 0] 176 := (Has.new w1.drew _ _).fr hF (fun e => by simp at e; omega)
      have x0 := hb2.cell 0
      have x1 := hb2.cell 1
      have x2 := hb2.cell 2
      have x3 := hb2.cell 3
      simp at x0 x1 x2 x3
      have y0 := hb2.frozen 0
      have y1 := hb2.frozen 1
      have y2 := hb2.frozen 2
      have y3 := hb2.frozen 3
      have hl2 := hb2.lt
      have hps : ¬ PS R.bp R.LP w1.heap.size := fun hS => by
        obtain ⟨cs, t, hh, _⟩ := HR1.out.prog.typed _ hS
        have := hh.lt
        omega
      have hr3 := hr2.scratch (w' := (((w2.setCell ⟨w1.heap.size, 0, none⟩ (.int .i64 6)).setCell ⟨w1.heap.size, 1, none⟩ (.int .i64 ee.imm)).setCell ⟨w1.heap.size, 2, none⟩ (.int .i64 ee.keep)).setCell ⟨w1.heap.size, 3, none⟩ (.int .i64 ee.cut)) hb2 hps HR1.out.fr.size (Fr.setCell (S := fun k => k = w1.heap.size) (Fr.setCell (S := fun k => k = w1.heap.size) (Fr.setCell (S := fun k => k = w1.heap.size) (Fr.setCell (S := fun k => k = w1.heap.size) (Fr.refl _ _) (p := ⟨w1.heap.size, 0, none⟩) (.inl rfl) _) (p := ⟨w1.heap.size, 1, none⟩) (.inl rfl) _) (p := ⟨w1.heap.size, 2, none⟩) (.inl rfl) _) (p := ⟨w1.heap.size, 3, none⟩) (.inl rfl) _)
      have HR2 : Hid (RunW _ _ _ _ _ _ _ _) := hr2
      have HR3 : Hid (RunW _ _ _ _ _ _ _ _) := hr3
      clear hr2 hr3 hb2 hF
      go_wp2
      refine ⟨HC.out HR2.out, ?_⟩
      go_wp2_with fail
      refine (need_ok _ _).mono ?_
      rintro e w3 ⟨rfl, rfl⟩
      go_wp2_with fail
      refine (JC.out HR3.out).mono ?_
      rintro e w3 ⟨rfl, hN⟩
      have HN : Hid (Nx G R T x w3) := hN
      clear hN
      go_wp2
      exact O.out.cont _ _ ⟨by kernel_rfl, by kernel_rfl, by kernel_rfl, by kernel_rfl, rfl⟩ HN.out
end
end Go.Proofs.Qxb6500575aGreatDoor
