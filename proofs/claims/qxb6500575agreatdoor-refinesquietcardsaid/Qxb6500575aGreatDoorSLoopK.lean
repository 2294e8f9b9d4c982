/-
  THE ROUNDS of run.loop: call.
-/
import Derived.Test.Qxb6500575aGreatDoorSLoop1
namespace Go.Proofs.Qxb6500575aGreatDoor
open Go Go.RowKit
set_option linter.unusedVariables false
set_option linter.unusedSimpArgs false

/-- what the interpreter leans on when it asks its host -/
def AskX {σ τ : Type} (sem : σ → τ) (H : HF τ) (R : RP σ) (h : Value) : Prop := ∀ {w : World} {L : InL} {K : KL} {x : InD} {n : Int} {d : KD} {s : σ} {r : Frm} {rs : List Frm} (g : Nat) (u' : FunD) {args rest : List V}, RunW R w L K { x with st := args ++ rest } n d s → x.fr = r :: rs → R.P.funs[g]? = some u' → (g : Int) < R.P.nimp → args.map V.ty = u'.params.reverse → (∀ v ∈ args, v.Fits) → r.floor ≤ rest.length → (args ++ rest).length ≤ 900 → rs.length ≤ 900 →
  Calls Tryz.prog 99 #[.pointer (some ⟨R.bx, 0, none⟩), .int .i64 g, h] w fun e w' => (e = .returned (.tuple #[]) ∧ ∃ L' s' vs, RunW R w' L' K { x with st := vs ++ rest } n d s' ∧ L'.fa = L.fa ∧ vs.map V.ty = u'.results.reverse ∧ (∀ v ∈ vs, v.Fits) ∧ (H (sem s) g args.reverse).2.1 = 0 ∧ (H (sem s) g args.reverse).2.2.reverse = vs ∧ (H (sem s) g args.reverse).1 = sem s') ∨ (∃ t, 11 ≤ t ∧ t ≤ 17 ∧ e = .panicked (trapV t) ∧ ∃ L' x' s', RunW R w' L' K x' n d s' ∧ x'.used = x.used ∧ x'.high = x.high ∧ (H (sem s) g args.reverse).2.1 = t ∧ (H (sem s) g args.reverse).1 = sem s')

section
variable {σ τ : Type} {G : Gh σ τ} {H : HF τ} {R : RP σ} {T : Nat → Typing} {w : World} {L : InL} {K : KL} {x : InD} {n : Int} {d : KD} {s : σ} {r : Frm} {rs : List Frm} {fn : Nat} {v : FunD} {c : List Flat} {pc : Nat} {ρ : List UInt8} {ops loc low : List V} {i : Flat} {bf gf : Nat} {fuel : Int} {h : Value} {D : World → Prop} {Q : Exit → Act → World → Prop}
set_option maxRecDepth 100000
set_option maxHeartbeats 2000000
theorem sw_call (m : Mid G H R T w L K x n d s r rs fn v c pc ρ ops loc low i bf gf) (hop : i.op = 10) (ac : AskX G.sem H R h) (o : Outs R fuel h (Nx G R T x) D (Tp G R x) Q) (u : Nat → Value) :
    (codeR (codeR (codeR (codeR (roundOf Tryz.f65.body))))).wp Tryz.prog Q { tmps := List.toArray (.pointer (some ⟨R.bx, 0, none⟩) :: .int .i64 fuel :: h :: u 3 :: u 4 :: u 5 :: .pointer (some ⟨gf, rs.length * 5, none⟩) :: .pointer (some ⟨bf, 0, none⟩) :: u 8 :: u 9 :: u 10 :: u 11 :: u 12 :: u 13 :: u 14 :: u 15 :: u 16 :: u 17 :: u 18 :: u 19 :: u 20 :: u 21 :: u 22 :: u 23 :: u 24 :: u 25 :: u 26 :: u 27 :: u 28 :: u 29 :: u 30 :: u 31 :: u 32 :: u 33 :: u 34 :: u 35 :: u 36 :: u 37 :: u 38 :: u 39 :: u 40 :: u 41 :: u 42 :: u 43 :: u 44 :: u 45 :: u 46 :: u 47 :: u 48 :: u 49 :: u 50 :: u 51 :: u 52 :: u 53 :: u 54 :: u 55 :: u 56 :: u 57 :: u 58 :: u 59 :: u 60 :: u 61 :: u 62 :: u 63 :: u 64 :: u 65 :: u 66 :: u 67 :: u 68 :: u 69 :: u 70 :: u 71 :: u 72 :: u 73 :: u 74 :: u 75 :: u 76 :: u 77 :: u 78 :: u 79 :: u 80 :: u 81 :: u 82 :: u 83 :: u 84 :: u 85 :: u 86 :: u 87 :: u 88 :: u 89 :: u 90 :: u 91 :: u 92 :: u 93 :: u 94 :: u 95 :: u 96 :: u 97 :: u 98 :: u 99 :: u 100 :: u 101 :: u 102 :: u 103 :: u 104 :: u 105 :: u 106 :: u 107 :: u 108 :: u 109 :: u 110 :: u 111 :: u 112 :: u 113 :: u 114 :: u 115 :: u 116 :: u 117 :: u 118 :: u 119 :: u 120 :: u 121 :: u 122 :: u 123 :: u 124 :: u 125 :: u 126 :: u 127 :: u 128 :: u 129 :: u 130 :: u 131 :: u 132 :: u 133 :: u 134 :: u 135 :: u 136 :: u 137 :: u 138 :: u 139 :: u 140 :: u 141 :: u 142 :: u 143 :: u 144 :: u 145 :: u 146 :: u 147 :: u 148 :: u 149 :: u 150 :: u 151 :: u 152 :: u 153 :: u 154 :: u 155 :: u 156 :: u 157 :: u 158 :: u 159 :: u 160 :: u 161 :: u 162 :: u 163 :: u 164 :: u 165 :: u 166 :: u 167 :: u 168 :: u 169 :: u 170 :: u 171 :: u 172 :: u 173 :: u 174 :: u 175 :: u 176 :: u 177 :: u 178 :: u 179 :: u 180 :: u 181 :: u 182 :: u 183 :: u 184 :: u 185 :: u 186 :: u 187 :: u 188 :: u 189 :: u 190 :: u 191 :: u 192 :: u 193 :: u 194 :: u 195 :: u 196 :: u 197 :: u 198 :: u 199 :: u 200 :: u 201 :: u 202 :: u 203 :: u 204 :: u 205 :: u 206 :: u 207 :: u 208 :: u 209 :: u 210 :: u 211 :: u 212 :: u 213 :: u 214 :: u 215 :: u 216 :: u 217 :: u 218 :: u 219 :: u 220 :: u 221 :: u 222 :: u 223 :: u 224 :: u 225 :: u 226 :: u 227 :: u 228 :: u 229 :: u 230 :: u 231 :: u 232 :: u 233 :: u 234 :: u 235 :: u 236 :: u 237 :: u 238 :: u 239 :: u 240 :: u 241 :: u 242 :: u 243 :: u 244 :: u 245 :: u 246 :: u 247 :: u 248 :: u 249 :: u 250 :: u 251 :: u 252 :: u 253 :: u 254 :: u 255 :: u 256 :: u 257 :: u 258 :: u 259 :: u 260 :: u 261 :: u 262 :: u 263 :: u 264 :: u 265 :: u 266 :: u 267 :: u 268 :: u 269 :: u 270 :: u 271 :: u 272 :: u 273 :: u 274 :: u 275 :: u 276 :: u 277 :: u 278 :: u 279 :: u 280 :: u 281 :: u 282 :: u 283 :: u 284 :: u 285 :: u 286 :: u 287 :: u 288 :: u 289 :: u 290 :: u 291 :: u 292 :: u 293 :: u 294 :: u 295 :: u 296 :: u 297 :: u 298 :: u 299 :: u 300 :: u 301 :: u 302 :: u 303 :: u 304 :: u 305 :: u 306 :: u 307 :: u 308 :: u 309 :: u 310 :: u 311 :: u 312 :: u 313 :: u 314 :: u 315 :: u 316 :: u 317 :: u 318 :: u 319 :: u 320 :: u 321 :: u 322 :: u 323 :: u 324 :: u 325 :: u 326 :: u 327 :: u 328 :: u 329 :: u 330 :: u 331 :: u 332 :: u 333 :: u 334 :: u 335 :: u 336 :: u 337 :: u 338 :: u 339 :: u 340 :: u 341 :: u 342 :: u 343 :: u 344 :: u 345 :: u 346 :: u 347 :: u 348 :: u 349 :: u 350 :: u 351 :: u 352 :: u 353 :: u 354 :: u 355 :: u 356 :: u 357 :: u 358 :: u 359 :: u 360 :: u 361 :: u 362 :: u 363 :: u 364 :: u 365 :: u 366 :: u 367 :: u 368 :: u 369 :: u 370 :: u 371 :: u 372 :: u 373 :: u 374 :: u 375 :: u 376 :: u 377 :: u 378 :: u 379 :: u 380 :: u 381 :: u 382 :: u 383 :: u 384 :: u 385 :: u 386 :: u 387 :: u 388 :: u 389 :: u 390 :: u 391 :: u 392 :: u 393 :: u 394 :: u 395 :: u 396 :: u 397 :: u 398 :: u 399 :: u 400 :: u 401 :: u 402 :: u 403 :: u 404 :: u 405 :: u 406 :: u 407 :: u 408 :: u 409 :: u 410 :: u 411 :: u 412 :: u 413 :: u 414 :: u 415 :: u 416 :: u 417 :: u 418 :: u 419 :: u 420 :: u 421 :: u 422 :: u 423 :: u 424 :: u 425 :: u 426 :: u 427 :: u 428 :: u 429 :: u 430 :: u 431 :: u 432 :: u 433 :: u 434 :: u 435 :: u 436 :: u 437 :: u 438 :: u 439 :: u 440 :: u 441 :: u 442 :: u 443 :: u 444 :: u 445 :: u 446 :: u 447 :: u 448 :: u 449 :: u 450 :: u 451 :: []), defers := [] } w := by
  have b0 := m.box.cell 0
  have b1 := m.box.cell 1
  have b2 := m.box.cell 2
  have b3 := m.box.cell 3
  simp [hop] at b0 b1 b2 b3
  have c2 := m.run.inst.here.cell 2
  simp at c2
  obtain ⟨l1, l2, l3, l4, l5⟩ := m.lens
  obtain ⟨k1, k2, k3⟩ := m.lts
  have hfl : r.floor = loc.length + low.length := m.lay.floor
  have hxl : x.st.length ≤ ops.length + (loc.length + low.length) ∧ ops.length + (loc.length + low.length) ≤ x.st.length := by rw [m.lay.hst]; simp
  obtain ⟨u', ρ', hi0, hu', e1, hT1⟩ := m.ins.call hop
  obtain ⟨g, hg⟩ : ∃ g : Nat, i.imm = g := ⟨i.imm.toNat, by omega⟩
  rw [hg] at hu' b1
  simp only [Int.toNat_natCast] at hu'
  obtain ⟨args, ops0, e2, hat, hys⟩ := split_ty (by rw [m.lay.hops]; exact e1)
  have hst : x.st = args ++ (ops0 ++ (loc ++ low)) := by rw [m.lay.hst, e2]; simp
  have hfar : ∀ v ∈ args, v.Fits := fun v hv => m.fits.1 v (by rw [e2]; simp [hv])
  have hfs : ∀ v ∈ ops0, v.Fits := fun v hv => m.fits.1 v (by rw [e2]; simp [hv])
  have hyl : args.length + ops0.length = ops.length := by rw [e2]; simp
  have c0 := m.run.inst.here.cell 0
  simp at c0
  have HE2 : Hid (ops = args ++ ops0) := e2
  have hal : args.length = u'.params.length := by have := congrArg List.length hat; simpa using this
  have HTK : Hid (ops.take u'.params.length = args ∧ ops.drop u'.params.length = ops0) := by
    rw [e2, ← hal]
    exact ⟨List.take_left' rfl, List.drop_left' rfl⟩
  have HGO : Hid (G.o = fcall R.P H i ⟨fn, pc, ops, loc⟩ (dec low rs) d.flat (G.sem s)) := by
    show _ = _
    rw [m.go]
    simp [fexec, hop]
  have HIM : Hid (i.imm = g) := hg
  have HUU : Hid (R.P.funs[g]? = some u') := hu'
  clear e1 e2
  simp only [roundOf, codeR, codeIn, Tryz.f65, Option.getD_some]
  have M : Hid (Mid G H R T w L K x n d s r rs fn v c pc ρ ops loc low i bf gf) := m
  have O : Hid (Outs R fuel h _ _ _ Q) := o
  clear m o
  go_wp2
  refine wp_region_head 6 1 (fun y => y = w.drew) (by kernel_rfl) (by kernel_rfl) O.out.pq rfl ?_
  simp only [List.take_succ_cons, List.take_zero, List.drop_succ_cons, List.drop_zero]
  repeat go_big_quiet_step (fail)
  refine wpQuiet_nil ?_
  unfold wpChain
  go_wp2_with fail
  refine (pnimports_any _ _ _ _ _ M.out.run.drew.prog).mono ?_
  rintro e w1 ⟨rfl, rfl⟩
  go_wp2
  refine ⟨trivial, ?_⟩
  rw [wpChain_zero]
  by_cases hi : R.P.nimp ≤ (g : Int)
  · by_cases hd : rs.length + 1 < 4
    · have c3 := M.out.run.inst.here.cell 3
      simp [M.out.fr, M.out.gf] at c3
      go_wp2_with fail
      refine (need_dec (by omega) _ _).mono ?_
      rintro e w1 ⟨rfl, rfl⟩
      obtain ⟨t1, t2, t3, t4⟩ := M.out.drew.tail M.out.gf (M.out.drew.runSt hst)
      have t1' : w.cell? ⟨gf, rs.length * 5 + 1, none⟩ = some (.int .i64 pc) := t1
      have t2 : w.frozen? ⟨gf, rs.length * 5 + 1, none⟩ = false := t2 _
      obtain ⟨gf2, hgf2, hcf, _, _, _, hbg, _⟩ := M.out.run.inst.top (r := r) (rs := rs) M.out.fr
      rw [M.out.gf] at hgf2
      simp at hgf2
      subst hgf2
      have a3 := hcf 3 (by omega)
      simp [frmCells, hfl] at a3
      have R1 : Hid (RunW _ _ _ _ _ _ _ _) := t4
      have hbb : bf ≠ gf := fun e => by
        have := owns_ne M.out.run.inst.fr M.out.box (by decide)
        unfold InL.frV at this
        rw [M.out.gf] at this
        exact this (by rw [e]; rfl)
      have hbb' : gf ≠ bf := fun e => hbb e.symm
      have k2' : bf < w.heap.size := k2
      clear t4 t1 hcf
      have ENT : Hid (Calls Tryz.prog 64 #[.pointer (some ⟨R.bx, 0, none⟩), .int .i64 g, .int .i64 (loc.length + low.length : Nat)] (w.drew.setCell ⟨gf, rs.length * 5 + 1, none⟩ (.int .i64 ((pc : Int) + 1))).drew (fun e w' => e = .returned (.tuple #[]) ∧ Nx G R T x w')) := by
        refine (renter_any R1.out.drew.inst R1.out.drew.prog (by have := M.out.pt.flen; simp only; omega) (u := u') hu' (args := args) (rest := ops0 ++ (loc ++ low)) rfl hat (loc.length + low.length) (by simp) (by simp; omega) (M.out.pt.ps u' (List.mem_of_getElem? hu')).2.2.1 (by simp; omega)).mono ?_
        rintro e w' ⟨h1, L', h2, h3⟩
        refine ⟨h1, L', K, _, n, d, s, R1.out.drew.step h2 h3, ?_, by simp, rfl, rfl, ?_, ?_⟩
        · have gd := M.out.good
          rw [M.out.fr] at gd
          have := gd.call M.out.pt M.out.lay M.out.chain hd g u' hi hu' HE2.out hat (by rw [hys]; exact hT1)
          rw [hst] at this
          simpa using this
        · rw [M.out.fr]
          simp only
          rw [bot_cons]
          exact bot_pc r rs _
        · have hX : G.o = ⟨0, ⟨g, 0, [], zeros u'.locals ++ args⟩ :: ⟨fn, pc + 1, ops0, loc⟩ :: dec low rs, [], d.flat, G.sem s, 0⟩ := by
            rw [HGO.out]
            unfold fcall
            rw [HIM.out, Int.toNat_natCast, HUU.out]
            simp only
            rw [if_neg (by omega), if_pos (by rw [dec_len]; exact hd), HTK.out.1, HTK.out.2]
          refine ⟨by rw [hX], ?_, by rw [hX], M.out.gM.symm, by rw [hX], by rw [hX, M.out.gn]; exact M.out.n0⟩
          rw [hX]
          simp only
          have e5 : zeros u'.locals ++ (args ++ (ops0 ++ (loc ++ low))) = [] ++ ((zeros u'.locals ++ args) ++ (ops0 ++ (loc ++ low))) := by simp
          first
            | (rw [e5, dec_cons (fn := g) (pc := 0) rfl rfl rfl (by simp; omega)]; congr 1; exact dec_cons M.out.lay.f (by simp) M.out.lay.base M.out.lay.floor)
            | (rw [dec_cons (fn := g) (pc := 0) rfl rfl rfl (by simp; omega)]; congr 1; exact dec_cons M.out.lay.f (by simp) M.out.lay.base M.out.lay.floor)
      clear R1
      go_wp2
      refine wp_region_tail 7 (by kernel_rfl) (by kernel_rfl) O.out.pq ?_
      simp only [List.take_succ_cons, List.take_zero, List.drop_succ_cons, List.drop_zero]
      repeat go_big_quiet_step (fail)
      refine wpQuiet_nil ?_
      go_wp2_with fail
      refine ENT.out.mono ?_
      rintro e w2 ⟨rfl, hN⟩
      have HN : Hid (Nx G R T x w2) := hN
      clear hN
      go_wp2
      exact O.out.cont _ _ ⟨by kernel_rfl, by kernel_rfl, by kernel_rfl, by kernel_rfl, rfl⟩ HN.out
    · have c3 := M.out.run.inst.here.cell 3
      simp [M.out.fr, M.out.gf] at c3
      have hd' : decide ((rs.length : Int) + 1 < 4) = false := by simp; omega
      go_wp2_with fail
      first
        | rw [hd']
        | skip
      refine (need_no 14 _).mono ?_
      rintro e w1 ⟨rfl, rfl⟩
      go_wp2
      exact O.out.pan _ _ 14 rfl (by omega) (by omega) ⟨L, K, _, n, d, s, M.out.run.drew, rfl, rfl, M.out.trap (t := 14) (fr := []) (vs := []) (dn := 0) (by
        rw [HGO.out]
        unfold fcall
        rw [HIM.out, Int.toNat_natCast, HUU.out]
        simp only
        rw [if_neg (by omega), if_neg (by rw [dec_len]; exact hd)]) M.out.n0 rfl⟩
  · have AS : Hid (Calls _ _ _ _ _) := ac g u' (M.out.drew.runSt hst) M.out.fr hu' (by omega) hat hfar (by simp; omega) (by simp; omega) (by omega)
    go_wp2_with fail
    refine AS.out.mono ?_
    have HFC : Hid (G.o = if (H (G.sem s) g args.reverse).2.1 = 0 then ⟨0, ⟨fn, pc + 1, (H (G.sem s) g args.reverse).2.2.reverse ++ ops0, loc⟩ :: dec low rs, [], d.flat, (H (G.sem s) g args.reverse).1, 0⟩ else ⟨(H (G.sem s) g args.reverse).2.1, [], [], d.flat, (H (G.sem s) g args.reverse).1, 0⟩) := by
      show _ = _
      rw [HGO.out]
      unfold fcall
      rw [HIM.out, Int.toNat_natCast, HUU.out]
      simp only
      rw [if_pos (by omega), HTK.out.1, HTK.out.2]
    rintro e w1 (⟨rfl, L', s', vs, hr1, hL, hvt, hvf, hq1, hq2, hq3⟩ | ⟨t, h11, h17, rfl, L', x', s', hr1, hus, hhi, hq1, hq2⟩)
    · obtain ⟨t1, t2, t3, t4⟩ := M.out.tail (hL.trans M.out.gf) hr1
      have t2 := t2 (rs.length * 5 + 1)
      have R1 : Hid (RunW _ _ _ _ _ _ _ _) := t4
      clear hr1 t4 hL
      go_wp2
      refine O.out.nrm _ _ ⟨by kernel_rfl, by kernel_rfl, by kernel_rfl, by kernel_rfl, rfl⟩ ?_
      refine M.out.next (vs ++ ops0) loc (pc + 1) ?_ rfl ?_ M.out.fits.2.1 (by simp) R1.out (vs := []) (dn := 0) (by rw [HFC.out, if_pos hq1, hq2, hq3]) M.out.n0 rfl
      · rw [hT1, List.map_append, hvt, hys]
      · intro v hv
        rcases List.mem_append.1 hv with hv | hv
        · exact hvf v hv
        · exact hfs v hv
    · have HR1 : Hid (RunW _ _ _ _ _ _ _ _ ∧ x'.used = x.used ∧ x'.high = x.high) := ⟨hr1, hus, hhi⟩
      have HQ : Hid ((H (G.sem s) g args.reverse).2.1 = t ∧ (H (G.sem s) g args.reverse).1 = G.sem s') := ⟨hq1, hq2⟩
      clear hr1 hus hhi hq1 hq2
      go_wp2
      exact O.out.pan _ _ t rfl h11 h17 ⟨L', K, x', n, d, s', HR1.out.1, HR1.out.2.1, HR1.out.2.2, M.out.trap (t := t) (fr := []) (vs := []) (dn := 0) (by rw [HFC.out, if_neg (by rw [HQ.out.1]; omega), HQ.out.1, HQ.out.2]) M.out.n0 rfl⟩
end
end Go.Proofs.Qxb6500575aGreatDoor
