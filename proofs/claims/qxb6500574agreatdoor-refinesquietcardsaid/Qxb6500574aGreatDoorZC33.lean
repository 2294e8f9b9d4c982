/-
  THE WALKS of compm: apply: resume of a yielded thread.
-/
import Derived.Test.Qxb6500574aGreatDoorZC32
namespace Go.Proofs.Qxb6500574aGreatDoor
open Go Go.RowKit
set_option linter.unusedVariables false
set_option linter.unusedSimpArgs false
/-- a list of operations cut off from what comes behind -/
theorem list_cut {P : Program} {ops : Array Oper} {Q : Exit → Act → World → Prop} {l : List Oper} {a : Act} {w : World} (K : Act → World → Prop) (h : ∀ Qk : Exit → Act → World → Prop, (∀ a' w', K a' w' → Qk .normal a' w') → wpList P ops Qk l a w) (hk : ∀ a' w', K a' w' → Q .normal a' w') : wpList P ops Q l a w := h Q hk
structure FrAz (v0 v5 v8 v9 v20 : Value) (a : Act) : Prop where
  size : a.tmps.size = 403
  t0 : a.tmps[0]? = some v0
  t5 : a.tmps[5]? = some v5
  t8 : a.tmps[8]? = some v8
  t9 : a.tmps[9]? = some v9
  t20 : a.tmps[20]? = some v20
  df : a.defers = []
set_option maxRecDepth 100000 in
theorem FrAz.form {v0 v5 v8 v9 v20 : Value} {a : Act} (H : FrAz v0 v5 v8 v9 v20 a) : ∃ u : Nat → Value, a = { tmps := List.toArray (v0 :: u 1 :: u 2 :: u 3 :: u 4 :: v5 :: u 6 :: u 7 :: v8 :: v9 :: u 10 :: u 11 :: u 12 :: u 13 :: u 14 :: u 15 :: u 16 :: u 17 :: u 18 :: u 19 :: v20 :: u 21 :: u 22 :: u 23 :: u 24 :: u 25 :: u 26 :: u 27 :: u 28 :: u 29 :: u 30 :: u 31 :: u 32 :: u 33 :: u 34 :: u 35 :: u 36 :: u 37 :: u 38 :: u 39 :: u 40 :: u 41 :: u 42 :: u 43 :: u 44 :: u 45 :: u 46 :: u 47 :: u 48 :: u 49 :: u 50 :: u 51 :: u 52 :: u 53 :: u 54 :: u 55 :: u 56 :: u 57 :: u 58 :: u 59 :: u 60 :: u 61 :: u 62 :: u 63 :: u 64 :: u 65 :: u 66 :: u 67 :: u 68 :: u 69 :: u 70 :: u 71 :: u 72 :: u 73 :: u 74 :: u 75 :: u 76 :: u 77 :: u 78 :: u 79 :: u 80 :: u 81 :: u 82 :: u 83 :: u 84 :: u 85 :: u 86 :: u 87 :: u 88 :: u 89 :: u 90 :: u 91 :: u 92 :: u 93 :: u 94 :: u 95 :: u 96 :: u 97 :: u 98 :: u 99 :: u 100 :: u 101 :: u 102 :: u 103 :: u 104 :: u 105 :: u 106 :: u 107 :: u 108 :: u 109 :: u 110 :: u 111 :: u 112 :: u 113 :: u 114 :: u 115 :: u 116 :: u 117 :: u 118 :: u 119 :: u 120 :: u 121 :: u 122 :: u 123 :: u 124 :: u 125 :: u 126 :: u 127 :: u 128 :: u 129 :: u 130 :: u 131 :: u 132 :: u 133 :: u 134 :: u 135 :: u 136 :: u 137 :: u 138 :: u 139 :: u 140 :: u 141 :: u 142 :: u 143 :: u 144 :: u 145 :: u 146 :: u 147 :: u 148 :: u 149 :: u 150 :: u 151 :: u 152 :: u 153 :: u 154 :: u 155 :: u 156 :: u 157 :: u 158 :: u 159 :: u 160 :: u 161 :: u 162 :: u 163 :: u 164 :: u 165 :: u 166 :: u 167 :: u 168 :: u 169 :: u 170 :: u 171 :: u 172 :: u 173 :: u 174 :: u 175 :: u 176 :: u 177 :: u 178 :: u 179 :: u 180 :: u 181 :: u 182 :: u 183 :: u 184 :: u 185 :: u 186 :: u 187 :: u 188 :: u 189 :: u 190 :: u 191 :: u 192 :: u 193 :: u 194 :: u 195 :: u 196 :: u 197 :: u 198 :: u 199 :: u 200 :: u 201 :: u 202 :: u 203 :: u 204 :: u 205 :: u 206 :: u 207 :: u 208 :: u 209 :: u 210 :: u 211 :: u 212 :: u 213 :: u 214 :: u 215 :: u 216 :: u 217 :: u 218 :: u 219 :: u 220 :: u 221 :: u 222 :: u 223 :: u 224 :: u 225 :: u 226 :: u 227 :: u 228 :: u 229 :: u 230 :: u 231 :: u 232 :: u 233 :: u 234 :: u 235 :: u 236 :: u 237 :: u 238 :: u 239 :: u 240 :: u 241 :: u 242 :: u 243 :: u 244 :: u 245 :: u 246 :: u 247 :: u 248 :: u 249 :: u 250 :: u 251 :: u 252 :: u 253 :: u 254 :: u 255 :: u 256 :: u 257 :: u 258 :: u 259 :: u 260 :: u 261 :: u 262 :: u 263 :: u 264 :: u 265 :: u 266 :: u 267 :: u 268 :: u 269 :: u 270 :: u 271 :: u 272 :: u 273 :: u 274 :: u 275 :: u 276 :: u 277 :: u 278 :: u 279 :: u 280 :: u 281 :: u 282 :: u 283 :: u 284 :: u 285 :: u 286 :: u 287 :: u 288 :: u 289 :: u 290 :: u 291 :: u 292 :: u 293 :: u 294 :: u 295 :: u 296 :: u 297 :: u 298 :: u 299 :: u 300 :: u 301 :: u 302 :: u 303 :: u 304 :: u 305 :: u 306 :: u 307 :: u 308 :: u 309 :: u 310 :: u 311 :: u 312 :: u 313 :: u 314 :: u 315 :: u 316 :: u 317 :: u 318 :: u 319 :: u 320 :: u 321 :: u 322 :: u 323 :: u 324 :: u 325 :: u 326 :: u 327 :: u 328 :: u 329 :: u 330 :: u 331 :: u 332 :: u 333 :: u 334 :: u 335 :: u 336 :: u 337 :: u 338 :: u 339 :: u 340 :: u 341 :: u 342 :: u 343 :: u 344 :: u 345 :: u 346 :: u 347 :: u 348 :: u 349 :: u 350 :: u 351 :: u 352 :: u 353 :: u 354 :: u 355 :: u 356 :: u 357 :: u 358 :: u 359 :: u 360 :: u 361 :: u 362 :: u 363 :: u 364 :: u 365 :: u 366 :: u 367 :: u 368 :: u 369 :: u 370 :: u 371 :: u 372 :: u 373 :: u 374 :: u 375 :: u 376 :: u 377 :: u 378 :: u 379 :: u 380 :: u 381 :: u 382 :: u 383 :: u 384 :: u 385 :: u 386 :: u 387 :: u 388 :: u 389 :: u 390 :: u 391 :: u 392 :: u 393 :: u 394 :: u 395 :: u 396 :: u 397 :: u 398 :: u 399 :: u 400 :: u 401 :: u 402 :: []), defers := [] } := by
  obtain ⟨tmps, defers⟩ := a
  obtain ⟨hz, h0, h5, h8, h9, h20, hd⟩ := H
  simp only at hz h0 h5 h8 h9 h20 hd
  subst hd
  refine ⟨fun i => tmps.getD i undef, ?_⟩
  congr 1
  apply Array.ext'
  have e : tmps.toList = (List.range 403).map (fun i => tmps.getD i undef) := by
    apply List.ext_getElem
    · simpa using hz
    · intro i a1 a2
      simp at a1
      simp [Array.getD, a1]
  rw [e]
  have g0 : tmps.getD 0 undef = v0 := by simp [Array.getD_eq_getD_getElem?, h0]
  have g5 : tmps.getD 5 undef = v5 := by simp [Array.getD_eq_getD_getElem?, h5]
  have g8 : tmps.getD 8 undef = v8 := by simp [Array.getD_eq_getD_getElem?, h8]
  have g9 : tmps.getD 9 undef = v9 := by simp [Array.getD_eq_getD_getElem?, h9]
  have g20 : tmps.getD 20 undef = v20 := by simp [Array.getD_eq_getD_getElem?, h20]
  rw [← g0, ← g5, ← g8, ← g9, ← g20]
  exact range403 (fun i => tmps.getD i undef)
section
variable {w W W1 : World} {A A1 A2 : RnP} {N : List Nd} {root : Nat} {m R : MD} {bA bF xb ba bb bp bq x : Nat} {fn p q : Vl} {args : List Vl} {a : Act}
set_option maxRecDepth 100000
set_option maxHeartbeats 2000000
theorem ap_b9c (P : ApC w A N root W A1 m bA bF xb ba bb bp bq fn args) (K : ApOk N m fn args) (H : FrAq (.pointer (some ⟨A.br, 0, none⟩)) (.pointer (some ⟨xb, 0, none⟩)) (.pointer (some ⟨bA, 0, none⟩)) (.pointer (some ⟨bF, 0, none⟩)) (.pointer (some ⟨ba, 0, none⟩)) (.pointer (some ⟨bb, 0, none⟩)) (.pointer (some ⟨bp, 0, none⟩)) (.pointer (some ⟨bq, 0, none⟩)) a) (hn : fn.n = 9) (ht : (args.getD 0 nilV).t = 7) (hst : (m.ths.getD (args.getD 0 nilV).n mt0).st = 2) (hnc : (args.getD 0 nilV).n ≠ m.cur) :
    (apB Tryz.f126.body).wp Tryz.prog (bodyPost Tryz.prog Tryz.f126 (PQm w A N root ((({ (m.upT fun t => { t with st := 3 }) with stack := m.cur :: m.stack, cur := (args.getD 0 nilV).n } : MD).upT fun t => { t with st := 4 }).push [args.getD 1 nilV, nilV]))) a W := by
  obtain ⟨u, rfl⟩ := H.form
  obtain ⟨Q, HQ⟩ : ∃ Q : Ending → World → Prop, Hid (PQm w A N root ((({ (m.upT fun t => { t with st := 3 }) with stack := m.cur :: m.stack, cur := (args.getD 0 nilV).n } : MD).upT fun t => { t with st := 4 }).push [args.getD 1 nilV, nilV]) = Q) := ⟨_, rfl⟩
  rw [HQ.out]
  have f1 := P.LF.h.cell 1
  have lf := P.LF.h.lt
  simp only [vlC, List.getElem?_toArray, List.getElem?_cons_zero, List.getElem?_cons_succ] at f1
  rw [hn] at f1
  have f1 : W.cell? ⟨bF, 1, none⟩ = some (.int .u64 9) := f1
  have va : VM m (args.getD 0 nilV) := vk_getD K.arV 0
  have vb : VM m (args.getD 1 nilV) := vk_getD K.arV 1
  have nb := va.big K.u.t12 K.u.c24 K.u.h5
  obtain ⟨⟨at', an, axs⟩, HA⟩ : ∃ v, Hid (args.getD 0 nilV = v) := ⟨_, rfl⟩
  obtain ⟨⟨bt, bn, bxs⟩, HBB⟩ : ∃ v, Hid (args.getD 1 nilV = v) := ⟨_, rfl⟩
  have La := P.La
  have Lb := P.Lb
  rw [HA.out] at va La nb ht hst hnc
  rw [HBB.out] at vb Lb
  try rw [HA.out] at HQ
  try rw [HBB.out] at HQ
  dsimp only at nb ht hst hnc
  obtain ⟨p0, p1, p2, p3, p4, p5, lp⟩ := P.d.pc
  obtain ⟨q0, q1, q2, q3, q4, q5, lq⟩ := P.d.qc
  have HVL : Hid (m.th.vals.length ≤ 900000) := K.vl
  have a0 := La.h.cell 0
  have a1 := La.h.cell 1
  have a2 := La.h.cell 2
  have b0 := Lb.h.cell 0
  have b1 := Lb.h.cell 1
  have b2 := Lb.h.cell 2
  have la := La.h.lt
  have lb := Lb.h.lt
  simp only [vlC, List.getElem?_toArray, List.getElem?_cons_succ, List.getElem?_cons_zero] at a0 a1 a2 b0 b1 b2
  dsimp only [nilV] at p0 p1 p2 q0 q1 q2
  obtain ⟨cc0, cc1, lcc⟩ := P.B.c0
  have HP := hid P
  have HK := hid K
  have HVA := hid va
  have HVB := hid vb
  have HLa := hid La
  have HLb := hid Lb
  obtain ⟨x9, hx9, hb9⟩ := P.x
  have ht9 := th_cur P.B.c
  obtain ⟨A2, s1, s2, hx2⟩ := P.B.r.setSt ht9 hx9 3
  have O9 := P.B.r.one _ _ _ ht9 hx9
  have g0 : W.frozen? ⟨xb, 0, none⟩ = false := by rw [← hb9]; exact O9.b.has.frozen 0
  have e0 : W.cell? ⟨xb, 0, none⟩ = some (.int .i64 m.th.st) := by rw [← hb9]; exact O9.b.has.cell 0
  have lx : xb < W.heap.size := by rw [← hb9]; exact O9.b.has.lt
  have oxb : A1.o xb = 10 + m.cur := by rw [← hb9]; exact O9.b.lb
  have obr : A1.o A.br = 1 := by rw [← P.B.s.br]; exact P.B.r.run.lb
  have hne : A.br ≠ xb := fun e => by rw [e] at obr; omega
  have hne2 : xb ≠ A.br := fun e => hne e.symm
  rw [hb9] at s1 s2
  have R1 : MRep (W.setCell ⟨xb, 0, none⟩ (.int .i64 3)) A2 N root (m.upT fun t => { t with st := 3 }) := s1
  have ebr : A2.br = A.br := s2.br.trans P.B.s.br
  have c11 : W.cell? ⟨A.br, 11, none⟩ = some (.int .i64 m.stack.length) := by rw [← P.B.s.br]; exact P.B.r.rc 11 rfl
  have c12 : W.cell? ⟨A.br, 12, none⟩ = some (.int .i64 m.cur) := by rw [← P.B.s.br]; exact P.B.r.rc 12 rfl
  have Hr := P.B.r.run.has
  rw [P.B.s.br] at Hr
  have f11 := Hr.frozen 11
  have f12 := Hr.frozen 12
  subst ht
  have hj : an < m.ths.length := va.c rfl
  obtain ⟨gt, y, hy, hty, ⟨t5, tg, ts, tf, tl0, tl1, tl2, tlc, tlj, tl5⟩⟩ := P.B.thAt hj
  obtain ⟨TH, HTH⟩ : ∃ TH, Hid (m.ths.getD an mt0 = TH) := ⟨_, rfl⟩
  rw [HTH.out] at ts tf hty hst
  obtain ⟨LT, HLT⟩ : ∃ LT : Nat, Hid (m.ths.length = LT) := ⟨_, rfl⟩
  rw [HLT.out] at t5 tlc tlj tl5
  obtain ⟨cap, HCAP⟩ : ∃ cap : Nat, Hid (A1.th.c = cap) := ⟨_, rfl⟩
  rw [HCAP.out] at t5 tlc
  have HHY := hid hy
  have HTY := hid hty
  have TYO := P.B.r.one _ _ _ HTY.out HHY.out
  have oyb : A1.o y.b = 10 + an := TYO.b.lb
  have ny1 : y.b ≠ xb := fun e => by rw [e] at oyb; omega
  have ny2 : y.b ≠ A.br := fun e => by rw [e] at oyb; omega
  have ny3 : A.br ≠ y.b := fun e => ny2 e.symm
  have ny4 : xb ≠ y.b := fun e => ny1 e.symm
  have sk4 := K.sk
  obtain ⟨n, HN⟩ : ∃ n : Nat, Hid (m.stack.length = n) := ⟨_, rfl⟩
  rw [HN.out] at c11 sk4
  have csk := P.B.r.skc (show n < 5 by omega)
  rw [P.B.s.br] at csk
  have fsk : W.frozen? ⟨A.br, 6 + n, none⟩ = false := Hr.frozen _
  obtain ⟨sko, HSKO⟩ : ∃ sko : Nat, Hid (A1.sk.getD n 0 = sko) := ⟨_, rfl⟩
  rw [HSKO.out] at csk
  obtain ⟨cu, HCU⟩ : ∃ cu : Nat, Hid (m.cur = cu) := ⟨_, rfl⟩
  rw [HCU.out] at c12
  -- the world behind the stack's write
  have Fd : ∀ w : World, Fr (fun _ => False) w w.drew.drew := fun w => ((Fr.refl _ _).drew).drew
  obtain ⟨V, HV⟩ : ∃ V, Hid (((W.setCell ⟨xb, 0, none⟩ (.int .i64 3)).setCell ⟨A.br, 6 + n, none⟩ (.int .i64 cu)).drew.drew = V) := ⟨_, rfl⟩
  have eV : (W.setCell ⟨xb, 0, none⟩ (.int .i64 3)).drew.drew.setCell ⟨A.br, 6 + n, none⟩ (.int .i64 cu) = V := by
    rw [← HV.out]
    rfl
  obtain ⟨y1, y2⟩ := (R1.fresh (Fd _)).goto (n := n) HN.out sk4 an
  have ecu : (m.upT fun t => { t with st := 3 }).cur = cu := HCU.out
  rw [ebr, ecu, eV, show ((n + 1 : Nat) : Int) = (n : Int) + 1 by omega] at y1 y2
  have kp : ∀ {b : Nat} {cs : Array Value} {T : TypeId}, Has W b cs T → b ≠ xb → b ≠ A.br → Has V b cs T := fun {b cs T} h h1 h2 => by
    rw [← HV.out]
    exact (((h.other (p := ⟨xb, 0, none⟩) h1 _).other (p := ⟨A.br, 6 + n, none⟩) h2 _).drew).drew
  have k0 : ∀ {b : Nat} {cs : Array Value} {T : TypeId}, LcB W A1 b cs T → Has V b cs T := fun {b cs T} h => kp h.h (fun e => by have := h.z; rw [e] at this; omega) (fun e => by have := h.z; rw [e] at this; omega)
  have HrV : Has V A.br ((rnV A1 N root m).setIfInBounds (6 + n) (.int .i64 cu)) 173 := by
    rw [← HV.out]
    exact ((((Hr.other (p := ⟨xb, 0, none⟩) hne _).put (6 + n) _)).drew).drew
  have HyV := kp TYO.b.has ny1 ny2
  have cV : ∀ i, i ≠ 6 + n → V.cell? ⟨A.br, i, none⟩ = (rnV A1 N root m)[i]? := fun i hi => by
    rw [HrV.cell, Array.getElem?_setIfInBounds_ne (fun e => hi e.symm)]
  have v11 : V.cell? ⟨A.br, 11, none⟩ = some (.int .i64 (m.stack.length : Nat)) := (cV 11 (by omega)).trans rfl
  have v14 : V.cell? ⟨A.br, 14, none⟩ = some (.int .i64 (m.first : Nat)) := (cV 14 (by omega)).trans rfl
  have v12 : V.cell? ⟨A.br, 12, none⟩ = some (.int .i64 (m.cur : Nat)) := (cV 12 (by omega)).trans rfl
  rw [HN.out] at v11
  rw [HCU.out] at v12
  have vf : ∀ i, V.frozen? ⟨A.br, i, none⟩ = false := fun i => HrV.frozen i
  have vf11 := vf 11
  have vf12 := vf 12
  have vf14 := vf 14
  have vbr := HrV.lt
  have vy0 : V.cell? ⟨y.b, 0, none⟩ = some (.int .i64 (TH.st : Nat)) := HyV.cell 0
  have vy1 : V.cell? ⟨y.b, 1, none⟩ = some (.int .i64 (TH.fn : Nat)) := HyV.cell 1
  have vyf := HyV.frozen 0
  have vyl := HyV.lt
  have VA := k0 La
  have VB := k0 Lb
  have VG := k0 P.LA
  have nb1 : bb ≠ A.br := fun e => by have := Lb.z; rw [e] at this; omega
  have nb2 : bb ≠ y.b := fun e => by have := Lb.z; rw [e] at this; omega
  have nb3 : A.br ≠ bb := fun e => nb1 e.symm
  have nb4 : y.b ≠ bb := fun e => nb2 e.symm
  have va1 := VA.cell 1
  have val := VA.lt
  have vb0 := VB.cell 0
  have vb1 := VB.cell 1
  have vb2 := VB.cell 2
  have vbl := VB.lt
  have vgl := VG.lt
  simp only [vlC, List.getElem?_toArray, List.getElem?_cons_succ, List.getElem?_cons_zero] at va1 vb0 vb1 vb2
  -- the thread that goes on
  obtain ⟨X, HX⟩ : ∃ X : MD, Hid (({ (m.upT fun t => { t with st := 3 }) with stack := m.cur :: m.stack, cur := an } : MD) = X) := ⟨_, rfl⟩
  have y1 : MRep _ _ N root ({ (m.upT fun t => { t with st := 3 }) with stack := cu :: m.stack, cur := an } : MD) := y1
  rw [← HCU.out] at y1 y2
  have s3' := s2.trans ((MSt.fresh A2 (Fd _)).trans y2)
  obtain ⟨y', hy', hyb'⟩ := s3'.x _ _ HHY.out
  have hT2 : X.ths[an]? = some TH := by
    rw [← HX.out]
    show (m.ths.set m.cur _)[an]? = some TH
    rw [List.getElem?_set_ne (fun z => hnc z.symm)]
    exact HTY.out
  have hXc : X.cur = an := by rw [← HX.out]
  have hXl : X.cur < X.ths.length := by rw [hXc]; exact (List.getElem?_eq_some_iff.1 hT2).1
  have hXt : X.th = TH := by
    unfold MD.th
    rw [hXc, List.getD_eq_getElem?_getD, hT2]
    rfl
  rw [HX.out] at y1 HQ
  obtain ⟨A4, s3, s4, hx4⟩ := y1.setSt hT2 hy' 4
  rw [hyb'] at s3 s4
  have HS2 : Hid (MSt W A1 (((V.setCell ⟨A.br, 11, none⟩ (.int .i64 ((n : Int) + 1))).setCell ⟨A.br, 12, none⟩ (.int .i64 an)).setCell ⟨y.b, 0, none⟩ (.int .i64 4)) A4) := s3'.trans s4
  obtain ⟨M2, HM2⟩ : ∃ M2, Hid ((X.upT fun t => { t with st := 4 }) = M2) := ⟨_, rfl⟩
  have HS1 : Hid (MRep (((V.setCell ⟨A.br, 11, none⟩ (.int .i64 ((n : Int) + 1))).setCell ⟨A.br, 12, none⟩ (.int .i64 an)).setCell ⟨y.b, 0, none⟩ (.int .i64 4)) A4 N root M2) := by
    show MRep _ _ _ _ _
    rw [← HM2.out]
    unfold MD.upT
    rw [hXt, hXc]
    rw [hXc] at s3
    exact s3
  have HM3 : Hid (M2.cur < M2.ths.length ∧ M2.th = { TH with st := 4 }) := by
    rw [← HM2.out]
    refine ⟨by rw [upT_len]; exact hXl, ?_⟩
    rw [upT_th hXl, hXt]
  have HVO : Hid (TH.vals.length ≤ 900000) := by have := K.vo an; rw [HTH.out] at this; exact this
  have HTO : Hid (TH.tasks.length ≤ 900000 ∧ TH.depth ≤ 8) := by have := K.to an; rw [HTH.out] at this; exact this
  rw [HM2.out] at HQ
  have an63 : an < 24 := by have := K.u.h5; omega
  have HXE : Hid (M2.envs = m.envs ∧ M2.clos = m.clos ∧ M2.tabs = m.tabs ∧ M2.first = m.first) := by rw [← HM2.out, ← HX.out]; exact ⟨rfl, rfl, rfl, rfl⟩
  have HRF : Hid (RefOk M2) := by
    show RefOk _
    have r1 : RefOk (m.upT fun t => { t with st := 3 }) := K.ref.upT P.B.c (K.ref.th P.B.c)
    have r2 : RefOk X := by rw [← HX.out]; exact ⟨r1.t, r1.c, r1.u⟩
    rw [← HM2.out]
    exact r2.upT hXl (r2.th hXl)
  have HLG := hid (P.LA)
  obtain ⟨tst, HTST⟩ : ∃ tst : Nat, Hid (TH.st = tst) := ⟨_, rfl⟩
  obtain ⟨tfn, HTFN⟩ : ∃ tfn : Nat, Hid (TH.fn = tfn) := ⟨_, rfl⟩
  rw [HTST.out] at ts vy0 hst
  rw [HTFN.out] at tf vy1
  have HXE1 : Hid (TH.fn < m.clos.length) := by
    have := (K.u.any an).f
    rw [HTH.out] at this
    exact this
  obtain ⟨yb, HYB⟩ : ∃ yb, Hid (y.b = yb) := ⟨_, rfl⟩
  rw [HYB.out] at HS1 HS2 nb2 nb4 vy0 vy1 vyf vyl ny1 ny2 ny3 ny4 tg ts tf tl2
  clear y1 y2 s1 s2 s3 s4 s3' O9 TYO R1 hx9 ht9 hx2 hb9 hy' hyb' hT2 hx4 hXc hXl hXt hnc VA VB VG HyV HrV cV vf kp k0 Hr Fd eV ecu oxb obr oyb
  subst hst
  clear P K H va vb La Lb
  obtain ⟨c, hc⟩ : ∃ c, c = apB Tryz.f126.body := ⟨_, rfl⟩
  rw [← hc]
  simp only [apB, apT, cR, Tryz.f126, Option.getD_some] at hc
  subst hc
  clear a2 p0 p1 p2 p3 p4 p5 lp q0 q1 q2 q3 q4 q5 lq cc0 cc1
  go_wp2_with fail
  refine wp_region_tail 8 (by kernel_rfl) (by kernel_rfl) (fun _ _ _ _ _ h => h) ?_
  simp only [List.take_succ_cons, List.take_zero, List.drop_succ_cons, List.drop_zero]
  repeat go_big_quiet_step (fail)
  refine wpQuiet_nil ?_
  go_wp2_with fail
  refine wp_region_tail 11 (by kernel_rfl) (by kernel_rfl) (fun _ _ _ _ _ h => h) ?_
  simp only [List.take_succ_cons, List.take_zero, List.drop_succ_cons, List.drop_zero]
  repeat go_big_quiet_step (fail)
  refine wpQuiet_nil ?_
  refine list_cut (fun a' w' => FrAz (.pointer (some ⟨A.br, 0, none⟩)) (.pointer (some ⟨bA, 0, none⟩)) (.pointer (some ⟨ba, 0, none⟩)) (.pointer (some ⟨bb, 0, none⟩)) (.pointer (some ⟨yb, 0, none⟩)) a' ∧ w' = V) (fun Qk hq => ?_) ?_
  · have n5 : n ≠ 5 := by omega
    have HHQ := hid hq
    clear hq
    go_wp2_with fail
    rw [HV.out]
    exact HHQ.out _ _ ⟨⟨by kernel_rfl, by kernel_rfl, by kernel_rfl, by kernel_rfl, by kernel_rfl, by kernel_rfl, rfl⟩, rfl⟩
  · rintro a9 w9 ⟨H9, hw9⟩
    rw [hw9]
    clear hw9
    clear w9
    obtain ⟨u9, rfl⟩ := H9.form
    clear H9 HV c11 c12 f11 f12 csk fsk e0 g0 lx t5 tg ts tf tl0 tl1 tl2 a0 a1 b0 b1 b2 la lb f1 lf
    go_wp2_with fail
    have HB0 : Hid (RB w A N root (((V.setCell ⟨A.br, 11, none⟩ (.int .i64 ((n : Int) + 1))).setCell ⟨A.br, 12, none⟩ (.int .i64 an)).setCell ⟨yb, 0, none⟩ (.int .i64 4)) A4 M2) := ⟨HS1.out, HP.out.B.s.trans HS2.out, HM3.out.1⟩
    have HC1 : Hid (Calls Tryz.prog 124 #[.pointer (some ⟨A.br, 0, none⟩), .agg #[.int .i64 bt, .int .u64 bn, sv bxs]] (((V.setCell ⟨A.br, 11, none⟩ (.int .i64 ((n : Int) + 1))).setCell ⟨A.br, 12, none⟩ (.int .i64 an)).setCell ⟨yb, 0, none⟩ (.int .i64 4)) _) := HB0.out.push (by rw [HM3.out.2]; have := HVO.out; show TH.vals.length ≤ _; omega) ⟨bt, bn, bxs⟩
    refine HC1.out.mono ?_
    rintro e8 w8 ⟨rfl, A8, B8, S8⟩
    have C2 := B8.push (by rw [th_push HM3.out.1, HM3.out.2]; have := HVO.out; simp; omega) nilV
    rw [up_push _ _ _ HM3.out.1] at C2
    have HC2 : Hid (Calls Tryz.prog 124 #[.pointer (some ⟨A.br, 0, none⟩), .agg #[.int .i64 0, .int .u64 0, sv []]] w8 _) := C2
    clear C2 B8 S8
    go_wp2_with fail
    refine HC2.out.mono ?_
    rintro e3 w3 ⟨rfl, A9, B9, S9⟩
    have FIN : Hid (Q (.returned (.tuple #[])) w3) := by
      show Q _ _
      rw [← HQ.out]
      exact B9.end
    clear B9 S9
    go_wp2
    refine bodyPost_ret (results_none rfl _ _ _) rfl ?_
    exact FIN.out
end
end Go.Proofs.Qxb6500574aGreatDoor
