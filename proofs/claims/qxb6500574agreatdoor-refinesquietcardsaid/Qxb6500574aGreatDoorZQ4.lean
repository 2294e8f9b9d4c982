/-
  THE WALKS of syntaxm: next: its parts, its beginning.
-/
import Derived.Test.Qxb6500574aGreatDoorZQ2
import Derived.Test.Qxb6500574aGreatDoorZQ3
import Derived.Test.Qxb6500574aGreatDoorZR1
import Derived.Test.Qxb6500574aGreatDoorWLx7
import Derived.Deep.LoopGhost
namespace Go.Proofs.Qxb6500574aGreatDoor
open Go Go.RowKit
set_option linter.unusedVariables false
set_option linter.unusedSimpArgs false
def zL : Code → Code
  | .seq a _ => a
  | c => c
def zR : Code → Code
  | .seq _ b => b
  | c => c
/-- the code behind the blanks -/
def nxT (c : Option Code) : Code := zR (zR (c.getD .skip))
structure FrN (v0 v2 : Value) (a : Act) : Prop where
  size : a.tmps.size = 385
  t0 : a.tmps[0]? = some v0
  t2 : a.tmps[2]? = some v2
  df : a.defers = []
set_option maxRecDepth 100000 in
theorem range385 {α : Type} (u : Nat → α) : (List.range 385).map u = u 0 :: u 1 :: u 2 :: u 3 :: u 4 :: u 5 :: u 6 :: u 7 :: u 8 :: u 9 :: u 10 :: u 11 :: u 12 :: u 13 :: u 14 :: u 15 :: u 16 :: u 17 :: u 18 :: u 19 :: u 20 :: u 21 :: u 22 :: u 23 :: u 24 :: u 25 :: u 26 :: u 27 :: u 28 :: u 29 :: u 30 :: u 31 :: u 32 :: u 33 :: u 34 :: u 35 :: u 36 :: u 37 :: u 38 :: u 39 :: u 40 :: u 41 :: u 42 :: u 43 :: u 44 :: u 45 :: u 46 :: u 47 :: u 48 :: u 49 :: u 50 :: u 51 :: u 52 :: u 53 :: u 54 :: u 55 :: u 56 :: u 57 :: u 58 :: u 59 :: u 60 :: u 61 :: u 62 :: u 63 :: u 64 :: u 65 :: u 66 :: u 67 :: u 68 :: u 69 :: u 70 :: u 71 :: u 72 :: u 73 :: u 74 :: u 75 :: u 76 :: u 77 :: u 78 :: u 79 :: u 80 :: u 81 :: u 82 :: u 83 :: u 84 :: u 85 :: u 86 :: u 87 :: u 88 :: u 89 :: u 90 :: u 91 :: u 92 :: u 93 :: u 94 :: u 95 :: u 96 :: u 97 :: u 98 :: u 99 :: u 100 :: u 101 :: u 102 :: u 103 :: u 104 :: u 105 :: u 106 :: u 107 :: u 108 :: u 109 :: u 110 :: u 111 :: u 112 :: u 113 :: u 114 :: u 115 :: u 116 :: u 117 :: u 118 :: u 119 :: u 120 :: u 121 :: u 122 :: u 123 :: u 124 :: u 125 :: u 126 :: u 127 :: u 128 :: u 129 :: u 130 :: u 131 :: u 132 :: u 133 :: u 134 :: u 135 :: u 136 :: u 137 :: u 138 :: u 139 :: u 140 :: u 141 :: u 142 :: u 143 :: u 144 :: u 145 :: u 146 :: u 147 :: u 148 :: u 149 :: u 150 :: u 151 :: u 152 :: u 153 :: u 154 :: u 155 :: u 156 :: u 157 :: u 158 :: u 159 :: u 160 :: u 161 :: u 162 :: u 163 :: u 164 :: u 165 :: u 166 :: u 167 :: u 168 :: u 169 :: u 170 :: u 171 :: u 172 :: u 173 :: u 174 :: u 175 :: u 176 :: u 177 :: u 178 :: u 179 :: u 180 :: u 181 :: u 182 :: u 183 :: u 184 :: u 185 :: u 186 :: u 187 :: u 188 :: u 189 :: u 190 :: u 191 :: u 192 :: u 193 :: u 194 :: u 195 :: u 196 :: u 197 :: u 198 :: u 199 :: u 200 :: u 201 :: u 202 :: u 203 :: u 204 :: u 205 :: u 206 :: u 207 :: u 208 :: u 209 :: u 210 :: u 211 :: u 212 :: u 213 :: u 214 :: u 215 :: u 216 :: u 217 :: u 218 :: u 219 :: u 220 :: u 221 :: u 222 :: u 223 :: u 224 :: u 225 :: u 226 :: u 227 :: u 228 :: u 229 :: u 230 :: u 231 :: u 232 :: u 233 :: u 234 :: u 235 :: u 236 :: u 237 :: u 238 :: u 239 :: u 240 :: u 241 :: u 242 :: u 243 :: u 244 :: u 245 :: u 246 :: u 247 :: u 248 :: u 249 :: u 250 :: u 251 :: u 252 :: u 253 :: u 254 :: u 255 :: u 256 :: u 257 :: u 258 :: u 259 :: u 260 :: u 261 :: u 262 :: u 263 :: u 264 :: u 265 :: u 266 :: u 267 :: u 268 :: u 269 :: u 270 :: u 271 :: u 272 :: u 273 :: u 274 :: u 275 :: u 276 :: u 277 :: u 278 :: u 279 :: u 280 :: u 281 :: u 282 :: u 283 :: u 284 :: u 285 :: u 286 :: u 287 :: u 288 :: u 289 :: u 290 :: u 291 :: u 292 :: u 293 :: u 294 :: u 295 :: u 296 :: u 297 :: u 298 :: u 299 :: u 300 :: u 301 :: u 302 :: u 303 :: u 304 :: u 305 :: u 306 :: u 307 :: u 308 :: u 309 :: u 310 :: u 311 :: u 312 :: u 313 :: u 314 :: u 315 :: u 316 :: u 317 :: u 318 :: u 319 :: u 320 :: u 321 :: u 322 :: u 323 :: u 324 :: u 325 :: u 326 :: u 327 :: u 328 :: u 329 :: u 330 :: u 331 :: u 332 :: u 333 :: u 334 :: u 335 :: u 336 :: u 337 :: u 338 :: u 339 :: u 340 :: u 341 :: u 342 :: u 343 :: u 344 :: u 345 :: u 346 :: u 347 :: u 348 :: u 349 :: u 350 :: u 351 :: u 352 :: u 353 :: u 354 :: u 355 :: u 356 :: u 357 :: u 358 :: u 359 :: u 360 :: u 361 :: u 362 :: u 363 :: u 364 :: u 365 :: u 366 :: u 367 :: u 368 :: u 369 :: u 370 :: u 371 :: u 372 :: u 373 :: u 374 :: u 375 :: u 376 :: u 377 :: u 378 :: u 379 :: u 380 :: u 381 :: u 382 :: u 383 :: u 384 :: [] := rfl
set_option maxRecDepth 100000 in
theorem FrN.form {v0 v2 : Value} {a : Act} (H : FrN v0 v2 a) : ∃ u : Nat → Value, a = { tmps := List.toArray (v0 :: u 1 :: v2 :: u 3 :: u 4 :: u 5 :: u 6 :: u 7 :: u 8 :: u 9 :: u 10 :: u 11 :: u 12 :: u 13 :: u 14 :: u 15 :: u 16 :: u 17 :: u 18 :: u 19 :: u 20 :: u 21 :: u 22 :: u 23 :: u 24 :: u 25 :: u 26 :: u 27 :: u 28 :: u 29 :: u 30 :: u 31 :: u 32 :: u 33 :: u 34 :: u 35 :: u 36 :: u 37 :: u 38 :: u 39 :: u 40 :: u 41 :: u 42 :: u 43 :: u 44 :: u 45 :: u 46 :: u 47 :: u 48 :: u 49 :: u 50 :: u 51 :: u 52 :: u 53 :: u 54 :: u 55 :: u 56 :: u 57 :: u 58 :: u 59 :: u 60 :: u 61 :: u 62 :: u 63 :: u 64 :: u 65 :: u 66 :: u 67 :: u 68 :: u 69 :: u 70 :: u 71 :: u 72 :: u 73 :: u 74 :: u 75 :: u 76 :: u 77 :: u 78 :: u 79 :: u 80 :: u 81 :: u 82 :: u 83 :: u 84 :: u 85 :: u 86 :: u 87 :: u 88 :: u 89 :: u 90 :: u 91 :: u 92 :: u 93 :: u 94 :: u 95 :: u 96 :: u 97 :: u 98 :: u 99 :: u 100 :: u 101 :: u 102 :: u 103 :: u 104 :: u 105 :: u 106 :: u 107 :: u 108 :: u 109 :: u 110 :: u 111 :: u 112 :: u 113 :: u 114 :: u 115 :: u 116 :: u 117 :: u 118 :: u 119 :: u 120 :: u 121 :: u 122 :: u 123 :: u 124 :: u 125 :: u 126 :: u 127 :: u 128 :: u 129 :: u 130 :: u 131 :: u 132 :: u 133 :: u 134 :: u 135 :: u 136 :: u 137 :: u 138 :: u 139 :: u 140 :: u 141 :: u 142 :: u 143 :: u 144 :: u 145 :: u 146 :: u 147 :: u 148 :: u 149 :: u 150 :: u 151 :: u 152 :: u 153 :: u 154 :: u 155 :: u 156 :: u 157 :: u 158 :: u 159 :: u 160 :: u 161 :: u 162 :: u 163 :: u 164 :: u 165 :: u 166 :: u 167 :: u 168 :: u 169 :: u 170 :: u 171 :: u 172 :: u 173 :: u 174 :: u 175 :: u 176 :: u 177 :: u 178 :: u 179 :: u 180 :: u 181 :: u 182 :: u 183 :: u 184 :: u 185 :: u 186 :: u 187 :: u 188 :: u 189 :: u 190 :: u 191 :: u 192 :: u 193 :: u 194 :: u 195 :: u 196 :: u 197 :: u 198 :: u 199 :: u 200 :: u 201 :: u 202 :: u 203 :: u 204 :: u 205 :: u 206 :: u 207 :: u 208 :: u 209 :: u 210 :: u 211 :: u 212 :: u 213 :: u 214 :: u 215 :: u 216 :: u 217 :: u 218 :: u 219 :: u 220 :: u 221 :: u 222 :: u 223 :: u 224 :: u 225 :: u 226 :: u 227 :: u 228 :: u 229 :: u 230 :: u 231 :: u 232 :: u 233 :: u 234 :: u 235 :: u 236 :: u 237 :: u 238 :: u 239 :: u 240 :: u 241 :: u 242 :: u 243 :: u 244 :: u 245 :: u 246 :: u 247 :: u 248 :: u 249 :: u 250 :: u 251 :: u 252 :: u 253 :: u 254 :: u 255 :: u 256 :: u 257 :: u 258 :: u 259 :: u 260 :: u 261 :: u 262 :: u 263 :: u 264 :: u 265 :: u 266 :: u 267 :: u 268 :: u 269 :: u 270 :: u 271 :: u 272 :: u 273 :: u 274 :: u 275 :: u 276 :: u 277 :: u 278 :: u 279 :: u 280 :: u 281 :: u 282 :: u 283 :: u 284 :: u 285 :: u 286 :: u 287 :: u 288 :: u 289 :: u 290 :: u 291 :: u 292 :: u 293 :: u 294 :: u 295 :: u 296 :: u 297 :: u 298 :: u 299 :: u 300 :: u 301 :: u 302 :: u 303 :: u 304 :: u 305 :: u 306 :: u 307 :: u 308 :: u 309 :: u 310 :: u 311 :: u 312 :: u 313 :: u 314 :: u 315 :: u 316 :: u 317 :: u 318 :: u 319 :: u 320 :: u 321 :: u 322 :: u 323 :: u 324 :: u 325 :: u 326 :: u 327 :: u 328 :: u 329 :: u 330 :: u 331 :: u 332 :: u 333 :: u 334 :: u 335 :: u 336 :: u 337 :: u 338 :: u 339 :: u 340 :: u 341 :: u 342 :: u 343 :: u 344 :: u 345 :: u 346 :: u 347 :: u 348 :: u 349 :: u 350 :: u 351 :: u 352 :: u 353 :: u 354 :: u 355 :: u 356 :: u 357 :: u 358 :: u 359 :: u 360 :: u 361 :: u 362 :: u 363 :: u 364 :: u 365 :: u 366 :: u 367 :: u 368 :: u 369 :: u 370 :: u 371 :: u 372 :: u 373 :: u 374 :: u 375 :: u 376 :: u 377 :: u 378 :: u 379 :: u 380 :: u 381 :: u 382 :: u 383 :: u 384 :: []), defers := [] } := by
  obtain ⟨tmps, defers⟩ := a
  obtain ⟨hz, h0, h2, hd⟩ := H
  simp only at hz h0 h2 hd
  subst hd
  refine ⟨fun i => tmps.getD i undef, ?_⟩
  congr 1
  apply Array.ext'
  have e : tmps.toList = (List.range 385).map (fun i => tmps.getD i undef) := by
    apply List.ext_getElem
    · simpa using hz
    · intro i a1 a2
      simp at a1
      simp [Array.getD, a1]
  rw [e]
  have g0 : tmps.getD 0 undef = v0 := by simp [Array.getD_eq_getD_getElem?, h0]
  have g2 : tmps.getD 2 undef = v2 := by simp [Array.getD_eq_getD_getElem?, h2]
  rw [← g0, ← g2]
  exact range385 (fun i => tmps.getD i undef)
/-- so far the blanks are passed -/
def NxIZ (w : World) (A : PzP) (d : PzD) (E m : Nat) (wr : World) : Prop := ∃ e, PzM wr A { d with e := e } ∧ PzS w A wr A ∧ skipM A.s m e = E ∧ A.s.length - e < m
/-- within a remark -/
def NxJ (w : World) (A : PzP) (d : PzD) (e X m : Nat) (wr : World) : Prop := ∃ k, PzM wr A { d with e := e + k } ∧ PzS w A wr A ∧ X = k + span (fun x => x != 10) (A.s.drop (e + k)) ∧ A.s.length - (e + k) < m
theorem u8b {c : UInt8} {cn : Nat} (h : c.toNat = cn) (k : UInt8) (hk : c ≠ k) : ((cn : Int) == (k.toNat : Int)) = false := by
  rw [beq_eq_false_iff_ne]
  intro z
  exact hk (UInt8.toNat_inj.1 (h.trans (by omega)))
section
variable {w W : World} {A : PzP} {d : PzD} {a : Act}
theorem PzM.pos (h : PzM w A d) (e : Nat) (he : e ≤ A.s.length) {u : Int} (hu : u = e) : PzM (w.setCell ⟨A.b, 2, none⟩ (.int .i64 u)) A { d with e := e } ∧ PzS w A (w.setCell ⟨A.b, 2, none⟩ (.int .i64 u)) A := by
  subst hu
  exact h.put 2 (.int .i64 e) (d' := { d with e := e }) rfl rfl he
set_option maxRecDepth 100000
set_option maxHeartbeats 2000000
theorem nx_eq : Tryz.f105.body = some (Code.seq (zL (Tryz.f105.body.getD .skip)) (Code.seq (zL (zR (Tryz.f105.body.getD .skip))) (nxT Tryz.f105.body))) := by kernel_rfl
theorem next_head (h : PzM w A d) {Q : Ending → World → Prop} (hT : ∀ W a, PzM W A { d with e := skipM A.s (A.s.length + 1) d.e } → PzS w A W A → FrN (.pointer (some ⟨A.b, 0, none⟩)) (sv A.s) a → (nxT Tryz.f105.body).wp Tryz.prog (bodyPost Tryz.prog Tryz.f105 Q) a W) :
    Calls Tryz.prog 105 #[.pointer (some ⟨A.b, 0, none⟩)] w Q := by
  obtain ⟨TL, HTL⟩ : ∃ TL, Hid (nxT Tryz.f105.body = TL) := ⟨_, rfl⟩
  have EQ := nx_eq
  rw [HTL.out] at EQ hT
  obtain ⟨E, HE⟩ : ∃ E, Hid (skipM A.s (A.s.length + 1) d.e = E) := ⟨_, rfl⟩
  rw [HE.out] at hT
  refine calls_of_wp Tryz.func105 EQ ?_
  have HT := hid hT
  have c1 : w.cell? ⟨A.b, 1, none⟩ = some (sv A.s) := h.c 1
  have lb := h.lt
  have HI : Hid (NxIZ w A d E (A.s.length + 1) w) := ⟨d.e, h, PzS.refl _ _, HE.out, by omega⟩
  have ls := h.ls
  obtain ⟨src, HSRC⟩ : ∃ src, Hid (A.s = src) := ⟨_, rfl⟩
  rw [HSRC.out] at c1 ls HI HT
  obtain ⟨n0, HN0⟩ : ∃ n0, Hid (src.length + 1 = n0) := ⟨_, rfl⟩
  rw [HN0.out] at HI
  have hsz : (⟨src.toArray⟩ : ByteArray).size = src.length := by simp [ByteArray.size]
  clear h hT EQ HTL HE
  simp only [Tryz.ntmps105, List.size_toArray, List.length_cons, List.length_nil, Nat.reduceAdd, Nat.reduceSub, Array.replicate_succ, Array.replicate_zero, List.push_toArray, List.append_toArray, List.nil_append, List.cons_append]
  simp only [zL, zR, Tryz.f105, Option.getD_some]
  go_wp2_with fail
  clear c1 lb
  go_loopg [] n0 (fun m wr => Hid (NxIZ w A d E m wr))
  case atStart => exact HI
  case round =>
    obtain ⟨e, hm, hs, hE, hlt⟩ := hrel.out
    rw [HSRC.out] at hE hlt
    obtain ⟨m', rfl⟩ : ∃ m', gk = m' + 1 := ⟨gk - 1, by omega⟩
    have c1 : wr.cell? ⟨A.b, 1, none⟩ = some (sv A.s) := hm.c 1
    have c2 : wr.cell? ⟨A.b, 2, none⟩ = some (.int .i64 e) := hm.c 2
    rw [HSRC.out] at c1
    have lb := hm.lt
    have f2 := hm.fz 2
    have HM := hid hm
    have HS := hid hs
    have HEE := hid hE
    have HLT := hid hlt
    have he : e ≤ src.length := by have := hm.pe; rw [HSRC.out] at this; exact this
    clear hrel hm hs hE hlt
    obtain ⟨LN, HLN⟩ : ∃ LN : Nat, Hid (src.length = LN) := ⟨_, rfl⟩
    rw [HLN.out] at hsz ls he
    have hsz2 : src.toArray.size = LN := hsz
    have e31 : e ≤ 3000 := by omega
    by_cases hend : e < LN
    · obtain ⟨c, hc⟩ : ∃ c, src[e]? = some c := ⟨src[e]'(by rw [HLN.out]; exact hend), by simp⟩
      have hE2 := HEE.out
      unfold skipM at hE2
      rw [hc] at hE2
      dsimp only at hE2
      have hix := fun w => run_index_str src e e rfl hc w
      obtain ⟨cn, HCN⟩ : ∃ cn, Hid (c.toNat = cn) := ⟨_, rfl⟩
      rw [HCN.out] at hix
      have HCC := hid hc
      have cn256 : cn < 256 := by rw [← HCN.out]; exact UInt8.toNat_lt c
      clear hc
      by_cases hws : isWs c
      · rw [if_pos hws] at hE2
        obtain ⟨M1, S1⟩ := HM.out.pos (e + 1) (by rw [HSRC.out, HLN.out]; omega) (u := (e : Int) + 1) (by omega)
        have HQ2 : Hid (NxIZ w A d E m' (wr.setCell ⟨A.b, 2, none⟩ (.int .i64 ((e : Int) + 1)))) := ⟨e + 1, M1, HS.out.trans S1, by rw [HSRC.out]; exact hE2, by have := HLT.out; rw [HSRC.out, HLN.out]; rw [HLN.out] at this; omega⟩
        clear M1 S1 hE2
        have hcs : cn = 32 ∨ cn = 9 ∨ cn = 10 ∨ cn = 13 := by
          rw [← HCN.out]
          rcases hws with h | h | h | h <;> rw [h] <;> decide
        clear hws
        rcases hcs with rfl | rfl | rfl | rfl
        all_goals
          go_wp2_with fail
          go_roundg m'
          case measure => omega
          case rel => exact HQ2
      · rw [if_neg hws] at hE2
        have h32 : ((cn : Int) == 32) = false := u8b HCN.out 32 (fun z => hws (.inl z))
        have h9 : ((cn : Int) == 9) = false := u8b HCN.out 9 (fun z => hws (.inr (.inl z)))
        have h10 : ((cn : Int) == 10) = false := u8b HCN.out 10 (fun z => hws (.inr (.inr (.inl z))))
        have h13 : ((cn : Int) == 13) = false := u8b HCN.out 13 (fun z => hws (.inr (.inr (.inr z))))
        clear hws
        by_cases hco : c = 45 ∧ src[e + 1]? = some 45
        · rw [if_pos hco] at hE2
          have h45 : cn = 45 := by rw [← HCN.out, hco.1]; rfl
          subst h45
          have hl1 : e + 1 < LN := by have := (List.getElem?_eq_some_iff.1 hco.2).1; rw [HLN.out] at this; exact this
          have hix1 : ∀ w, (Instr.index 9 (sv src) (.int .i64 ((e : Int) + 1))).run Tryz.prog w = .ok (.int .u8 45) w := fun w => run_index_str src (e + 1) ((e : Int) + 1) (by omega) hco.2 w
          obtain ⟨X, HXX⟩ : ∃ X, Hid (span (fun x => x != 10) (src.drop e) = X) := ⟨_, rfl⟩
          rw [HXX.out] at hE2
          have HE2 := hid hE2
          have HJ : Hid (NxJ w A d e X (LN + 1) wr) := ⟨0, HM.out, HS.out, by rw [HSRC.out, ← HXX.out, Nat.add_zero, Nat.zero_add], by rw [HSRC.out, HLN.out]; omega⟩
          obtain ⟨n2, HN2⟩ : ∃ n2, Hid (LN + 1 = n2) := ⟨_, rfl⟩
          rw [HN2.out] at HJ
          have HX1 : Hid (1 ≤ X) := by
            show 1 ≤ X
            rw [← HXX.out]
            exact span_pos2 HCC.out (by rw [hco.1]; rfl)
          clear hE2 hco
          go_wp2_with fail
          clear c1 c2 lb f2 hix hix1
          go_loopg [] n2 (fun m wr => Hid (NxJ w A d e X m wr))
          case atStart => exact HJ
          case round =>
            obtain ⟨k, hm, hs, hX, hlt⟩ := hrel.out
            rw [HSRC.out] at hX hlt
            have c1 : wr.cell? ⟨A.b, 1, none⟩ = some (sv A.s) := hm.c 1
            have c2 : wr.cell? ⟨A.b, 2, none⟩ = some (.int .i64 ((e + k : Nat) : Int)) := hm.c 2
            rw [HSRC.out] at c1
            have lb := hm.lt
            have f2 := hm.fz 2
            have HM2 := hid hm
            have HS2 := hid hs
            have HLT2 := hid hlt
            have hek : e + k ≤ LN := by have := hm.pe; rw [HSRC.out, HLN.out] at this; exact this
            obtain ⟨j, HJ2⟩ : ∃ j : Nat, Hid (e + k = j) := ⟨_, rfl⟩
            rw [HJ2.out] at c2 hek hX
            have j31 : j ≤ 3000 := by omega
            have HX2 := hid hX
            clear hrel hm hs hX hlt
            have HFIN : Hid (X = k → NxIZ w A d E m' wr) := fun z => ⟨e + k, HM2.out, HS2.out, by rw [HSRC.out, ← z]; exact HE2.out, by have := HLT.out; rw [HSRC.out, HLN.out]; rw [HLN.out] at this; have := HX1.out; omega⟩
            by_cases hjl : j < LN
            · obtain ⟨c', hc'⟩ : ∃ c, src[j]? = some c := ⟨src[j]'(by rw [HLN.out]; exact hjl), by simp⟩
              have hix := fun w => run_index_str src j j rfl hc' w
              obtain ⟨cn', HCN'⟩ : ∃ cn, Hid (c'.toNat = cn) := ⟨_, rfl⟩
              rw [HCN'.out] at hix
              have hX := HX2.out
              rw [drop_at hc', span_cons] at hX
              by_cases h10' : c' = 10
              · rw [if_neg (by rw [h10']; decide), Nat.add_zero] at hX
                have hcn : cn' = 10 := by rw [← HCN'.out, h10']; rfl
                subst hcn
                have HQ2 := hid (HFIN.out hX)
                clear hX h10' hc'
                go_wp2_with fail
                go_roundg m'
                case measure => omega
                case rel => exact HQ2
              · rw [if_pos (by simpa using h10')] at hX
                have b10 : ((cn' : Int) != 10) = true := by
                  have := u8b HCN'.out 10 h10'
                  rw [bne, show ((10 : UInt8).toNat : Int) = 10 from rfl] at *
                  rw [this]
                  rfl
                obtain ⟨M1, S1⟩ := HM2.out.pos (e + (k + 1)) (by rw [HSRC.out, HLN.out]; have := HJ2.out; omega) (u := (j : Int) + 1) (by have := HJ2.out; omega)
                obtain ⟨g2, HG2⟩ : ∃ g2, gk = g2 + 1 := ⟨gk - 1, by have := HLT2.out; omega⟩
                subst HG2
                have HQ2 : Hid (NxJ w A d e X g2 (wr.setCell ⟨A.b, 2, none⟩ (.int .i64 ((j : Int) + 1)))) := ⟨k + 1, M1, HS2.out.trans S1, by rw [HSRC.out, show e + (k + 1) = j + 1 by have := HJ2.out; omega]; omega, by have := HLT2.out; rw [HSRC.out, HLN.out]; rw [HLN.out] at this; have := HJ2.out; omega⟩
                clear hX h10' hc' M1 S1
                go_wp2_with fail
                go_roundg g2
                case measure => omega
                case rel => exact HQ2
            · have hX := HX2.out
              rw [List.drop_eq_nil_of_le (by rw [HLN.out]; omega)] at hX
              have HQ2 := hid (HFIN.out (by have : span (fun x : UInt8 => x != 10) [] = 0 := rfl; omega))
              clear hX
              go_wp2_with fail
              go_roundg m'
              case measure => omega
              case rel => exact HQ2
        · rw [if_neg hco] at hE2
          subst hE2
          have FIN := hid (HT.out wr)
          have HM3 := HM
          by_cases h45 : c = 45
          · have hcn : cn = 45 := by rw [← HCN.out, h45]; rfl
            subst hcn
            by_cases hl1 : e + 1 < LN
            · obtain ⟨c', hc'⟩ : ∃ c, src[e + 1]? = some c := ⟨src[e + 1]'(by rw [HLN.out]; exact hl1), by simp⟩
              obtain ⟨cn', HCN'⟩ : ∃ cn, Hid (c'.toNat = cn) := ⟨_, rfl⟩
              have hix1 : ∀ w, (Instr.index 9 (sv src) (.int .i64 ((e : Int) + 1))).run Tryz.prog w = .ok (.int .u8 cn') w := fun w => by
                have := run_index_str src (e + 1) ((e : Int) + 1) (by omega) hc' w
                rw [HCN'.out] at this
                exact this
              have b45 : ((cn' : Int) == 45) = false := u8b HCN'.out 45 (fun z => hco ⟨h45, by rw [hc', z]⟩)
              clear hco h45 hc'
              go_wp2_with fail
              exact FIN.out _ HM3.out HS.out ⟨by kernel_rfl, by kernel_rfl, by kernel_rfl, rfl⟩
            · clear hco h45
              go_wp2_with fail
              exact FIN.out _ HM3.out HS.out ⟨by kernel_rfl, by kernel_rfl, by kernel_rfl, rfl⟩
          · have b45 : ((cn : Int) == 45) = false := u8b HCN.out 45 h45
            clear hco h45
            go_wp2_with fail
            exact FIN.out _ HM3.out HS.out ⟨by kernel_rfl, by kernel_rfl, by kernel_rfl, rfl⟩
    · have hE2 := HEE.out
      unfold skipM at hE2
      rw [List.getElem?_eq_none (by rw [HLN.out]; omega)] at hE2
      have hE2 : e = E := hE2
      subst hE2
      go_wp2_with fail
      exact HT.out _ _ HM.out HS.out ⟨by kernel_rfl, by kernel_rfl, by kernel_rfl, rfl⟩
end
end Go.Proofs.Qxb6500574aGreatDoor
