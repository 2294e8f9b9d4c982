/-
  THE WALKS of compm: apply: its parts, its beginning.
-/
import Derived.Test.Qxb6500574aGreatDoorZC16
import Derived.Test.Qxb6500574aGreatDoorZV7
namespace Go.Proofs.Qxb6500574aGreatDoor
open Go Go.RowKit
set_option linter.unusedVariables false
set_option linter.unusedSimpArgs false
def cL : Code → Code
  | .seq a _ => a
  | c => c
def cR : Code → Code
  | .seq _ b => b
  | c => c
def cI : Code → Code
  | .block _ b => b
  | .loop b => b
  | .scope b => b
  | c => c
/-- the code behind the arguments and the function -/
def apT (c : Option Code) : Code := cR (cR (cR (cR (cR (c.getD .skip)))))
/-- the code of the builtins -/
def apB (c : Option Code) : Code := cR (cR (cR (cR (cR (apT c)))))
/-- the end: two results are pushed -/
def apE (c : Option Code) : Code := cR (apB c)
structure FrAp (v0 v1 v4 v5 v7 : Value) (a : Act) : Prop where
  size : a.tmps.size = 403
  t0 : a.tmps[0]? = some v0
  t1 : a.tmps[1]? = some v1
  t4 : a.tmps[4]? = some v4
  t5 : a.tmps[5]? = some v5
  t7 : a.tmps[7]? = some v7
  df : a.defers = []
set_option maxRecDepth 100000 in
theorem range403 {α : Type} (u : Nat → α) : (List.range 403).map u = u 0 :: u 1 :: u 2 :: u 3 :: u 4 :: u 5 :: u 6 :: u 7 :: u 8 :: u 9 :: u 10 :: u 11 :: u 12 :: u 13 :: u 14 :: u 15 :: u 16 :: u 17 :: u 18 :: u 19 :: u 20 :: u 21 :: u 22 :: u 23 :: u 24 :: u 25 :: u 26 :: u 27 :: u 28 :: u 29 :: u 30 :: u 31 :: u 32 :: u 33 :: u 34 :: u 35 :: u 36 :: u 37 :: u 38 :: u 39 :: u 40 :: u 41 :: u 42 :: u 43 :: u 44 :: u 45 :: u 46 :: u 47 :: u 48 :: u 49 :: u 50 :: u 51 :: u 52 :: u 53 :: u 54 :: u 55 :: u 56 :: u 57 :: u 58 :: u 59 :: u 60 :: u 61 :: u 62 :: u 63 :: u 64 :: u 65 :: u 66 :: u 67 :: u 68 :: u 69 :: u 70 :: u 71 :: u 72 :: u 73 :: u 74 :: u 75 :: u 76 :: u 77 :: u 78 :: u 79 :: u 80 :: u 81 :: u 82 :: u 83 :: u 84 :: u 85 :: u 86 :: u 87 :: u 88 :: u 89 :: u 90 :: u 91 :: u 92 :: u 93 :: u 94 :: u 95 :: u 96 :: u 97 :: u 98 :: u 99 :: u 100 :: u 101 :: u 102 :: u 103 :: u 104 :: u 105 :: u 106 :: u 107 :: u 108 :: u 109 :: u 110 :: u 111 :: u 112 :: u 113 :: u 114 :: u 115 :: u 116 :: u 117 :: u 118 :: u 119 :: u 120 :: u 121 :: u 122 :: u 123 :: u 124 :: u 125 :: u 126 :: u 127 :: u 128 :: u 129 :: u 130 :: u 131 :: u 132 :: u 133 :: u 134 :: u 135 :: u 136 :: u 137 :: u 138 :: u 139 :: u 140 :: u 141 :: u 142 :: u 143 :: u 144 :: u 145 :: u 146 :: u 147 :: u 148 :: u 149 :: u 150 :: u 151 :: u 152 :: u 153 :: u 154 :: u 155 :: u 156 :: u 157 :: u 158 :: u 159 :: u 160 :: u 161 :: u 162 :: u 163 :: u 164 :: u 165 :: u 166 :: u 167 :: u 168 :: u 169 :: u 170 :: u 171 :: u 172 :: u 173 :: u 174 :: u 175 :: u 176 :: u 177 :: u 178 :: u 179 :: u 180 :: u 181 :: u 182 :: u 183 :: u 184 :: u 185 :: u 186 :: u 187 :: u 188 :: u 189 :: u 190 :: u 191 :: u 192 :: u 193 :: u 194 :: u 195 :: u 196 :: u 197 :: u 198 :: u 199 :: u 200 :: u 201 :: u 202 :: u 203 :: u 204 :: u 205 :: u 206 :: u 207 :: u 208 :: u 209 :: u 210 :: u 211 :: u 212 :: u 213 :: u 214 :: u 215 :: u 216 :: u 217 :: u 218 :: u 219 :: u 220 :: u 221 :: u 222 :: u 223 :: u 224 :: u 225 :: u 226 :: u 227 :: u 228 :: u 229 :: u 230 :: u 231 :: u 232 :: u 233 :: u 234 :: u 235 :: u 236 :: u 237 :: u 238 :: u 239 :: u 240 :: u 241 :: u 242 :: u 243 :: u 244 :: u 245 :: u 246 :: u 247 :: u 248 :: u 249 :: u 250 :: u 251 :: u 252 :: u 253 :: u 254 :: u 255 :: u 256 :: u 257 :: u 258 :: u 259 :: u 260 :: u 261 :: u 262 :: u 263 :: u 264 :: u 265 :: u 266 :: u 267 :: u 268 :: u 269 :: u 270 :: u 271 :: u 272 :: u 273 :: u 274 :: u 275 :: u 276 :: u 277 :: u 278 :: u 279 :: u 280 :: u 281 :: u 282 :: u 283 :: u 284 :: u 285 :: u 286 :: u 287 :: u 288 :: u 289 :: u 290 :: u 291 :: u 292 :: u 293 :: u 294 :: u 295 :: u 296 :: u 297 :: u 298 :: u 299 :: u 300 :: u 301 :: u 302 :: u 303 :: u 304 :: u 305 :: u 306 :: u 307 :: u 308 :: u 309 :: u 310 :: u 311 :: u 312 :: u 313 :: u 314 :: u 315 :: u 316 :: u 317 :: u 318 :: u 319 :: u 320 :: u 321 :: u 322 :: u 323 :: u 324 :: u 325 :: u 326 :: u 327 :: u 328 :: u 329 :: u 330 :: u 331 :: u 332 :: u 333 :: u 334 :: u 335 :: u 336 :: u 337 :: u 338 :: u 339 :: u 340 :: u 341 :: u 342 :: u 343 :: u 344 :: u 345 :: u 346 :: u 347 :: u 348 :: u 349 :: u 350 :: u 351 :: u 352 :: u 353 :: u 354 :: u 355 :: u 356 :: u 357 :: u 358 :: u 359 :: u 360 :: u 361 :: u 362 :: u 363 :: u 364 :: u 365 :: u 366 :: u 367 :: u 368 :: u 369 :: u 370 :: u 371 :: u 372 :: u 373 :: u 374 :: u 375 :: u 376 :: u 377 :: u 378 :: u 379 :: u 380 :: u 381 :: u 382 :: u 383 :: u 384 :: u 385 :: u 386 :: u 387 :: u 388 :: u 389 :: u 390 :: u 391 :: u 392 :: u 393 :: u 394 :: u 395 :: u 396 :: u 397 :: u 398 :: u 399 :: u 400 :: u 401 :: u 402 :: [] := rfl
set_option maxRecDepth 100000 in
theorem FrAp.form {v0 v1 v4 v5 v7 : Value} {a : Act} (H : FrAp v0 v1 v4 v5 v7 a) : ∃ u : Nat → Value, a = { tmps := List.toArray (v0 :: v1 :: u 2 :: u 3 :: v4 :: v5 :: u 6 :: v7 :: u 8 :: u 9 :: u 10 :: u 11 :: u 12 :: u 13 :: u 14 :: u 15 :: u 16 :: u 17 :: u 18 :: u 19 :: u 20 :: u 21 :: u 22 :: u 23 :: u 24 :: u 25 :: u 26 :: u 27 :: u 28 :: u 29 :: u 30 :: u 31 :: u 32 :: u 33 :: u 34 :: u 35 :: u 36 :: u 37 :: u 38 :: u 39 :: u 40 :: u 41 :: u 42 :: u 43 :: u 44 :: u 45 :: u 46 :: u 47 :: u 48 :: u 49 :: u 50 :: u 51 :: u 52 :: u 53 :: u 54 :: u 55 :: u 56 :: u 57 :: u 58 :: u 59 :: u 60 :: u 61 :: u 62 :: u 63 :: u 64 :: u 65 :: u 66 :: u 67 :: u 68 :: u 69 :: u 70 :: u 71 :: u 72 :: u 73 :: u 74 :: u 75 :: u 76 :: u 77 :: u 78 :: u 79 :: u 80 :: u 81 :: u 82 :: u 83 :: u 84 :: u 85 :: u 86 :: u 87 :: u 88 :: u 89 :: u 90 :: u 91 :: u 92 :: u 93 :: u 94 :: u 95 :: u 96 :: u 97 :: u 98 :: u 99 :: u 100 :: u 101 :: u 102 :: u 103 :: u 104 :: u 105 :: u 106 :: u 107 :: u 108 :: u 109 :: u 110 :: u 111 :: u 112 :: u 113 :: u 114 :: u 115 :: u 116 :: u 117 :: u 118 :: u 119 :: u 120 :: u 121 :: u 122 :: u 123 :: u 124 :: u 125 :: u 126 :: u 127 :: u 128 :: u 129 :: u 130 :: u 131 :: u 132 :: u 133 :: u 134 :: u 135 :: u 136 :: u 137 :: u 138 :: u 139 :: u 140 :: u 141 :: u 142 :: u 143 :: u 144 :: u 145 :: u 146 :: u 147 :: u 148 :: u 149 :: u 150 :: u 151 :: u 152 :: u 153 :: u 154 :: u 155 :: u 156 :: u 157 :: u 158 :: u 159 :: u 160 :: u 161 :: u 162 :: u 163 :: u 164 :: u 165 :: u 166 :: u 167 :: u 168 :: u 169 :: u 170 :: u 171 :: u 172 :: u 173 :: u 174 :: u 175 :: u 176 :: u 177 :: u 178 :: u 179 :: u 180 :: u 181 :: u 182 :: u 183 :: u 184 :: u 185 :: u 186 :: u 187 :: u 188 :: u 189 :: u 190 :: u 191 :: u 192 :: u 193 :: u 194 :: u 195 :: u 196 :: u 197 :: u 198 :: u 199 :: u 200 :: u 201 :: u 202 :: u 203 :: u 204 :: u 205 :: u 206 :: u 207 :: u 208 :: u 209 :: u 210 :: u 211 :: u 212 :: u 213 :: u 214 :: u 215 :: u 216 :: u 217 :: u 218 :: u 219 :: u 220 :: u 221 :: u 222 :: u 223 :: u 224 :: u 225 :: u 226 :: u 227 :: u 228 :: u 229 :: u 230 :: u 231 :: u 232 :: u 233 :: u 234 :: u 235 :: u 236 :: u 237 :: u 238 :: u 239 :: u 240 :: u 241 :: u 242 :: u 243 :: u 244 :: u 245 :: u 246 :: u 247 :: u 248 :: u 249 :: u 250 :: u 251 :: u 252 :: u 253 :: u 254 :: u 255 :: u 256 :: u 257 :: u 258 :: u 259 :: u 260 :: u 261 :: u 262 :: u 263 :: u 264 :: u 265 :: u 266 :: u 267 :: u 268 :: u 269 :: u 270 :: u 271 :: u 272 :: u 273 :: u 274 :: u 275 :: u 276 :: u 277 :: u 278 :: u 279 :: u 280 :: u 281 :: u 282 :: u 283 :: u 284 :: u 285 :: u 286 :: u 287 :: u 288 :: u 289 :: u 290 :: u 291 :: u 292 :: u 293 :: u 294 :: u 295 :: u 296 :: u 297 :: u 298 :: u 299 :: u 300 :: u 301 :: u 302 :: u 303 :: u 304 :: u 305 :: u 306 :: u 307 :: u 308 :: u 309 :: u 310 :: u 311 :: u 312 :: u 313 :: u 314 :: u 315 :: u 316 :: u 317 :: u 318 :: u 319 :: u 320 :: u 321 :: u 322 :: u 323 :: u 324 :: u 325 :: u 326 :: u 327 :: u 328 :: u 329 :: u 330 :: u 331 :: u 332 :: u 333 :: u 334 :: u 335 :: u 336 :: u 337 :: u 338 :: u 339 :: u 340 :: u 341 :: u 342 :: u 343 :: u 344 :: u 345 :: u 346 :: u 347 :: u 348 :: u 349 :: u 350 :: u 351 :: u 352 :: u 353 :: u 354 :: u 355 :: u 356 :: u 357 :: u 358 :: u 359 :: u 360 :: u 361 :: u 362 :: u 363 :: u 364 :: u 365 :: u 366 :: u 367 :: u 368 :: u 369 :: u 370 :: u 371 :: u 372 :: u 373 :: u 374 :: u 375 :: u 376 :: u 377 :: u 378 :: u 379 :: u 380 :: u 381 :: u 382 :: u 383 :: u 384 :: u 385 :: u 386 :: u 387 :: u 388 :: u 389 :: u 390 :: u 391 :: u 392 :: u 393 :: u 394 :: u 395 :: u 396 :: u 397 :: u 398 :: u 399 :: u 400 :: u 401 :: u 402 :: []), defers := [] } := by
  obtain ⟨tmps, defers⟩ := a
  obtain ⟨hz, h0, h1, h4, h5, h7, hd⟩ := H
  simp only at hz h0 h1 h4 h5 h7 hd
  subst hd
  refine ⟨fun i => tmps.getD i undef, ?_⟩
  congr 1
  apply Array.ext'
  have e : tmps.toList = (List.range 403).map (fun i => tmps.getD i undef) := by
    apply List.ext_getElem
    · simpa using hz
    · intro i a1 a2
      simp at a1
      simp [Array.getD, a1]
  rw [e]
  have g0 : tmps.getD 0 undef = v0 := by simp [Array.getD_eq_getD_getElem?, h0]
  have g1 : tmps.getD 1 undef = v1 := by simp [Array.getD_eq_getD_getElem?, h1]
  have g4 : tmps.getD 4 undef = v4 := by simp [Array.getD_eq_getD_getElem?, h4]
  have g5 : tmps.getD 5 undef = v5 := by simp [Array.getD_eq_getD_getElem?, h5]
  have g7 : tmps.getD 7 undef = v7 := by simp [Array.getD_eq_getD_getElem?, h7]
  rw [← g0, ← g1, ← g4, ← g5, ← g7]
  exact range403 (fun i => tmps.getD i undef)
structure FrAq (v0 v4 v5 v7 v8 v9 v10 v11 : Value) (a : Act) : Prop where
  size : a.tmps.size = 403
  t0 : a.tmps[0]? = some v0
  t4 : a.tmps[4]? = some v4
  t5 : a.tmps[5]? = some v5
  t7 : a.tmps[7]? = some v7
  t8 : a.tmps[8]? = some v8
  t9 : a.tmps[9]? = some v9
  t10 : a.tmps[10]? = some v10
  t11 : a.tmps[11]? = some v11
  df : a.defers = []
set_option maxRecDepth 100000 in
theorem FrAq.form {v0 v4 v5 v7 v8 v9 v10 v11 : Value} {a : Act} (H : FrAq v0 v4 v5 v7 v8 v9 v10 v11 a) : ∃ u : Nat → Value, a = { tmps := List.toArray (v0 :: u 1 :: u 2 :: u 3 :: v4 :: v5 :: u 6 :: v7 :: v8 :: v9 :: v10 :: v11 :: u 12 :: u 13 :: u 14 :: u 15 :: u 16 :: u 17 :: u 18 :: u 19 :: u 20 :: u 21 :: u 22 :: u 23 :: u 24 :: u 25 :: u 26 :: u 27 :: u 28 :: u 29 :: u 30 :: u 31 :: u 32 :: u 33 :: u 34 :: u 35 :: u 36 :: u 37 :: u 38 :: u 39 :: u 40 :: u 41 :: u 42 :: u 43 :: u 44 :: u 45 :: u 46 :: u 47 :: u 48 :: u 49 :: u 50 :: u 51 :: u 52 :: u 53 :: u 54 :: u 55 :: u 56 :: u 57 :: u 58 :: u 59 :: u 60 :: u 61 :: u 62 :: u 63 :: u 64 :: u 65 :: u 66 :: u 67 :: u 68 :: u 69 :: u 70 :: u 71 :: u 72 :: u 73 :: u 74 :: u 75 :: u 76 :: u 77 :: u 78 :: u 79 :: u 80 :: u 81 :: u 82 :: u 83 :: u 84 :: u 85 :: u 86 :: u 87 :: u 88 :: u 89 :: u 90 :: u 91 :: u 92 :: u 93 :: u 94 :: u 95 :: u 96 :: u 97 :: u 98 :: u 99 :: u 100 :: u 101 :: u 102 :: u 103 :: u 104 :: u 105 :: u 106 :: u 107 :: u 108 :: u 109 :: u 110 :: u 111 :: u 112 :: u 113 :: u 114 :: u 115 :: u 116 :: u 117 :: u 118 :: u 119 :: u 120 :: u 121 :: u 122 :: u 123 :: u 124 :: u 125 :: u 126 :: u 127 :: u 128 :: u 129 :: u 130 :: u 131 :: u 132 :: u 133 :: u 134 :: u 135 :: u 136 :: u 137 :: u 138 :: u 139 :: u 140 :: u 141 :: u 142 :: u 143 :: u 144 :: u 145 :: u 146 :: u 147 :: u 148 :: u 149 :: u 150 :: u 151 :: u 152 :: u 153 :: u 154 :: u 155 :: u 156 :: u 157 :: u 158 :: u 159 :: u 160 :: u 161 :: u 162 :: u 163 :: u 164 :: u 165 :: u 166 :: u 167 :: u 168 :: u 169 :: u 170 :: u 171 :: u 172 :: u 173 :: u 174 :: u 175 :: u 176 :: u 177 :: u 178 :: u 179 :: u 180 :: u 181 :: u 182 :: u 183 :: u 184 :: u 185 :: u 186 :: u 187 :: u 188 :: u 189 :: u 190 :: u 191 :: u 192 :: u 193 :: u 194 :: u 195 :: u 196 :: u 197 :: u 198 :: u 199 :: u 200 :: u 201 :: u 202 :: u 203 :: u 204 :: u 205 :: u 206 :: u 207 :: u 208 :: u 209 :: u 210 :: u 211 :: u 212 :: u 213 :: u 214 :: u 215 :: u 216 :: u 217 :: u 218 :: u 219 :: u 220 :: u 221 :: u 222 :: u 223 :: u 224 :: u 225 :: u 226 :: u 227 :: u 228 :: u 229 :: u 230 :: u 231 :: u 232 :: u 233 :: u 234 :: u 235 :: u 236 :: u 237 :: u 238 :: u 239 :: u 240 :: u 241 :: u 242 :: u 243 :: u 244 :: u 245 :: u 246 :: u 247 :: u 248 :: u 249 :: u 250 :: u 251 :: u 252 :: u 253 :: u 254 :: u 255 :: u 256 :: u 257 :: u 258 :: u 259 :: u 260 :: u 261 :: u 262 :: u 263 :: u 264 :: u 265 :: u 266 :: u 267 :: u 268 :: u 269 :: u 270 :: u 271 :: u 272 :: u 273 :: u 274 :: u 275 :: u 276 :: u 277 :: u 278 :: u 279 :: u 280 :: u 281 :: u 282 :: u 283 :: u 284 :: u 285 :: u 286 :: u 287 :: u 288 :: u 289 :: u 290 :: u 291 :: u 292 :: u 293 :: u 294 :: u 295 :: u 296 :: u 297 :: u 298 :: u 299 :: u 300 :: u 301 :: u 302 :: u 303 :: u 304 :: u 305 :: u 306 :: u 307 :: u 308 :: u 309 :: u 310 :: u 311 :: u 312 :: u 313 :: u 314 :: u 315 :: u 316 :: u 317 :: u 318 :: u 319 :: u 320 :: u 321 :: u 322 :: u 323 :: u 324 :: u 325 :: u 326 :: u 327 :: u 328 :: u 329 :: u 330 :: u 331 :: u 332 :: u 333 :: u 334 :: u 335 :: u 336 :: u 337 :: u 338 :: u 339 :: u 340 :: u 341 :: u 342 :: u 343 :: u 344 :: u 345 :: u 346 :: u 347 :: u 348 :: u 349 :: u 350 :: u 351 :: u 352 :: u 353 :: u 354 :: u 355 :: u 356 :: u 357 :: u 358 :: u 359 :: u 360 :: u 361 :: u 362 :: u 363 :: u 364 :: u 365 :: u 366 :: u 367 :: u 368 :: u 369 :: u 370 :: u 371 :: u 372 :: u 373 :: u 374 :: u 375 :: u 376 :: u 377 :: u 378 :: u 379 :: u 380 :: u 381 :: u 382 :: u 383 :: u 384 :: u 385 :: u 386 :: u 387 :: u 388 :: u 389 :: u 390 :: u 391 :: u 392 :: u 393 :: u 394 :: u 395 :: u 396 :: u 397 :: u 398 :: u 399 :: u 400 :: u 401 :: u 402 :: []), defers := [] } := by
  obtain ⟨tmps, defers⟩ := a
  obtain ⟨hz, h0, h4, h5, h7, h8, h9, h10, h11, hd⟩ := H
  simp only at hz h0 h4 h5 h7 h8 h9 h10 h11 hd
  subst hd
  refine ⟨fun i => tmps.getD i undef, ?_⟩
  congr 1
  apply Array.ext'
  have e : tmps.toList = (List.range 403).map (fun i => tmps.getD i undef) := by
    apply List.ext_getElem
    · simpa using hz
    · intro i a1 a2
      simp at a1
      simp [Array.getD, a1]
  rw [e]
  have g0 : tmps.getD 0 undef = v0 := by simp [Array.getD_eq_getD_getElem?, h0]
  have g4 : tmps.getD 4 undef = v4 := by simp [Array.getD_eq_getD_getElem?, h4]
  have g5 : tmps.getD 5 undef = v5 := by simp [Array.getD_eq_getD_getElem?, h5]
  have g7 : tmps.getD 7 undef = v7 := by simp [Array.getD_eq_getD_getElem?, h7]
  have g8 : tmps.getD 8 undef = v8 := by simp [Array.getD_eq_getD_getElem?, h8]
  have g9 : tmps.getD 9 undef = v9 := by simp [Array.getD_eq_getD_getElem?, h9]
  have g10 : tmps.getD 10 undef = v10 := by simp [Array.getD_eq_getD_getElem?, h10]
  have g11 : tmps.getD 11 undef = v11 := by simp [Array.getD_eq_getD_getElem?, h11]
  rw [← g0, ← g4, ← g5, ← g7, ← g8, ← g9, ← g10, ← g11]
  exact range403 (fun i => tmps.getD i undef)
/-- three values side by side -/
def arC (l : List Vl) : Array Value := #[.int .i64 (l.getD 0 nilV).t, .int .u64 (l.getD 0 nilV).n, sv (l.getD 0 nilV).s, .int .i64 (l.getD 1 nilV).t, .int .u64 (l.getD 1 nilV).n, sv (l.getD 1 nilV).s, .int .i64 (l.getD 2 nilV).t, .int .u64 (l.getD 2 nilV).n, sv (l.getD 2 nilV).s]
def vlC (v : Vl) : Array Value := #[.int .i64 v.t, .int .u64 v.n, sv v.s]
/-- behind the arguments and the function -/
structure ApB (w : World) (A : RnP) (N : List Nd) (root : Nat) (W : World) (A1 : RnP) (m : MD) (bA bF xb : Nat) (fn : Vl) (args : List Vl) : Prop where
  B : RB w A N root W A1 m
  LA : LcB W A1 bA (arC args) 317
  LF : LcB W A1 bF (vlC fn) 68
  x : ∃ x, A1.X[m.cur]? = some x ∧ x.b = xb
/-- so many arguments are there -/
def ApI (w : World) (A : RnP) (N : List Nd) (root : Nat) (M1 : MD) (bA xb x : Nat) (k : Nat) (v6 : Value) (wr : World) : Prop :=
  ∃ (A3 : RnP) (j : Nat), v6 = .int .i64 ((k : Int) - 1) ∧ j + k = x ∧ RB w A N root wr A3 (M1.pops j) ∧ LcB wr A3 bA (arC (List.replicate k nilV ++ M1.th.vals.drop (M1.th.vals.length - j))) 317 ∧ ∃ y, A3.X[M1.cur]? = some y ∧ y.b = xb
section
variable {w W W1 : World} {A A1 A2 : RnP} {N : List Nd} {root : Nat} {M : MD}
theorem pops_pops (hc : M.cur < M.ths.length) (a b : Nat) : (M.pops a).pops b = M.pops (a + b) := by
  unfold MD.pops
  rw [upT_upT hc]
  congr 1
  funext t
  simp [List.take_take]
  omega
theorem pops_zero (hc : M.cur < M.ths.length) : M.pops 0 = M := by
  have h := th_cur hc
  unfold MD.pops MD.upT
  dsimp only
  rw [Nat.sub_zero, List.take_length]
  have e : M.ths.set M.cur M.th = M.ths := by
    apply List.ext_getElem?
    intro i
    by_cases z : M.cur = i
    · subst z
      rw [List.getElem?_set_self hc, h]
    · rw [List.getElem?_set_ne z]
  show ({ M with ths := M.ths.set M.cur M.th } : MD) = M
  rw [e]
theorem top_pops (hc : M.cur < M.ths.length) (a : Nat) (h : a < M.th.vals.length) : (M.pops a).topM 0 = M.th.vals.getD (M.th.vals.length - 1 - a) nilV := by
  unfold MD.topM
  rw [th_pops hc]
  have e : (M.th.vals.take (M.th.vals.length - a)).length = M.th.vals.length - a := by rw [List.length_take]; omega
  show (M.th.vals.take (M.th.vals.length - a)).getD ((M.th.vals.take (M.th.vals.length - a)).length - 1 - 0) nilV = _
  rw [e, List.getD_eq_getElem?_getD, List.getElem?_take_of_lt (by omega), List.getD_eq_getElem?_getD]
  congr 2
  omega
theorem ar_step {l : List Vl} {k j : Nat} (h : j + (k + 1) ≤ l.length) : (List.replicate (k + 1) nilV ++ l.drop (l.length - j)).set k (l.getD (l.length - 1 - j) nilV) = List.replicate k nilV ++ l.drop (l.length - (j + 1)) := by
  have e : l.drop (l.length - (j + 1)) = l.getD (l.length - 1 - j) nilV :: l.drop (l.length - j) := by
    rw [show l.length - (j + 1) = l.length - 1 - j by omega, List.drop_eq_getElem_cons (by omega), List.getD_eq_getElem?_getD, List.getElem?_eq_getElem (by omega), show l.length - 1 - j + 1 = l.length - j by omega]
    rfl
  rw [e]
  have e2 : List.replicate (k + 1) nilV = List.replicate k nilV ++ [nilV] := by rw [List.replicate_succ']
  rw [e2, List.append_assoc, List.set_append_right _ _ (by simp)]
  simp
set_option maxRecDepth 100000
set_option maxHeartbeats 2000000
theorem ap_eq : Tryz.f126.body = some (Code.seq (cL (Tryz.f126.body.getD .skip)) (Code.seq (cL (cR (Tryz.f126.body.getD .skip))) (Code.seq (cL (cR (cR (Tryz.f126.body.getD .skip)))) (Code.seq (cL (cR (cR (cR (Tryz.f126.body.getD .skip))))) (Code.seq (cL (cR (cR (cR (cR (Tryz.f126.body.getD .skip)))))) (apT Tryz.f126.body)))))) := by kernel_rfl
/-- no fuel: the run's end -/
theorem apply_no (B : RB w A N root W A1 M) (h0 : M.fuel = 0) {xv : Value} : Calls Tryz.prog 126 #[.pointer (some ⟨A.br, 0, none⟩), xv] W (PQm w A N root (M.finish 9 [45])) := by
  have C := mburn_no B.r h0
  rw [B.s.br] at C
  have HC := hid C
  have HB := hid B
  clear C B h0
  go_enter Tryz.func126, Tryz.ntmps126
  go_wp2_with fail
  refine HC.out.mono ?_
  rintro e w' ⟨rfl, A', q1, q2⟩
  have FIN : Hid (PQm w A N root (M.finish 9 [45]) (.returned (.tuple #[])) w') := ⟨rfl, A', q1, HB.out.s.trans q2⟩
  clear q1 q2
  go_wp2
  refine bodyPost_ret (results_none rfl _ _ _) rfl ?_
  exact FIN.out
/-- the beginning -/
theorem apply_head (B : RB w A N root W A1 M) {f : Nat} (hf : M.fuel = f + 1) (hfm : f < 9223372036854775807) {x : Nat} (hx3 : x ≤ 3) (hxv : x + 1 ≤ M.th.vals.length) (hvl : M.th.vals.length ≤ 999990) {R : MD}
    (hT : ∀ (W1 : World) (A1 : RnP) (bA bF xb : Nat) (a : Act), ApB w A N root W1 A1 (({ M with fuel := f } : MD).pops (x + 1)) bA bF xb (M.th.vals.getD (M.th.vals.length - x - 1) nilV) (M.th.vals.drop (M.th.vals.length - x)) → FrAp (.pointer (some ⟨A.br, 0, none⟩)) (.int .i64 x) (.pointer (some ⟨xb, 0, none⟩)) (.pointer (some ⟨bA, 0, none⟩)) (.pointer (some ⟨bF, 0, none⟩)) a → (apT Tryz.f126.body).wp Tryz.prog (bodyPost Tryz.prog Tryz.f126 (PQm w A N root R)) a W1) :
    Calls Tryz.prog 126 #[.pointer (some ⟨A.br, 0, none⟩), .int .i64 x] W (PQm w A N root R) := by
  obtain ⟨TL, HTL⟩ : ∃ TL, Hid (apT Tryz.f126.body = TL) := ⟨_, rfl⟩
  have EQ := ap_eq
  rw [HTL.out] at EQ hT
  obtain ⟨Q, HQ⟩ : ∃ Q : Ending → World → Prop, Hid (PQm w A N root R = Q) := ⟨_, rfl⟩
  rw [HQ.out] at hT ⊢
  refine calls_of_wp Tryz.func126 EQ ?_
  have HT := hid hT
  have C := mburn_yes B.r hf hfm
  rw [B.s.br] at C
  have HC := hid C
  have HB := hid B
  clear C B hT EQ HTL hf hfm
  simp only [Tryz.ntmps126, List.size_toArray, List.length_cons, List.length_nil, Nat.reduceAdd, Nat.reduceSub, Array.replicate_succ, Array.replicate_zero, List.push_toArray, List.append_toArray, List.nil_append, List.cons_append]
  simp only [cL, cR, Tryz.f126, Option.getD_some]
  go_wp2_with fail
  refine HC.out.mono ?_
  rintro e1 w1 ⟨rfl, A2, q1, q2⟩
  have B1 : RB w A N root w1 A2 { M with fuel := f } := ⟨q1, HB.out.s.trans q2, HB.out.c⟩
  obtain ⟨M1, HM1⟩ : ∃ M1, Hid (({ M with fuel := f } : MD) = M1) := ⟨_, rfl⟩
  have hth : M1.th = M.th := by rw [← HM1.out]; rfl
  rw [HM1.out] at B1 HT
  rw [← hth] at hxv hvl HT
  obtain ⟨gt, xx, hxx, htt, ⟨c5, c12, cg, l1, l2, l3, lc2, cl, t5⟩, O⟩ := B1.r.cur B1.c
  rw [B1.s.br] at c5 c12 l1
  have HB1 := hid B1
  have HXX := hid hxx
  obtain ⟨LT, HLT⟩ : ∃ LT : Nat, Hid (M1.ths.length = LT) := ⟨_, rfl⟩
  obtain ⟨cu, HCU⟩ : ∃ cu : Nat, Hid (M1.cur = cu) := ⟨_, rfl⟩
  rw [HLT.out] at c5 lc2 cl t5
  rw [HCU.out] at c12 cg cl
  have HCL := hid B1.c
  clear O q1 q2 B1 hxx htt hth HM1 HC HB
  go_wp2_with fail
  refine wp_region_tail 10 (by kernel_rfl) (by kernel_rfl) (fun _ _ _ _ _ h => h) ?_
  simp only [List.take_succ_cons, List.take_zero, List.drop_succ_cons, List.drop_zero]
  repeat go_big_quiet_step (fail)
  refine wpQuiet_nil ?_
  clear c5 c12 cg l1 l2 l3 lc2 cl t5
  go_wp2_with fail
  -- the loop
  have F2 : Fr (fun _ => False) w1 (w1.alloc (.cells (arC []) 317)).drew := ((Fr.refl _ _).alloc _).drew
  have LA0 : LcB (w1.alloc (.cells (arC []) 317)).drew A2 w1.heap.size (arC []) 317 := (LcB.new HB1.out.r.own _ _).fr ((Fr.refl _ _).drew)
  have HI0 : Hid (ApI w A N root M1 w1.heap.size xx.b x x (.int .i64 ((x : Int) - 1)) (w1.alloc (.cells (arC []) 317)).drew) := by
    refine ⟨A2, 0, rfl, by omega, by rw [pops_zero HCL.out]; exact HB1.out.fresh F2, ?_, xx, HXX.out, rfl⟩
    have e : arC (List.replicate x nilV ++ M1.th.vals.drop (M1.th.vals.length - 0)) = arC [] := by
      rw [Nat.sub_zero, List.drop_length, List.append_nil]
      have : x = 0 ∨ x = 1 ∨ x = 2 ∨ x = 3 := by omega
      rcases this with rfl | rfl | rfl | rfl <;> rfl
    rw [e]
    exact LA0
  have HI1 : Hid (ApI w A N root M1 w1.heap.size xx.b x x (.int .i64 ((x : Int) - 1)) (w1.drew.alloc (.cells #[.int .i64 0, .int .u64 0, sv [], .int .i64 0, .int .u64 0, sv [], .int .i64 0, .int .u64 0, sv []] 317))) := HI0.out
  have HX3 := hid hx3
  have HXV := hid hxv
  have HVL := hid hvl
  have HSZ : Hid (w.heap.size ≤ w1.heap.size) := HB1.out.s.s.fr.size
  clear F2 LA0 HI0 HB1 HXX hx3 hxv hvl
  go_loopg [6] x (fun k v6 wr => Hid (ApI w A N root M1 w1.heap.size xx.b x k v6 wr))
  case atStart => exact HI1
  case round =>
    obtain ⟨A3, j, rfl, hjk, B3, LA3, y, hy, hyb⟩ := hrel.out
    have hxv := HXV.out
    have hvl := HVL.out
    have hx3 := HX3.out
    have lv : (M1.pops j).th.vals.length = M1.th.vals.length - j := by rw [th_pops HCL.out]; show (M1.th.vals.take _).length = _; rw [List.length_take]; omega
    have C3 := B3.pop (by omega) (by omega)
    have htop := top_pops HCL.out j (by omega)
    rw [htop] at C3
    have hM3 : (M1.pops j).pops 1 = M1.pops (j + 1) := pops_pops HCL.out _ _
    rw [hM3] at C3
    obtain ⟨⟨vt, vn, vs⟩, HV⟩ : ∃ v, Hid (M1.th.vals.getD (M1.th.vals.length - 1 - j) nilV = v) := ⟨_, rfl⟩
    rw [HV.out] at C3
    have HC3 := hid C3
    have HLA := hid LA3
    have HY := hid hy
    have HYB := hid hyb
    clear C3 B3 LA3 hy hrel htop hM3 lv hyb
    cases gk with
    | zero =>
      have ej : j = x := by omega
      subst ej
      clear hxv hvl hx3
      go_wp2_with fail
      refine HC3.out.mono ?_
      rintro e3 w3 ⟨rfl, A4, B4, S4⟩
      have LA4 := HLA.out.st S4
      obtain ⟨y', hy', hyb'⟩ := S4.x _ _ HY.out
      have F5 : Fr (fun _ => False) w3 (w3.alloc (.cells #[.int .i64 vt, .int .u64 vn, sv vs] 68)) := (Fr.refl _ _).alloc _
      have AP : ApB w A N root (w3.alloc (.cells #[.int .i64 vt, .int .u64 vn, sv vs] 68)) A4 (M1.pops (j + 1)) w1.heap.size w3.heap.size xx.b (M1.th.vals.getD (M1.th.vals.length - j - 1) nilV) (M1.th.vals.drop (M1.th.vals.length - j)) := by
        refine ⟨B4.fresh F5, ?_, ?_, y', hy', hyb'.trans HYB.out⟩
        · have e : List.replicate 0 nilV ++ M1.th.vals.drop (M1.th.vals.length - j) = M1.th.vals.drop (M1.th.vals.length - j) := rfl
          rw [e] at LA4
          exact LA4.fr F5
        · rw [show M1.th.vals.length - j - 1 = M1.th.vals.length - 1 - j by omega, HV.out]
          exact LcB.new B4.r.own _ _
      have HAP := hid AP
      clear AP F5 LA4 hy' hyb' B4 S4 HY HYB HLA HC3
      go_wp2_with fail
      exact HT.out _ _ _ _ _ _ HAP.out ⟨by kernel_rfl, by kernel_rfl, by kernel_rfl, by kernel_rfl, by kernel_rfl, by kernel_rfl, rfl⟩
    | succ k =>
      have hk : k = 0 ∨ k = 1 ∨ k = 2 := by omega
      rcases hk with rfl | rfl | rfl
      · have e6 : ((1 : Nat) : Int) - 1 = 0 := by decide
        rw [e6]
        obtain ⟨vl, HVLS⟩ : ∃ vl, Hid (List.replicate (0 + 1) nilV ++ M1.th.vals.drop (M1.th.vals.length - j) = vl) := ⟨_, rfl⟩
        rw [HVLS.out] at HLA
        have HST : Hid (arC (vl.set 0 ⟨vt, vn, vs⟩) = arC (List.replicate 0 nilV ++ M1.th.vals.drop (M1.th.vals.length - (j + 1)))) := by
          show _ = _
          rw [← HVLS.out, ← HV.out, ar_step (by omega)]
        have hvl3 : 0 < vl.length := by rw [← HVLS.out]; simp
        clear HVLS hxv hvl hx3
        go_wp2_with fail
        refine HC3.out.mono ?_
        rintro e3 w3 ⟨rfl, A4, B4, S4⟩
        have LA4 := HLA.out.st S4
        obtain ⟨y', hy', hyb'⟩ := S4.x _ _ HY.out
        have z0 := LA4.h.cell 0
        have z1 := LA4.h.cell 1
        have z2 := LA4.h.cell 2
        have f0 := LA4.h.frozen 0
        have f1 := LA4.h.frozen 1
        have f2 := LA4.h.frozen 2
        have lz := LA4.h.lt
        simp only [arC, List.getElem?_toArray, List.getElem?_cons_succ, List.getElem?_cons_zero] at z0 z1 z2
        have HI3 : Hid (ApI w A N root M1 w1.heap.size xx.b x 0 (.int .i64 ((0 : Nat) - 1 : Int)) (((w3.setCell ⟨w1.heap.size, 0, none⟩ (.int .i64 vt)).setCell ⟨w1.heap.size, 1, none⟩ (.int .u64 vn)).setCell ⟨w1.heap.size, 2, none⟩ (sv vs))) := by
          have zB := LA4.z
          refine ⟨A4, j + 1, rfl, by omega, ⟨((B4.r.setL zB _ _).setL zB _ _).setL zB _ _, ?_, B4.c⟩, ⟨?_, zB⟩, y', hy', hyb'.trans HYB.out⟩
          · exact ((B4.s.setL HSZ.out _ _).setL HSZ.out _ _).setL HSZ.out _ _
          · rw [← HST.out]
            have h1 := ((LA4.h.put 0 (.int .i64 vt)).put 1 (.int .u64 vn)).put 2 (sv vs)
            refine cast ?_ h1
            congr 1
            have hs : ∀ q, q ≠ 0 → (vl.set 0 ⟨vt, vn, vs⟩).getD q nilV = vl.getD q nilV := fun q hq => by rw [List.getD_eq_getElem?_getD, List.getElem?_set_ne (fun z => hq z.symm), List.getD_eq_getElem?_getD]
            have hse : (vl.set 0 ⟨vt, vn, vs⟩).getD 0 nilV = ⟨vt, vn, vs⟩ := by rw [List.getD_eq_getElem?_getD, List.getElem?_set_self hvl3]; rfl
            unfold arC
            rw [hse, hs 1 (by decide), hs 2 (by decide)]
            rfl
        clear LA4 B4 S4 hy' hyb' HY HYB HLA HC3 HST HV
        go_wp2_with fail
        go_roundg 0
        case measure => omega
        case rel => exact HI3
      · have e6 : ((2 : Nat) : Int) - 1 = 1 := by decide
        rw [e6]
        obtain ⟨vl, HVLS⟩ : ∃ vl, Hid (List.replicate (1 + 1) nilV ++ M1.th.vals.drop (M1.th.vals.length - j) = vl) := ⟨_, rfl⟩
        rw [HVLS.out] at HLA
        have HST : Hid (arC (vl.set 1 ⟨vt, vn, vs⟩) = arC (List.replicate 1 nilV ++ M1.th.vals.drop (M1.th.vals.length - (j + 1)))) := by
          show _ = _
          rw [← HVLS.out, ← HV.out, ar_step (by omega)]
        have hvl3 : 1 < vl.length := by rw [← HVLS.out]; simp
        clear HVLS hxv hvl hx3
        go_wp2_with fail
        refine HC3.out.mono ?_
        rintro e3 w3 ⟨rfl, A4, B4, S4⟩
        have LA4 := HLA.out.st S4
        obtain ⟨y', hy', hyb'⟩ := S4.x _ _ HY.out
        have z0 := LA4.h.cell 3
        have z1 := LA4.h.cell 4
        have z2 := LA4.h.cell 5
        have f0 := LA4.h.frozen 3
        have f1 := LA4.h.frozen 4
        have f2 := LA4.h.frozen 5
        have lz := LA4.h.lt
        simp only [arC, List.getElem?_toArray, List.getElem?_cons_succ, List.getElem?_cons_zero] at z0 z1 z2
        have HI3 : Hid (ApI w A N root M1 w1.heap.size xx.b x 1 (.int .i64 ((1 : Nat) - 1 : Int)) (((w3.setCell ⟨w1.heap.size, 3, none⟩ (.int .i64 vt)).setCell ⟨w1.heap.size, 4, none⟩ (.int .u64 vn)).setCell ⟨w1.heap.size, 5, none⟩ (sv vs))) := by
          have zB := LA4.z
          refine ⟨A4, j + 1, rfl, by omega, ⟨((B4.r.setL zB _ _).setL zB _ _).setL zB _ _, ?_, B4.c⟩, ⟨?_, zB⟩, y', hy', hyb'.trans HYB.out⟩
          · exact ((B4.s.setL HSZ.out _ _).setL HSZ.out _ _).setL HSZ.out _ _
          · rw [← HST.out]
            have h1 := ((LA4.h.put 3 (.int .i64 vt)).put 4 (.int .u64 vn)).put 5 (sv vs)
            refine cast ?_ h1
            congr 1
            have hs : ∀ q, q ≠ 1 → (vl.set 1 ⟨vt, vn, vs⟩).getD q nilV = vl.getD q nilV := fun q hq => by rw [List.getD_eq_getElem?_getD, List.getElem?_set_ne (fun z => hq z.symm), List.getD_eq_getElem?_getD]
            have hse : (vl.set 1 ⟨vt, vn, vs⟩).getD 1 nilV = ⟨vt, vn, vs⟩ := by rw [List.getD_eq_getElem?_getD, List.getElem?_set_self hvl3]; rfl
            unfold arC
            rw [hse, hs 0 (by decide), hs 2 (by decide)]
            rfl
        clear LA4 B4 S4 hy' hyb' HY HYB HLA HC3 HST HV
        go_wp2_with fail
        go_roundg 1
        case measure => omega
        case rel => exact HI3
      · have e6 : ((3 : Nat) : Int) - 1 = 2 := by decide
        rw [e6]
        obtain ⟨vl, HVLS⟩ : ∃ vl, Hid (List.replicate (2 + 1) nilV ++ M1.th.vals.drop (M1.th.vals.length - j) = vl) := ⟨_, rfl⟩
        rw [HVLS.out] at HLA
        have HST : Hid (arC (vl.set 2 ⟨vt, vn, vs⟩) = arC (List.replicate 2 nilV ++ M1.th.vals.drop (M1.th.vals.length - (j + 1)))) := by
          show _ = _
          rw [← HVLS.out, ← HV.out, ar_step (by omega)]
        have hvl3 : 2 < vl.length := by rw [← HVLS.out]; simp
        clear HVLS hxv hvl hx3
        go_wp2_with fail
        refine HC3.out.mono ?_
        rintro e3 w3 ⟨rfl, A4, B4, S4⟩
        have LA4 := HLA.out.st S4
        obtain ⟨y', hy', hyb'⟩ := S4.x _ _ HY.out
        have z0 := LA4.h.cell 6
        have z1 := LA4.h.cell 7
        have z2 := LA4.h.cell 8
        have f0 := LA4.h.frozen 6
        have f1 := LA4.h.frozen 7
        have f2 := LA4.h.frozen 8
        have lz := LA4.h.lt
        simp only [arC, List.getElem?_toArray, List.getElem?_cons_succ, List.getElem?_cons_zero] at z0 z1 z2
        have HI3 : Hid (ApI w A N root M1 w1.heap.size xx.b x 2 (.int .i64 ((2 : Nat) - 1 : Int)) (((w3.setCell ⟨w1.heap.size, 6, none⟩ (.int .i64 vt)).setCell ⟨w1.heap.size, 7, none⟩ (.int .u64 vn)).setCell ⟨w1.heap.size, 8, none⟩ (sv vs))) := by
          have zB := LA4.z
          refine ⟨A4, j + 1, rfl, by omega, ⟨((B4.r.setL zB _ _).setL zB _ _).setL zB _ _, ?_, B4.c⟩, ⟨?_, zB⟩, y', hy', hyb'.trans HYB.out⟩
          · exact ((B4.s.setL HSZ.out _ _).setL HSZ.out _ _).setL HSZ.out _ _
          · rw [← HST.out]
            have h1 := ((LA4.h.put 6 (.int .i64 vt)).put 7 (.int .u64 vn)).put 8 (sv vs)
            refine cast ?_ h1
            congr 1
            have hs : ∀ q, q ≠ 2 → (vl.set 2 ⟨vt, vn, vs⟩).getD q nilV = vl.getD q nilV := fun q hq => by rw [List.getD_eq_getElem?_getD, List.getElem?_set_ne (fun z => hq z.symm), List.getD_eq_getElem?_getD]
            have hse : (vl.set 2 ⟨vt, vn, vs⟩).getD 2 nilV = ⟨vt, vn, vs⟩ := by rw [List.getD_eq_getElem?_getD, List.getElem?_set_self hvl3]; rfl
            unfold arC
            rw [hse, hs 0 (by decide), hs 1 (by decide)]
            rfl
        clear LA4 B4 S4 hy' hyb' HY HYB HLA HC3 HST HV
        go_wp2_with fail
        go_roundg 2
        case measure => omega
        case rel => exact HI3
end
end Go.Proofs.Qxb6500574aGreatDoor