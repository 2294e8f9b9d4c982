/-
  THE WALKS of compm: step: the walk through a table.
-/
import Derived.Test.Qxb6500574aGreatDoorZD15
namespace Go.Proofs.Qxb6500574aGreatDoor
open Go Go.RowKit
set_option linter.unusedVariables false
set_option linter.unusedSimpArgs false
structure FrZt (v0 v2 v3 v4 v26 v27 v28 : Value) (a : Act) : Prop where
  size : a.tmps.size = 820
  t0 : a.tmps[0]? = some v0
  t2 : a.tmps[2]? = some v2
  t3 : a.tmps[3]? = some v3
  t4 : a.tmps[4]? = some v4
  t26 : a.tmps[26]? = some v26
  t27 : a.tmps[27]? = some v27
  t28 : a.tmps[28]? = some v28
  df : a.defers = []
set_option maxRecDepth 100000 in
theorem FrZt.form {v0 v2 v3 v4 v26 v27 v28 : Value} {a : Act} (H : FrZt v0 v2 v3 v4 v26 v27 v28 a) : ∃ u : Nat → Value, a = { tmps := List.toArray (v0 :: u 1 :: v2 :: v3 :: v4 :: u 5 :: u 6 :: u 7 :: u 8 :: u 9 :: u 10 :: u 11 :: u 12 :: u 13 :: u 14 :: u 15 :: u 16 :: u 17 :: u 18 :: u 19 :: u 20 :: u 21 :: u 22 :: u 23 :: u 24 :: u 25 :: v26 :: v27 :: v28 :: u 29 :: u 30 :: u 31 :: u 32 :: u 33 :: u 34 :: u 35 :: u 36 :: u 37 :: u 38 :: u 39 :: u 40 :: u 41 :: u 42 :: u 43 :: u 44 :: u 45 :: u 46 :: u 47 :: u 48 :: u 49 :: u 50 :: u 51 :: u 52 :: u 53 :: u 54 :: u 55 :: u 56 :: u 57 :: u 58 :: u 59 :: u 60 :: u 61 :: u 62 :: u 63 :: u 64 :: u 65 :: u 66 :: u 67 :: u 68 :: u 69 :: u 70 :: u 71 :: u 72 :: u 73 :: u 74 :: u 75 :: u 76 :: u 77 :: u 78 :: u 79 :: u 80 :: u 81 :: u 82 :: u 83 :: u 84 :: u 85 :: u 86 :: u 87 :: u 88 :: u 89 :: u 90 :: u 91 :: u 92 :: u 93 :: u 94 :: u 95 :: u 96 :: u 97 :: u 98 :: u 99 :: u 100 :: u 101 :: u 102 :: u 103 :: u 104 :: u 105 :: u 106 :: u 107 :: u 108 :: u 109 :: u 110 :: u 111 :: u 112 :: u 113 :: u 114 :: u 115 :: u 116 :: u 117 :: u 118 :: u 119 :: u 120 :: u 121 :: u 122 :: u 123 :: u 124 :: u 125 :: u 126 :: u 127 :: u 128 :: u 129 :: u 130 :: u 131 :: u 132 :: u 133 :: u 134 :: u 135 :: u 136 :: u 137 :: u 138 :: u 139 :: u 140 :: u 141 :: u 142 :: u 143 :: u 144 :: u 145 :: u 146 :: u 147 :: u 148 :: u 149 :: u 150 :: u 151 :: u 152 :: u 153 :: u 154 :: u 155 :: u 156 :: u 157 :: u 158 :: u 159 :: u 160 :: u 161 :: u 162 :: u 163 :: u 164 :: u 165 :: u 166 :: u 167 :: u 168 :: u 169 :: u 170 :: u 171 :: u 172 :: u 173 :: u 174 :: u 175 :: u 176 :: u 177 :: u 178 :: u 179 :: u 180 :: u 181 :: u 182 :: u 183 :: u 184 :: u 185 :: u 186 :: u 187 :: u 188 :: u 189 :: u 190 :: u 191 :: u 192 :: u 193 :: u 194 :: u 195 :: u 196 :: u 197 :: u 198 :: u 199 :: u 200 :: u 201 :: u 202 :: u 203 :: u 204 :: u 205 :: u 206 :: u 207 :: u 208 :: u 209 :: u 210 :: u 211 :: u 212 :: u 213 :: u 214 :: u 215 :: u 216 :: u 217 :: u 218 :: u 219 :: u 220 :: u 221 :: u 222 :: u 223 :: u 224 :: u 225 :: u 226 :: u 227 :: u 228 :: u 229 :: u 230 :: u 231 :: u 232 :: u 233 :: u 234 :: u 235 :: u 236 :: u 237 :: u 238 :: u 239 :: u 240 :: u 241 :: u 242 :: u 243 :: u 244 :: u 245 :: u 246 :: u 247 :: u 248 :: u 249 :: u 250 :: u 251 :: u 252 :: u 253 :: u 254 :: u 255 :: u 256 :: u 257 :: u 258 :: u 259 :: u 260 :: u 261 :: u 262 :: u 263 :: u 264 :: u 265 :: u 266 :: u 267 :: u 268 :: u 269 :: u 270 :: u 271 :: u 272 :: u 273 :: u 274 :: u 275 :: u 276 :: u 277 :: u 278 :: u 279 :: u 280 :: u 281 :: u 282 :: u 283 :: u 284 :: u 285 :: u 286 :: u 287 :: u 288 :: u 289 :: u 290 :: u 291 :: u 292 :: u 293 :: u 294 :: u 295 :: u 296 :: u 297 :: u 298 :: u 299 :: u 300 :: u 301 :: u 302 :: u 303 :: u 304 :: u 305 :: u 306 :: u 307 :: u 308 :: u 309 :: u 310 :: u 311 :: u 312 :: u 313 :: u 314 :: u 315 :: u 316 :: u 317 :: u 318 :: u 319 :: u 320 :: u 321 :: u 322 :: u 323 :: u 324 :: u 325 :: u 326 :: u 327 :: u 328 :: u 329 :: u 330 :: u 331 :: u 332 :: u 333 :: u 334 :: u 335 :: u 336 :: u 337 :: u 338 :: u 339 :: u 340 :: u 341 :: u 342 :: u 343 :: u 344 :: u 345 :: u 346 :: u 347 :: u 348 :: u 349 :: u 350 :: u 351 :: u 352 :: u 353 :: u 354 :: u 355 :: u 356 :: u 357 :: u 358 :: u 359 :: u 360 :: u 361 :: u 362 :: u 363 :: u 364 :: u 365 :: u 366 :: u 367 :: u 368 :: u 369 :: u 370 :: u 371 :: u 372 :: u 373 :: u 374 :: u 375 :: u 376 :: u 377 :: u 378 :: u 379 :: u 380 :: u 381 :: u 382 :: u 383 :: u 384 :: u 385 :: u 386 :: u 387 :: u 388 :: u 389 :: u 390 :: u 391 :: u 392 :: u 393 :: u 394 :: u 395 :: u 396 :: u 397 :: u 398 :: u 399 :: u 400 :: u 401 :: u 402 :: u 403 :: u 404 :: u 405 :: u 406 :: u 407 :: u 408 :: u 409 :: u 410 :: u 411 :: u 412 :: u 413 :: u 414 :: u 415 :: u 416 :: u 417 :: u 418 :: u 419 :: u 420 :: u 421 :: u 422 :: u 423 :: u 424 :: u 425 :: u 426 :: u 427 :: u 428 :: u 429 :: u 430 :: u 431 :: u 432 :: u 433 :: u 434 :: u 435 :: u 436 :: u 437 :: u 438 :: u 439 :: u 440 :: u 441 :: u 442 :: u 443 :: u 444 :: u 445 :: u 446 :: u 447 :: u 448 :: u 449 :: u 450 :: u 451 :: u 452 :: u 453 :: u 454 :: u 455 :: u 456 :: u 457 :: u 458 :: u 459 :: u 460 :: u 461 :: u 462 :: u 463 :: u 464 :: u 465 :: u 466 :: u 467 :: u 468 :: u 469 :: u 470 :: u 471 :: u 472 :: u 473 :: u 474 :: u 475 :: u 476 :: u 477 :: u 478 :: u 479 :: u 480 :: u 481 :: u 482 :: u 483 :: u 484 :: u 485 :: u 486 :: u 487 :: u 488 :: u 489 :: u 490 :: u 491 :: u 492 :: u 493 :: u 494 :: u 495 :: u 496 :: u 497 :: u 498 :: u 499 :: u 500 :: u 501 :: u 502 :: u 503 :: u 504 :: u 505 :: u 506 :: u 507 :: u 508 :: u 509 :: u 510 :: u 511 :: u 512 :: u 513 :: u 514 :: u 515 :: u 516 :: u 517 :: u 518 :: u 519 :: u 520 :: u 521 :: u 522 :: u 523 :: u 524 :: u 525 :: u 526 :: u 527 :: u 528 :: u 529 :: u 530 :: u 531 :: u 532 :: u 533 :: u 534 :: u 535 :: u 536 :: u 537 :: u 538 :: u 539 :: u 540 :: u 541 :: u 542 :: u 543 :: u 544 :: u 545 :: u 546 :: u 547 :: u 548 :: u 549 :: u 550 :: u 551 :: u 552 :: u 553 :: u 554 :: u 555 :: u 556 :: u 557 :: u 558 :: u 559 :: u 560 :: u 561 :: u 562 :: u 563 :: u 564 :: u 565 :: u 566 :: u 567 :: u 568 :: u 569 :: u 570 :: u 571 :: u 572 :: u 573 :: u 574 :: u 575 :: u 576 :: u 577 :: u 578 :: u 579 :: u 580 :: u 581 :: u 582 :: u 583 :: u 584 :: u 585 :: u 586 :: u 587 :: u 588 :: u 589 :: u 590 :: u 591 :: u 592 :: u 593 :: u 594 :: u 595 :: u 596 :: u 597 :: u 598 :: u 599 :: u 600 :: u 601 :: u 602 :: u 603 :: u 604 :: u 605 :: u 606 :: u 607 :: u 608 :: u 609 :: u 610 :: u 611 :: u 612 :: u 613 :: u 614 :: u 615 :: u 616 :: u 617 :: u 618 :: u 619 :: u 620 :: u 621 :: u 622 :: u 623 :: u 624 :: u 625 :: u 626 :: u 627 :: u 628 :: u 629 :: u 630 :: u 631 :: u 632 :: u 633 :: u 634 :: u 635 :: u 636 :: u 637 :: u 638 :: u 639 :: u 640 :: u 641 :: u 642 :: u 643 :: u 644 :: u 645 :: u 646 :: u 647 :: u 648 :: u 649 :: u 650 :: u 651 :: u 652 :: u 653 :: u 654 :: u 655 :: u 656 :: u 657 :: u 658 :: u 659 :: u 660 :: u 661 :: u 662 :: u 663 :: u 664 :: u 665 :: u 666 :: u 667 :: u 668 :: u 669 :: u 670 :: u 671 :: u 672 :: u 673 :: u 674 :: u 675 :: u 676 :: u 677 :: u 678 :: u 679 :: u 680 :: u 681 :: u 682 :: u 683 :: u 684 :: u 685 :: u 686 :: u 687 :: u 688 :: u 689 :: u 690 :: u 691 :: u 692 :: u 693 :: u 694 :: u 695 :: u 696 :: u 697 :: u 698 :: u 699 :: u 700 :: u 701 :: u 702 :: u 703 :: u 704 :: u 705 :: u 706 :: u 707 :: u 708 :: u 709 :: u 710 :: u 711 :: u 712 :: u 713 :: u 714 :: u 715 :: u 716 :: u 717 :: u 718 :: u 719 :: u 720 :: u 721 :: u 722 :: u 723 :: u 724 :: u 725 :: u 726 :: u 727 :: u 728 :: u 729 :: u 730 :: u 731 :: u 732 :: u 733 :: u 734 :: u 735 :: u 736 :: u 737 :: u 738 :: u 739 :: u 740 :: u 741 :: u 742 :: u 743 :: u 744 :: u 745 :: u 746 :: u 747 :: u 748 :: u 749 :: u 750 :: u 751 :: u 752 :: u 753 :: u 754 :: u 755 :: u 756 :: u 757 :: u 758 :: u 759 :: u 760 :: u 761 :: u 762 :: u 763 :: u 764 :: u 765 :: u 766 :: u 767 :: u 768 :: u 769 :: u 770 :: u 771 :: u 772 :: u 773 :: u 774 :: u 775 :: u 776 :: u 777 :: u 778 :: u 779 :: u 780 :: u 781 :: u 782 :: u 783 :: u 784 :: u 785 :: u 786 :: u 787 :: u 788 :: u 789 :: u 790 :: u 791 :: u 792 :: u 793 :: u 794 :: u 795 :: u 796 :: u 797 :: u 798 :: u 799 :: u 800 :: u 801 :: u 802 :: u 803 :: u 804 :: u 805 :: u 806 :: u 807 :: u 808 :: u 809 :: u 810 :: u 811 :: u 812 :: u 813 :: u 814 :: u 815 :: u 816 :: u 817 :: u 818 :: u 819 :: []), defers := [] } := by
  obtain ⟨tmps, defers⟩ := a
  obtain ⟨hz, h0, h2, h3, h4, h26, h27, h28, hd⟩ := H
  simp only at hz h0 h2 h3 h4 h26 h27 h28 hd
  subst hd
  refine ⟨fun i => tmps.getD i undef, ?_⟩
  congr 1
  apply Array.ext'
  have e : tmps.toList = (List.range 820).map (fun i => tmps.getD i undef) := by
    apply List.ext_getElem
    · simpa using hz
    · intro i a1 a2
      simp at a1
      simp [Array.getD, a1]
  rw [e]
  have g0 : tmps.getD 0 undef = v0 := by simp [Array.getD_eq_getD_getElem?, h0]
  have g2 : tmps.getD 2 undef = v2 := by simp [Array.getD_eq_getD_getElem?, h2]
  have g3 : tmps.getD 3 undef = v3 := by simp [Array.getD_eq_getD_getElem?, h3]
  have g4 : tmps.getD 4 undef = v4 := by simp [Array.getD_eq_getD_getElem?, h4]
  have g26 : tmps.getD 26 undef = v26 := by simp [Array.getD_eq_getD_getElem?, h26]
  have g27 : tmps.getD 27 undef = v27 := by simp [Array.getD_eq_getD_getElem?, h27]
  have g28 : tmps.getD 28 undef = v28 := by simp [Array.getD_eq_getD_getElem?, h28]
  rw [← g0, ← g2, ← g3, ← g4, ← g26, ← g27, ← g28]
  exact range820 (fun i => tmps.getD i undef)
section
variable {w W W1 : World} {A A1 A2 : RnP} {N : List Nd} {root : Nat} {M m : MD} {k : TkD} {r : List TkD} {d : Nd} {bT bD xb : Nat} {a : Act}
set_option maxRecDepth 100000
set_option maxHeartbeats 8000000
theorem StZ.fr (P : StZ w A N root W A1 m bT bD xb k d) (f : Fr (fun _ => False) W W1) : StZ w A N root W1 A1 m bT bD xb k d := ⟨P.B.fresh f, P.LT.fr f, P.LD.fr f, P.x, P.he⟩
theorem st19h {Q : Ending → World → Prop} (P : StZ w A N root W A1 m bT bD xb k d) (H : FrZs (.pointer (some ⟨A.br, 0, none⟩)) (.pointer (some ⟨xb, 0, none⟩)) (.pointer (some ⟨bT, 0, none⟩)) (.pointer (some ⟨bD, 0, none⟩)) (.int .i64 k.k) a) (hvl : m.th.vals.length ≤ 900000) (hv : 2 ≤ m.th.vals.length) (hw0 : WvB (m.topM 0)) (TI : ∀ t ∈ m.tabs, TTi t) (h12 : m.tabs.length ≤ 12) (ut : (m.topM 1).n < m.tabs.length) {kv vv : Vl} (hkv : ((m.tabs.getD (m.topM 1).n tab0).next (m.topM 0)).getD (nilV, nilV) = (kv, vv))
    (hT : ∀ (W9 : World) (B C : Nat) (L : Int) (a : Act), StZ w A N root W9 A1 m bT bD xb k d → LcB W9 A1 B (vlC kv) 68 → LcB W9 A1 C (vlC vv) 68 → B ≠ C → L = (m.th.vals.length : Nat) → FrZt (.pointer (some ⟨A.br, 0, none⟩)) (.pointer (some ⟨xb, 0, none⟩)) (.pointer (some ⟨bT, 0, none⟩)) (.pointer (some ⟨bD, 0, none⟩)) (.int .i64 L) (.pointer (some ⟨B, 0, none⟩)) (.pointer (some ⟨C, 0, none⟩)) a → (cR (cR (cTz (stC 18 (cI (stB Tryz.f77.body)))))).wp Tryz.prog (Exit.inBlock 0 (bodyPost Tryz.prog Tryz.f77 Q)) a W9) : (cTz (stC 18 (cI (stB Tryz.f77.body)))).wp Tryz.prog (Exit.inBlock 0 (bodyPost Tryz.prog Tryz.f77 Q)) a W := by
  obtain ⟨u, rfl⟩ := H.form
  obtain ⟨TL, HTL⟩ : ∃ TL, Hid (cR (cR (cTz (stC 18 (cI (stB Tryz.f77.body))))) = TL) := ⟨_, rfl⟩
  have EQ : (cTz (stC 18 (cI (stB Tryz.f77.body)))) = Code.seq (cL (cTz (stC 18 (cI (stB Tryz.f77.body))))) (Code.seq (cL (cR (cTz (stC 18 (cI (stB Tryz.f77.body)))))) (cR (cR (cTz (stC 18 (cI (stB Tryz.f77.body))))))) := by kernel_rfl
  rw [HTL.out] at EQ hT
  rw [EQ]
  clear EQ HTL
  have HT9 := hid hT
  have HP := hid P
  have HB0 := hid P.B
  have HXX := hid P.x
  have HVK := hid hv
  have HV0 : Hid (m.th.vals.length ≤ 900000 + 0) := hvl
  have HW0 : Hid (∀ v, m.topM 0 = v → WvB v) := fun v hv => by rw [← hv]; exact hw0
  have HTI := hid TI
  have H12 := hid h12
  have HUT : Hid (∀ v, m.topM 1 = v → v.n < m.tabs.length) := fun v hv => by rw [← hv]; exact ut
  have HKV := hid hkv
  obtain ⟨cc0, cc1, lcc⟩ := P.B.c0
  clear hw0 TI h12 ut hv hvl P H hT hkv
  obtain ⟨kk, HKK⟩ : ∃ kk : Nat, Hid (k.k = kk) := ⟨_, rfl⟩
  rw [HKK.out]
  obtain ⟨g, cp, c4, lc4, lg, lxb, CV⟩ := HB0.out.tops HXX.out (by have := HVK.out; omega)
  obtain ⟨n, HNV⟩ : ∃ n, Hid (m.th.vals.length = n + 2) := ⟨m.th.vals.length - 2, by show _ = _; have := HVK.out; omega⟩
  obtain ⟨⟨vt, vn, vs⟩, HXv⟩ : ∃ v, Hid (m.topM 0 = v) := ⟨_, rfl⟩
  have D := CV (n + 1) (by rw [HNV.out]; omega)
  have ej : m.th.vals.getD (n + 1) nilV = ⟨vt, vn, vs⟩ := by rw [← HXv.out]; unfold MD.topM; rw [HNV.out]; congr 1
  rw [ej] at D
  dsimp only at D
  obtain ⟨zv0, zv1, zv2⟩ := D
  clear ej
  obtain ⟨⟨ut, un, us⟩, HXu⟩ : ∃ v, Hid (m.topM 1 = v) := ⟨_, rfl⟩
  have D := CV (n) (by rw [HNV.out]; omega)
  have ej : m.th.vals.getD (n) nilV = ⟨ut, un, us⟩ := by rw [← HXu.out]; unfold MD.topM; rw [HNV.out]; congr 1
  rw [ej] at D
  dsimp only at D
  obtain ⟨zu0, zu1, zu2⟩ := D
  clear ej
  rw [HNV.out] at c4 lc4
  have hnb : n ≤ 900010 := by have := HV0.out; rw [HNV.out] at this; omega
  clear CV
  have ei1 : (n : Int) + 2 - 1 = (n : Int) + 1 := by omega
  have ei2 : (n : Int) + 2 - 2 = (n : Int) := by omega
  have hpos : (0 : Int) < (n : Int) + 2 := by omega
  have hun : un < 13 := Nat.lt_of_lt_of_le (HUT.out _ HXu.out) (by have := H12.out; omega)
  have ekv := HKV.out
  rw [HXu.out, HXv.out] at ekv
  dsimp only at ekv
  obtain ⟨gt, gn, gs⟩ := kv
  obtain ⟨ht, hn, hs⟩ := vv
  obtain ⟨er, HNX⟩ : ∃ er : Int, Hid (nextR ((m.tabs.getD un tab0).next ⟨vt, vn, vs⟩) = .tuple #[(⟨gt, gn, gs⟩ : Vl).val, (⟨ht, hn, hs⟩ : Vl).val, .int .i64 er]) := by
    generalize (m.tabs.getD un tab0).next ⟨vt, vn, vs⟩ = o9 at ekv
    cases o9 with
    | none =>
      have e1 : nilV = (⟨gt, gn, gs⟩ : Vl) := congrArg Prod.fst ekv
      have e2 : nilV = (⟨ht, hn, hs⟩ : Vl) := congrArg Prod.snd ekv
      rw [← e1, ← e2]
      exact ⟨7, rfl⟩
    | some e =>
      have e1 : e.1 = (⟨gt, gn, gs⟩ : Vl) := congrArg Prod.fst ekv
      have e2 : e.2 = (⟨ht, hn, hs⟩ : Vl) := congrArg Prod.snd ekv
      rw [← e1, ← e2]
      exact ⟨0, rfl⟩
  clear ekv
  have NXT0 : ∀ W2, Fr (fun _ => False) W W2 → Calls Tryz.prog 125 #[.pointer (some ⟨A.bt, 0, none⟩), .int .i64 un, (⟨vt, vn, vs⟩ : Vl).val] W2 fun e w' => e = .returned (nextR ((m.tabs.getD un tab0).next ⟨vt, vn, vs⟩)) ∧ Fr (fun _ => False) W2 w' := fun W2 f => (HB0.out.fresh f).tnext HTI.out (HUT.out _ HXu.out) (HW0.out _ HXv.out).1 (HW0.out _ HXv.out).2
  rw [HNX.out] at NXT0
  have NXT : Hid (∀ W2, Fr (fun _ => False) W W2 → Calls Tryz.prog 125 #[.pointer (some ⟨A.bt, 0, none⟩), .int .i64 un, .agg #[.int .i64 vt, .int .u64 vn, sv vs]] W2 fun e w' => e = .returned (.tuple #[.agg #[.int .i64 gt, .int .u64 gn, sv gs], .agg #[.int .i64 ht, .int .u64 hn, sv hs], .int .i64 er]) ∧ Fr (fun _ => False) W2 w') := NXT0
  clear NXT0
  have k0 := fun z : WS W => z.f.cell cc1
  have k1 := fun z : WS W => z.f.cell c4
  have k2 := fun z : WS W => z.f.cell zv0
  have k3 := fun z : WS W => z.f.cell zv1
  have k4 := fun z : WS W => z.f.cell zv2
  have k5 := fun z : WS W => z.f.cell zu1
  have HNE : Nonempty (WS W) := WS.non W
  simp only [cTz, cE, cI, cL, cR, stC, stB, Tryz.f77, Option.getD_some]
  go_wp2_with fail
  refine wp_region_plan [0, 1, 2, 3, 4, 5, 6, 7, 8, 9, 10, 11, 12, 14, 15, 16, 17, 18, 19, 20, 21] (.three 13 (.three 22 (.quiet [23, 24, 25, 26] (.two 27 (.one 28 .done) 28 (.one 27 .done))) 27 (.two 22 (.quiet [23, 24, 25, 26] (.one 28 .done)) 28 (.one 22 (.quiet [23, 24, 25, 26] .done))) 28 (.two 22 (.quiet [23, 24, 25, 26] (.one 27 .done)) 27 (.one 22 (.quiet [23, 24, 25, 26] .done)))) 27 (.two 13 (.two 22 (.quiet [23, 24, 25, 26] (.one 28 .done)) 28 (.one 22 (.quiet [23, 24, 25, 26] .done))) 28 (.one 13 (.one 22 (.quiet [23, 24, 25, 26] .done)))) 28 (.two 13 (.two 22 (.quiet [23, 24, 25, 26] (.one 27 .done)) 27 (.one 22 (.quiet [23, 24, 25, 26] .done))) 27 (.one 13 (.one 22 (.quiet [23, 24, 25, 26] .done))))) 29 (fun x => ∃ s : WS W, x = s.y) (by kernel_rfl) (by kernel_rfl) (fun _ _ _ _ _ h => h) ⟨⟨W.drew, (Fr.refl _ _).drew⟩, rfl⟩ [_, _, _, _, _, _, _, _, _, _, _, _, _, _, _, _, _, _, _, _, _] rfl _ rfl ?_
  simp only [List.getElem_toArray, List.getElem_cons_succ, List.getElem_cons_zero, List.drop_succ_cons, List.drop_zero, List.length_cons, List.length_nil, Nat.zero_add]
  repeat go_big_quiet_step (fail)
  refine wpQuiet_nil ?_
  clear k0 k1 k2 k3 k4 k5
  refine ⟨fun a' a W9 => ∃ B C, a = (((((((a'.put (some 583) (.int .i64 un)).put (some 592) (.tuple #[.agg #[.int .i64 gt, .int .u64 gn, sv gs], .agg #[.int .i64 ht, .int .u64 hn, sv hs], .int .i64 er])).put (some 569) (.tuple #[.agg #[.int .i64 gt, .int .u64 gn, sv gs], .agg #[.int .i64 ht, .int .u64 hn, sv hs], .int .i64 er])).put (some 593) (.agg #[.int .i64 gt, .int .u64 gn, sv gs])).put (some 594) (.agg #[.int .i64 ht, .int .u64 hn, sv hs])).put (some 595) (.int .i64 er)).put (some 27) (.pointer (some ⟨B, 0, none⟩))).put (some 28) (.pointer (some ⟨C, 0, none⟩)) ∧ Fr (fun _ => False) W W9 ∧ Has W9 B #[.int .i64 0, .int .u64 0, sv []] 68 ∧ Has W9 C #[.int .i64 0, .int .u64 0, sv []] 68 ∧ W.heap.size ≤ B ∧ W.heap.size ≤ C ∧ B ≠ C, ?_, ?_⟩
  · rintro a W9 hSW ⟨B, C, rfl, f9, hB, hC, lB, lC, nBC⟩
    clear hSW HNE
    simp only [Act.put, List.setIfInBounds_toArray, List.set_cons_succ, List.set_cons_zero]
    have nCB : C ≠ B := fun e => nBC e.symm
    obtain ⟨e0, e1, e2⟩ := Has.cells3 (v := nilV) hB
    dsimp only [nilV] at e0 e1 e2
    obtain ⟨e3, e4, e5⟩ := hB.frz3
    have hlB := hB.lt
    obtain ⟨y0, y1, y2⟩ := Has.cells3 (v := nilV) hC
    dsimp only [nilV] at y0 y1 y2
    obtain ⟨y3, y4, y5⟩ := hC.frz3
    have hlC := hC.lt
    obtain ⟨Wa, HWa⟩ : ∃ Wa, Hid (((W9.setCell ⟨B, 0, none⟩ (.int .i64 gt)).setCell ⟨B, 1, none⟩ (.int .u64 gn)).setCell ⟨B, 2, none⟩ (sv gs) = Wa) := ⟨_, rfl⟩
    have HFa : Hid (Fr (fun _ => False) W Wa) := by
      show Fr _ _ _
      rw [← HWa.out]
      exact ((f9.setCell (p := ⟨B, 0, none⟩) (.inr lB) _).setCell (p := ⟨B, 1, none⟩) (.inr lB) _).setCell (p := ⟨B, 2, none⟩) (.inr lB) _
    have hBa : Has Wa B #[.int .i64 gt, .int .u64 gn, sv gs] 68 := by rw [← HWa.out]; exact hB.put3 _ _ _
    have hCa : Has Wa C #[.int .i64 0, .int .u64 0, sv []] 68 := by rw [← HWa.out]; exact ((hC.other (p := ⟨B, 0, none⟩) nCB _).other (p := ⟨B, 1, none⟩) nCB _).other (p := ⟨B, 2, none⟩) nCB _
    have eWa : (((W9.setCell ⟨B, 0, none⟩ (.int .i64 gt)).setCell ⟨B, 1, none⟩ (.int .u64 gn)).setCell ⟨B, 2, none⟩ (.string ⟨gs.toArray⟩)) = Wa := HWa.out
    have HEa := hid eWa
    have HHB := hid hBa
    have HHC := hid hCa
    clear eWa f9 hB hC hBa hCa y0 y1 y2 y3 y4 y5 hlC NXT
    unfold wpChain
    go_wp2
    rw [HEa.out]
    clear e0 e1 e2 e3 e4 e5 hlB HEa HWa
    clear W9
    refine ⟨⟨⟨_, HFa.out⟩, rfl⟩, ?_⟩
    obtain ⟨y0, y1, y2⟩ := Has.cells3 (v := nilV) HHC.out
    dsimp only [nilV] at y0 y1 y2
    obtain ⟨y3, y4, y5⟩ := HHC.out.frz3
    have hlC := HHC.out.lt
    obtain ⟨Wb, HWb⟩ : ∃ Wb, Hid (((Wa.setCell ⟨C, 0, none⟩ (.int .i64 ht)).setCell ⟨C, 1, none⟩ (.int .u64 hn)).setCell ⟨C, 2, none⟩ (sv hs) = Wb) := ⟨_, rfl⟩
    have HFb : Hid (Fr (fun _ => False) W Wb) := by
      show Fr _ _ _
      rw [← HWb.out]
      exact ((HFa.out.setCell (p := ⟨C, 0, none⟩) (.inr lC) _).setCell (p := ⟨C, 1, none⟩) (.inr lC) _).setCell (p := ⟨C, 2, none⟩) (.inr lC) _
    have HCb : Hid (Has Wb C #[.int .i64 ht, .int .u64 hn, sv hs] 68) := by
      show Has _ _ _ _
      rw [← HWb.out]
      exact HHC.out.put3 _ _ _
    have HBb : Hid (Has Wb B #[.int .i64 gt, .int .u64 gn, sv gs] 68) := by
      show Has _ _ _ _
      rw [← HWb.out]
      exact ((HHB.out.other (p := ⟨C, 0, none⟩) nBC _).other (p := ⟨C, 1, none⟩) nBC _).other (p := ⟨C, 2, none⟩) nBC _
    have eWb : (((Wa.setCell ⟨C, 0, none⟩ (.int .i64 ht)).setCell ⟨C, 1, none⟩ (.int .u64 hn)).setCell ⟨C, 2, none⟩ (.string ⟨hs.toArray⟩)) = Wb := HWb.out
    have HEb := hid eWb
    clear eWb
    unfold wpChain
    go_wp2
    rw [HEb.out]
    refine ⟨⟨⟨_, HFb.out⟩, rfl⟩, ?_⟩
    unfold wpChain
    go_wp2
    refine ⟨⟨⟨_, HFb.out⟩, rfl⟩, ?_⟩
    rw [wpChain_zero]
    go_wp2_with fail
    refine HT9.out Wb B C ((n : Int) + 2) _ (HP.out.fr HFb.out) ⟨HBb.out, HB0.out.r.own _ lB⟩ ⟨HCb.out, HB0.out.r.own _ lC⟩ nBC (by rw [HNV.out]; rfl) ?_
    exact ⟨by kernel_rfl, by kernel_rfl, by kernel_rfl, by kernel_rfl, by kernel_rfl, by kernel_rfl, by kernel_rfl, by kernel_rfl, rfl⟩
  · intro G HG
    refine ⟨⟨_, rfl, ?_⟩, ⟨_, rfl, ?_⟩, ⟨_, rfl, ?_⟩⟩
    · go_wp2_with fail
      refine ⟨⟨⟨_, ((Fr.refl _ W).drew)⟩, rfl⟩, ⟨_, rfl, ?_⟩, ⟨_, rfl, ?_⟩, ⟨_, rfl, ?_⟩⟩
      · go_wp2_with fail
        refine (NXT.out _ ((Fr.refl _ W).drew)).mono ?_
        rintro e31 y1 ⟨rfl, g1⟩
        have f1 : Fr (fun _ => False) W y1 := ((Fr.refl _ W).drew).trans g1 (fun _ _ x => x)
        have z1 := f1.size
        clear g1
        go_wp2_with fail
        refine ⟨⟨⟨_, f1⟩, rfl⟩, [_, _, _, _], rfl, ?_⟩
        simp only [List.getElem_toArray, List.getElem_cons_succ, List.getElem_cons_zero]
        repeat go_big_quiet_step (fail)
        refine wpQuiet_nil ?_
        refine ⟨⟨_, rfl, ?_⟩, ⟨_, rfl, ?_⟩⟩
        · go_wp2_with fail
          refine ⟨⟨⟨_, (f1.alloc (.cells #[.int .i64 0, .int .u64 0, sv []] 68))⟩, rfl⟩, _, rfl, ?_⟩
          go_wp2_with fail
          refine ⟨⟨⟨_, ((f1.alloc (.cells #[.int .i64 0, .int .u64 0, sv []] 68)).alloc (.cells #[.int .i64 0, .int .u64 0, sv []] 68))⟩, rfl⟩, ?_⟩
          show G _ _
          rw [HG.out]
          exact ⟨y1.heap.size, y1.heap.size + 1, by kernel_rfl, ((f1.alloc (.cells #[.int .i64 0, .int .u64 0, sv []] 68)).alloc (.cells #[.int .i64 0, .int .u64 0, sv []] 68)), ((Has.newC _ _ _ (by simp)).alloc _), (Has.newC _ _ _ (by simp)), by omega, by omega, by omega⟩
        · go_wp2_with fail
          refine ⟨⟨⟨_, (f1.alloc (.cells #[.int .i64 0, .int .u64 0, sv []] 68))⟩, rfl⟩, _, rfl, ?_⟩
          go_wp2_with fail
          refine ⟨⟨⟨_, ((f1.alloc (.cells #[.int .i64 0, .int .u64 0, sv []] 68)).alloc (.cells #[.int .i64 0, .int .u64 0, sv []] 68))⟩, rfl⟩, ?_⟩
          show G _ _
          rw [HG.out]
          exact ⟨y1.heap.size + 1, y1.heap.size, by kernel_rfl, ((f1.alloc (.cells #[.int .i64 0, .int .u64 0, sv []] 68)).alloc (.cells #[.int .i64 0, .int .u64 0, sv []] 68)), (Has.newC _ _ _ (by simp)), ((Has.newC _ _ _ (by simp)).alloc _), by omega, by omega, by omega⟩
      · go_wp2_with fail
        refine ⟨⟨⟨_, (((Fr.refl _ W).drew).alloc (.cells #[.int .i64 0, .int .u64 0, sv []] 68))⟩, rfl⟩, ⟨_, rfl, ?_⟩, ⟨_, rfl, ?_⟩⟩
        · go_wp2_with fail
          refine (NXT.out _ (((Fr.refl _ W).drew).alloc (.cells #[.int .i64 0, .int .u64 0, sv []] 68))).mono ?_
          rintro e37 y7 ⟨rfl, g7⟩
          have f7 : Fr (fun _ => False) W y7 := (((Fr.refl _ W).drew).alloc (.cells #[.int .i64 0, .int .u64 0, sv []] 68)).trans g7 (fun _ _ x => x)
          have z7 := f7.size
          have h7_27 : Has y7 (W.heap.size) #[.int .i64 0, .int .u64 0, sv []] 68 := Has.fr (Has.newC _ _ _ (by simp)) g7 (fun x => x)
          have l7_27 := h7_27.lt
          clear g7
          go_wp2_with fail
          refine ⟨⟨⟨_, f7⟩, rfl⟩, [_, _, _, _], rfl, ?_⟩
          simp only [List.getElem_toArray, List.getElem_cons_succ, List.getElem_cons_zero]
          repeat go_big_quiet_step (fail)
          refine wpQuiet_nil ?_
          refine ⟨_, rfl, ?_⟩
          go_wp2_with fail
          refine ⟨⟨⟨_, (f7.alloc (.cells #[.int .i64 0, .int .u64 0, sv []] 68))⟩, rfl⟩, ?_⟩
          show G _ _
          rw [HG.out]
          exact ⟨W.heap.size, y7.heap.size, by kernel_rfl, (f7.alloc (.cells #[.int .i64 0, .int .u64 0, sv []] 68)), (h7_27.alloc _), (Has.newC _ _ _ (by simp)), by omega, by omega, by omega⟩
        · go_wp2_with fail
          refine ⟨⟨⟨_, ((((Fr.refl _ W).drew).alloc (.cells #[.int .i64 0, .int .u64 0, sv []] 68)).alloc (.cells #[.int .i64 0, .int .u64 0, sv []] 68))⟩, rfl⟩, _, rfl, ?_⟩
          go_wp2_with fail
          refine (NXT.out _ ((((Fr.refl _ W).drew).alloc (.cells #[.int .i64 0, .int .u64 0, sv []] 68)).alloc (.cells #[.int .i64 0, .int .u64 0, sv []] 68))).mono ?_
          rintro e40 y10 ⟨rfl, g10⟩
          have f10 : Fr (fun _ => False) W y10 := ((((Fr.refl _ W).drew).alloc (.cells #[.int .i64 0, .int .u64 0, sv []] 68)).alloc (.cells #[.int .i64 0, .int .u64 0, sv []] 68)).trans g10 (fun _ _ x => x)
          have z10 := f10.size
          have h10_27 : Has y10 (W.heap.size) #[.int .i64 0, .int .u64 0, sv []] 68 := Has.fr ((Has.newC _ _ _ (by simp)).alloc _) g10 (fun x => x)
          have l10_27 := h10_27.lt
          have h10_28 : Has y10 (W.heap.size + 1) #[.int .i64 0, .int .u64 0, sv []] 68 := Has.fr (Has.newC _ _ _ (by simp)) g10 (fun x => x)
          have l10_28 := h10_28.lt
          clear g10
          go_wp2_with fail
          refine ⟨⟨⟨_, f10⟩, rfl⟩, [_, _, _, _], rfl, ?_⟩
          simp only [List.getElem_toArray, List.getElem_cons_succ, List.getElem_cons_zero]
          repeat go_big_quiet_step (fail)
          refine wpQuiet_nil ?_
          show G _ _
          rw [HG.out]
          exact ⟨W.heap.size, W.heap.size + 1, by kernel_rfl, f10, h10_27, h10_28, by omega, by omega, by omega⟩
      · go_wp2_with fail
        refine ⟨⟨⟨_, (((Fr.refl _ W).drew).alloc (.cells #[.int .i64 0, .int .u64 0, sv []] 68))⟩, rfl⟩, ⟨_, rfl, ?_⟩, ⟨_, rfl, ?_⟩⟩
        · go_wp2_with fail
          refine (NXT.out _ (((Fr.refl _ W).drew).alloc (.cells #[.int .i64 0, .int .u64 0, sv []] 68))).mono ?_
          rintro e42 y12 ⟨rfl, g12⟩
          have f12 : Fr (fun _ => False) W y12 := (((Fr.refl _ W).drew).alloc (.cells #[.int .i64 0, .int .u64 0, sv []] 68)).trans g12 (fun _ _ x => x)
          have z12 := f12.size
          have h12_28 : Has y12 (W.heap.size) #[.int .i64 0, .int .u64 0, sv []] 68 := Has.fr (Has.newC _ _ _ (by simp)) g12 (fun x => x)
          have l12_28 := h12_28.lt
          clear g12
          go_wp2_with fail
          refine ⟨⟨⟨_, f12⟩, rfl⟩, [_, _, _, _], rfl, ?_⟩
          simp only [List.getElem_toArray, List.getElem_cons_succ, List.getElem_cons_zero]
          repeat go_big_quiet_step (fail)
          refine wpQuiet_nil ?_
          refine ⟨_, rfl, ?_⟩
          go_wp2_with fail
          refine ⟨⟨⟨_, (f12.alloc (.cells #[.int .i64 0, .int .u64 0, sv []] 68))⟩, rfl⟩, ?_⟩
          show G _ _
          rw [HG.out]
          exact ⟨y12.heap.size, W.heap.size, by kernel_rfl, (f12.alloc (.cells #[.int .i64 0, .int .u64 0, sv []] 68)), (Has.newC _ _ _ (by simp)), (h12_28.alloc _), by omega, by omega, by omega⟩
        · go_wp2_with fail
          refine ⟨⟨⟨_, ((((Fr.refl _ W).drew).alloc (.cells #[.int .i64 0, .int .u64 0, sv []] 68)).alloc (.cells #[.int .i64 0, .int .u64 0, sv []] 68))⟩, rfl⟩, _, rfl, ?_⟩
          go_wp2_with fail
          refine (NXT.out _ ((((Fr.refl _ W).drew).alloc (.cells #[.int .i64 0, .int .u64 0, sv []] 68)).alloc (.cells #[.int .i64 0, .int .u64 0, sv []] 68))).mono ?_
          rintro e45 y15 ⟨rfl, g15⟩
          have f15 : Fr (fun _ => False) W y15 := ((((Fr.refl _ W).drew).alloc (.cells #[.int .i64 0, .int .u64 0, sv []] 68)).alloc (.cells #[.int .i64 0, .int .u64 0, sv []] 68)).trans g15 (fun _ _ x => x)
          have z15 := f15.size
          have h15_28 : Has y15 (W.heap.size) #[.int .i64 0, .int .u64 0, sv []] 68 := Has.fr ((Has.newC _ _ _ (by simp)).alloc _) g15 (fun x => x)
          have l15_28 := h15_28.lt
          have h15_27 : Has y15 (W.heap.size + 1) #[.int .i64 0, .int .u64 0, sv []] 68 := Has.fr (Has.newC _ _ _ (by simp)) g15 (fun x => x)
          have l15_27 := h15_27.lt
          clear g15
          go_wp2_with fail
          refine ⟨⟨⟨_, f15⟩, rfl⟩, [_, _, _, _], rfl, ?_⟩
          simp only [List.getElem_toArray, List.getElem_cons_succ, List.getElem_cons_zero]
          repeat go_big_quiet_step (fail)
          refine wpQuiet_nil ?_
          show G _ _
          rw [HG.out]
          exact ⟨W.heap.size + 1, W.heap.size, by kernel_rfl, f15, h15_27, h15_28, by omega, by omega, by omega⟩
    · go_wp2_with fail
      refine ⟨⟨⟨_, (((Fr.refl _ W).drew).alloc (.cells #[.int .i64 0, .int .u64 0, sv []] 68))⟩, rfl⟩, ⟨_, rfl, ?_⟩, ⟨_, rfl, ?_⟩⟩
      · go_wp2_with fail
        refine ⟨⟨⟨_, (((Fr.refl _ W).drew).alloc (.cells #[.int .i64 0, .int .u64 0, sv []] 68))⟩, rfl⟩, ⟨_, rfl, ?_⟩, ⟨_, rfl, ?_⟩⟩
        · go_wp2_with fail
          refine (NXT.out _ (((Fr.refl _ W).drew).alloc (.cells #[.int .i64 0, .int .u64 0, sv []] 68))).mono ?_
          rintro e47 y17 ⟨rfl, g17⟩
          have f17 : Fr (fun _ => False) W y17 := (((Fr.refl _ W).drew).alloc (.cells #[.int .i64 0, .int .u64 0, sv []] 68)).trans g17 (fun _ _ x => x)
          have z17 := f17.size
          have h17_27 : Has y17 (W.heap.size) #[.int .i64 0, .int .u64 0, sv []] 68 := Has.fr (Has.newC _ _ _ (by simp)) g17 (fun x => x)
          have l17_27 := h17_27.lt
          clear g17
          go_wp2_with fail
          refine ⟨⟨⟨_, f17⟩, rfl⟩, [_, _, _, _], rfl, ?_⟩
          simp only [List.getElem_toArray, List.getElem_cons_succ, List.getElem_cons_zero]
          repeat go_big_quiet_step (fail)
          refine wpQuiet_nil ?_
          refine ⟨_, rfl, ?_⟩
          go_wp2_with fail
          refine ⟨⟨⟨_, (f17.alloc (.cells #[.int .i64 0, .int .u64 0, sv []] 68))⟩, rfl⟩, ?_⟩
          show G _ _
          rw [HG.out]
          exact ⟨W.heap.size, y17.heap.size, by kernel_rfl, (f17.alloc (.cells #[.int .i64 0, .int .u64 0, sv []] 68)), (h17_27.alloc _), (Has.newC _ _ _ (by simp)), by omega, by omega, by omega⟩
        · go_wp2_with fail
          refine ⟨⟨⟨_, ((((Fr.refl _ W).drew).alloc (.cells #[.int .i64 0, .int .u64 0, sv []] 68)).alloc (.cells #[.int .i64 0, .int .u64 0, sv []] 68))⟩, rfl⟩, _, rfl, ?_⟩
          go_wp2_with fail
          refine (NXT.out _ ((((Fr.refl _ W).drew).alloc (.cells #[.int .i64 0, .int .u64 0, sv []] 68)).alloc (.cells #[.int .i64 0, .int .u64 0, sv []] 68))).mono ?_
          rintro e50 y20 ⟨rfl, g20⟩
          have f20 : Fr (fun _ => False) W y20 := ((((Fr.refl _ W).drew).alloc (.cells #[.int .i64 0, .int .u64 0, sv []] 68)).alloc (.cells #[.int .i64 0, .int .u64 0, sv []] 68)).trans g20 (fun _ _ x => x)
          have z20 := f20.size
          have h20_27 : Has y20 (W.heap.size) #[.int .i64 0, .int .u64 0, sv []] 68 := Has.fr ((Has.newC _ _ _ (by simp)).alloc _) g20 (fun x => x)
          have l20_27 := h20_27.lt
          have h20_28 : Has y20 (W.heap.size + 1) #[.int .i64 0, .int .u64 0, sv []] 68 := Has.fr (Has.newC _ _ _ (by simp)) g20 (fun x => x)
          have l20_28 := h20_28.lt
          clear g20
          go_wp2_with fail
          refine ⟨⟨⟨_, f20⟩, rfl⟩, [_, _, _, _], rfl, ?_⟩
          simp only [List.getElem_toArray, List.getElem_cons_succ, List.getElem_cons_zero]
          repeat go_big_quiet_step (fail)
          refine wpQuiet_nil ?_
          show G _ _
          rw [HG.out]
          exact ⟨W.heap.size, W.heap.size + 1, by kernel_rfl, f20, h20_27, h20_28, by omega, by omega, by omega⟩
      · go_wp2_with fail
        refine ⟨⟨⟨_, ((((Fr.refl _ W).drew).alloc (.cells #[.int .i64 0, .int .u64 0, sv []] 68)).alloc (.cells #[.int .i64 0, .int .u64 0, sv []] 68))⟩, rfl⟩, _, rfl, ?_⟩
        go_wp2_with fail
        refine ⟨⟨⟨_, ((((Fr.refl _ W).drew).alloc (.cells #[.int .i64 0, .int .u64 0, sv []] 68)).alloc (.cells #[.int .i64 0, .int .u64 0, sv []] 68))⟩, rfl⟩, _, rfl, ?_⟩
        go_wp2_with fail
        refine (NXT.out _ ((((Fr.refl _ W).drew).alloc (.cells #[.int .i64 0, .int .u64 0, sv []] 68)).alloc (.cells #[.int .i64 0, .int .u64 0, sv []] 68))).mono ?_
        rintro e52 y22 ⟨rfl, g22⟩
        have f22 : Fr (fun _ => False) W y22 := ((((Fr.refl _ W).drew).alloc (.cells #[.int .i64 0, .int .u64 0, sv []] 68)).alloc (.cells #[.int .i64 0, .int .u64 0, sv []] 68)).trans g22 (fun _ _ x => x)
        have z22 := f22.size
        have h22_27 : Has y22 (W.heap.size) #[.int .i64 0, .int .u64 0, sv []] 68 := Has.fr ((Has.newC _ _ _ (by simp)).alloc _) g22 (fun x => x)
        have l22_27 := h22_27.lt
        have h22_28 : Has y22 (W.heap.size + 1) #[.int .i64 0, .int .u64 0, sv []] 68 := Has.fr (Has.newC _ _ _ (by simp)) g22 (fun x => x)
        have l22_28 := h22_28.lt
        clear g22
        go_wp2_with fail
        refine ⟨⟨⟨_, f22⟩, rfl⟩, [_, _, _, _], rfl, ?_⟩
        simp only [List.getElem_toArray, List.getElem_cons_succ, List.getElem_cons_zero]
        repeat go_big_quiet_step (fail)
        refine wpQuiet_nil ?_
        show G _ _
        rw [HG.out]
        exact ⟨W.heap.size, W.heap.size + 1, by kernel_rfl, f22, h22_27, h22_28, by omega, by omega, by omega⟩
    · go_wp2_with fail
      refine ⟨⟨⟨_, (((Fr.refl _ W).drew).alloc (.cells #[.int .i64 0, .int .u64 0, sv []] 68))⟩, rfl⟩, ⟨_, rfl, ?_⟩, ⟨_, rfl, ?_⟩⟩
      · go_wp2_with fail
        refine ⟨⟨⟨_, (((Fr.refl _ W).drew).alloc (.cells #[.int .i64 0, .int .u64 0, sv []] 68))⟩, rfl⟩, ⟨_, rfl, ?_⟩, ⟨_, rfl, ?_⟩⟩
        · go_wp2_with fail
          refine (NXT.out _ (((Fr.refl _ W).drew).alloc (.cells #[.int .i64 0, .int .u64 0, sv []] 68))).mono ?_
          rintro e54 y24 ⟨rfl, g24⟩
          have f24 : Fr (fun _ => False) W y24 := (((Fr.refl _ W).drew).alloc (.cells #[.int .i64 0, .int .u64 0, sv []] 68)).trans g24 (fun _ _ x => x)
          have z24 := f24.size
          have h24_28 : Has y24 (W.heap.size) #[.int .i64 0, .int .u64 0, sv []] 68 := Has.fr (Has.newC _ _ _ (by simp)) g24 (fun x => x)
          have l24_28 := h24_28.lt
          clear g24
          go_wp2_with fail
          refine ⟨⟨⟨_, f24⟩, rfl⟩, [_, _, _, _], rfl, ?_⟩
          simp only [List.getElem_toArray, List.getElem_cons_succ, List.getElem_cons_zero]
          repeat go_big_quiet_step (fail)
          refine wpQuiet_nil ?_
          refine ⟨_, rfl, ?_⟩
          go_wp2_with fail
          refine ⟨⟨⟨_, (f24.alloc (.cells #[.int .i64 0, .int .u64 0, sv []] 68))⟩, rfl⟩, ?_⟩
          show G _ _
          rw [HG.out]
          exact ⟨y24.heap.size, W.heap.size, by kernel_rfl, (f24.alloc (.cells #[.int .i64 0, .int .u64 0, sv []] 68)), (Has.newC _ _ _ (by simp)), (h24_28.alloc _), by omega, by omega, by omega⟩
        · go_wp2_with fail
          refine ⟨⟨⟨_, ((((Fr.refl _ W).drew).alloc (.cells #[.int .i64 0, .int .u64 0, sv []] 68)).alloc (.cells #[.int .i64 0, .int .u64 0, sv []] 68))⟩, rfl⟩, _, rfl, ?_⟩
          go_wp2_with fail
          refine (NXT.out _ ((((Fr.refl _ W).drew).alloc (.cells #[.int .i64 0, .int .u64 0, sv []] 68)).alloc (.cells #[.int .i64 0, .int .u64 0, sv []] 68))).mono ?_
          rintro e57 y27 ⟨rfl, g27⟩
          have f27 : Fr (fun _ => False) W y27 := ((((Fr.refl _ W).drew).alloc (.cells #[.int .i64 0, .int .u64 0, sv []] 68)).alloc (.cells #[.int .i64 0, .int .u64 0, sv []] 68)).trans g27 (fun _ _ x => x)
          have z27 := f27.size
          have h27_28 : Has y27 (W.heap.size) #[.int .i64 0, .int .u64 0, sv []] 68 := Has.fr ((Has.newC _ _ _ (by simp)).alloc _) g27 (fun x => x)
          have l27_28 := h27_28.lt
          have h27_27 : Has y27 (W.heap.size + 1) #[.int .i64 0, .int .u64 0, sv []] 68 := Has.fr (Has.newC _ _ _ (by simp)) g27 (fun x => x)
          have l27_27 := h27_27.lt
          clear g27
          go_wp2_with fail
          refine ⟨⟨⟨_, f27⟩, rfl⟩, [_, _, _, _], rfl, ?_⟩
          simp only [List.getElem_toArray, List.getElem_cons_succ, List.getElem_cons_zero]
          repeat go_big_quiet_step (fail)
          refine wpQuiet_nil ?_
          show G _ _
          rw [HG.out]
          exact ⟨W.heap.size + 1, W.heap.size, by kernel_rfl, f27, h27_27, h27_28, by omega, by omega, by omega⟩
      · go_wp2_with fail
        refine ⟨⟨⟨_, ((((Fr.refl _ W).drew).alloc (.cells #[.int .i64 0, .int .u64 0, sv []] 68)).alloc (.cells #[.int .i64 0, .int .u64 0, sv []] 68))⟩, rfl⟩, _, rfl, ?_⟩
        go_wp2_with fail
        refine ⟨⟨⟨_, ((((Fr.refl _ W).drew).alloc (.cells #[.int .i64 0, .int .u64 0, sv []] 68)).alloc (.cells #[.int .i64 0, .int .u64 0, sv []] 68))⟩, rfl⟩, _, rfl, ?_⟩
        go_wp2_with fail
        refine (NXT.out _ ((((Fr.refl _ W).drew).alloc (.cells #[.int .i64 0, .int .u64 0, sv []] 68)).alloc (.cells #[.int .i64 0, .int .u64 0, sv []] 68))).mono ?_
        rintro e59 y29 ⟨rfl, g29⟩
        have f29 : Fr (fun _ => False) W y29 := ((((Fr.refl _ W).drew).alloc (.cells #[.int .i64 0, .int .u64 0, sv []] 68)).alloc (.cells #[.int .i64 0, .int .u64 0, sv []] 68)).trans g29 (fun _ _ x => x)
        have z29 := f29.size
        have h29_28 : Has y29 (W.heap.size) #[.int .i64 0, .int .u64 0, sv []] 68 := Has.fr ((Has.newC _ _ _ (by simp)).alloc _) g29 (fun x => x)
        have l29_28 := h29_28.lt
        have h29_27 : Has y29 (W.heap.size + 1) #[.int .i64 0, .int .u64 0, sv []] 68 := Has.fr (Has.newC _ _ _ (by simp)) g29 (fun x => x)
        have l29_27 := h29_27.lt
        clear g29
        go_wp2_with fail
        refine ⟨⟨⟨_, f29⟩, rfl⟩, [_, _, _, _], rfl, ?_⟩
        simp only [List.getElem_toArray, List.getElem_cons_succ, List.getElem_cons_zero]
        repeat go_big_quiet_step (fail)
        refine wpQuiet_nil ?_
        show G _ _
        rw [HG.out]
        exact ⟨W.heap.size + 1, W.heap.size, by kernel_rfl, f29, h29_27, h29_28, by omega, by omega, by omega⟩
end
end Go.Proofs.Qxb6500574aGreatDoor
