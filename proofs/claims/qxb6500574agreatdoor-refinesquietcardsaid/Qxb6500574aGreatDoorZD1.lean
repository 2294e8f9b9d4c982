/-
  THE WALKS of compm: step: its parts, its beginning.
-/
import Derived.Test.Qxb6500574aGreatDoorZC28
import Derived.Test.Qxb6500574aGreatDoorZC25
namespace Go.Proofs.Qxb6500574aGreatDoor
open Go Go.RowKit
set_option linter.unusedVariables false
set_option linter.unusedSimpArgs false
theorem cwp_at {P : Program} {c : Code} {Q : Exit → Act → World → Prop} {a : Act} {w w' : World} (h : w = w') (g : c.wp P Q a w') : c.wp P Q a w := h ▸ g
def cTz : Code → Code
  | .seq _ (.cond _ x _) => x
  | c => c
def cE : Code → Code
  | .seq _ (.cond _ _ y) => y
  | c => c
/-- the code behind the beginning -/
def stB (c : Option Code) : Code := cR (cR (cR (cR (cR (cR (c.getD .skip))))))
/-- behind j tests -/
def stC : Nat → Code → Code
  | 0, c => c
  | j + 1, c => cE (stC j c)
structure FrZs (v0 v2 v3 v4 v92 : Value) (a : Act) : Prop where
  size : a.tmps.size = 820
  t0 : a.tmps[0]? = some v0
  t2 : a.tmps[2]? = some v2
  t3 : a.tmps[3]? = some v3
  t4 : a.tmps[4]? = some v4
  t92 : a.tmps[92]? = some v92
  df : a.defers = []
set_option maxRecDepth 100000 in
theorem range820 {α : Type} (u : Nat → α) : (List.range 820).map u = u 0 :: u 1 :: u 2 :: u 3 :: u 4 :: u 5 :: u 6 :: u 7 :: u 8 :: u 9 :: u 10 :: u 11 :: u 12 :: u 13 :: u 14 :: u 15 :: u 16 :: u 17 :: u 18 :: u 19 :: u 20 :: u 21 :: u 22 :: u 23 :: u 24 :: u 25 :: u 26 :: u 27 :: u 28 :: u 29 :: u 30 :: u 31 :: u 32 :: u 33 :: u 34 :: u 35 :: u 36 :: u 37 :: u 38 :: u 39 :: u 40 :: u 41 :: u 42 :: u 43 :: u 44 :: u 45 :: u 46 :: u 47 :: u 48 :: u 49 :: u 50 :: u 51 :: u 52 :: u 53 :: u 54 :: u 55 :: u 56 :: u 57 :: u 58 :: u 59 :: u 60 :: u 61 :: u 62 :: u 63 :: u 64 :: u 65 :: u 66 :: u 67 :: u 68 :: u 69 :: u 70 :: u 71 :: u 72 :: u 73 :: u 74 :: u 75 :: u 76 :: u 77 :: u 78 :: u 79 :: u 80 :: u 81 :: u 82 :: u 83 :: u 84 :: u 85 :: u 86 :: u 87 :: u 88 :: u 89 :: u 90 :: u 91 :: u 92 :: u 93 :: u 94 :: u 95 :: u 96 :: u 97 :: u 98 :: u 99 :: u 100 :: u 101 :: u 102 :: u 103 :: u 104 :: u 105 :: u 106 :: u 107 :: u 108 :: u 109 :: u 110 :: u 111 :: u 112 :: u 113 :: u 114 :: u 115 :: u 116 :: u 117 :: u 118 :: u 119 :: u 120 :: u 121 :: u 122 :: u 123 :: u 124 :: u 125 :: u 126 :: u 127 :: u 128 :: u 129 :: u 130 :: u 131 :: u 132 :: u 133 :: u 134 :: u 135 :: u 136 :: u 137 :: u 138 :: u 139 :: u 140 :: u 141 :: u 142 :: u 143 :: u 144 :: u 145 :: u 146 :: u 147 :: u 148 :: u 149 :: u 150 :: u 151 :: u 152 :: u 153 :: u 154 :: u 155 :: u 156 :: u 157 :: u 158 :: u 159 :: u 160 :: u 161 :: u 162 :: u 163 :: u 164 :: u 165 :: u 166 :: u 167 :: u 168 :: u 169 :: u 170 :: u 171 :: u 172 :: u 173 :: u 174 :: u 175 :: u 176 :: u 177 :: u 178 :: u 179 :: u 180 :: u 181 :: u 182 :: u 183 :: u 184 :: u 185 :: u 186 :: u 187 :: u 188 :: u 189 :: u 190 :: u 191 :: u 192 :: u 193 :: u 194 :: u 195 :: u 196 :: u 197 :: u 198 :: u 199 :: u 200 :: u 201 :: u 202 :: u 203 :: u 204 :: u 205 :: u 206 :: u 207 :: u 208 :: u 209 :: u 210 :: u 211 :: u 212 :: u 213 :: u 214 :: u 215 :: u 216 :: u 217 :: u 218 :: u 219 :: u 220 :: u 221 :: u 222 :: u 223 :: u 224 :: u 225 :: u 226 :: u 227 :: u 228 :: u 229 :: u 230 :: u 231 :: u 232 :: u 233 :: u 234 :: u 235 :: u 236 :: u 237 :: u 238 :: u 239 :: u 240 :: u 241 :: u 242 :: u 243 :: u 244 :: u 245 :: u 246 :: u 247 :: u 248 :: u 249 :: u 250 :: u 251 :: u 252 :: u 253 :: u 254 :: u 255 :: u 256 :: u 257 :: u 258 :: u 259 :: u 260 :: u 261 :: u 262 :: u 263 :: u 264 :: u 265 :: u 266 :: u 267 :: u 268 :: u 269 :: u 270 :: u 271 :: u 272 :: u 273 :: u 274 :: u 275 :: u 276 :: u 277 :: u 278 :: u 279 :: u 280 :: u 281 :: u 282 :: u 283 :: u 284 :: u 285 :: u 286 :: u 287 :: u 288 :: u 289 :: u 290 :: u 291 :: u 292 :: u 293 :: u 294 :: u 295 :: u 296 :: u 297 :: u 298 :: u 299 :: u 300 :: u 301 :: u 302 :: u 303 :: u 304 :: u 305 :: u 306 :: u 307 :: u 308 :: u 309 :: u 310 :: u 311 :: u 312 :: u 313 :: u 314 :: u 315 :: u 316 :: u 317 :: u 318 :: u 319 :: u 320 :: u 321 :: u 322 :: u 323 :: u 324 :: u 325 :: u 326 :: u 327 :: u 328 :: u 329 :: u 330 :: u 331 :: u 332 :: u 333 :: u 334 :: u 335 :: u 336 :: u 337 :: u 338 :: u 339 :: u 340 :: u 341 :: u 342 :: u 343 :: u 344 :: u 345 :: u 346 :: u 347 :: u 348 :: u 349 :: u 350 :: u 351 :: u 352 :: u 353 :: u 354 :: u 355 :: u 356 :: u 357 :: u 358 :: u 359 :: u 360 :: u 361 :: u 362 :: u 363 :: u 364 :: u 365 :: u 366 :: u 367 :: u 368 :: u 369 :: u 370 :: u 371 :: u 372 :: u 373 :: u 374 :: u 375 :: u 376 :: u 377 :: u 378 :: u 379 :: u 380 :: u 381 :: u 382 :: u 383 :: u 384 :: u 385 :: u 386 :: u 387 :: u 388 :: u 389 :: u 390 :: u 391 :: u 392 :: u 393 :: u 394 :: u 395 :: u 396 :: u 397 :: u 398 :: u 399 :: u 400 :: u 401 :: u 402 :: u 403 :: u 404 :: u 405 :: u 406 :: u 407 :: u 408 :: u 409 :: u 410 :: u 411 :: u 412 :: u 413 :: u 414 :: u 415 :: u 416 :: u 417 :: u 418 :: u 419 :: u 420 :: u 421 :: u 422 :: u 423 :: u 424 :: u 425 :: u 426 :: u 427 :: u 428 :: u 429 :: u 430 :: u 431 :: u 432 :: u 433 :: u 434 :: u 435 :: u 436 :: u 437 :: u 438 :: u 439 :: u 440 :: u 441 :: u 442 :: u 443 :: u 444 :: u 445 :: u 446 :: u 447 :: u 448 :: u 449 :: u 450 :: u 451 :: u 452 :: u 453 :: u 454 :: u 455 :: u 456 :: u 457 :: u 458 :: u 459 :: u 460 :: u 461 :: u 462 :: u 463 :: u 464 :: u 465 :: u 466 :: u 467 :: u 468 :: u 469 :: u 470 :: u 471 :: u 472 :: u 473 :: u 474 :: u 475 :: u 476 :: u 477 :: u 478 :: u 479 :: u 480 :: u 481 :: u 482 :: u 483 :: u 484 :: u 485 :: u 486 :: u 487 :: u 488 :: u 489 :: u 490 :: u 491 :: u 492 :: u 493 :: u 494 :: u 495 :: u 496 :: u 497 :: u 498 :: u 499 :: u 500 :: u 501 :: u 502 :: u 503 :: u 504 :: u 505 :: u 506 :: u 507 :: u 508 :: u 509 :: u 510 :: u 511 :: u 512 :: u 513 :: u 514 :: u 515 :: u 516 :: u 517 :: u 518 :: u 519 :: u 520 :: u 521 :: u 522 :: u 523 :: u 524 :: u 525 :: u 526 :: u 527 :: u 528 :: u 529 :: u 530 :: u 531 :: u 532 :: u 533 :: u 534 :: u 535 :: u 536 :: u 537 :: u 538 :: u 539 :: u 540 :: u 541 :: u 542 :: u 543 :: u 544 :: u 545 :: u 546 :: u 547 :: u 548 :: u 549 :: u 550 :: u 551 :: u 552 :: u 553 :: u 554 :: u 555 :: u 556 :: u 557 :: u 558 :: u 559 :: u 560 :: u 561 :: u 562 :: u 563 :: u 564 :: u 565 :: u 566 :: u 567 :: u 568 :: u 569 :: u 570 :: u 571 :: u 572 :: u 573 :: u 574 :: u 575 :: u 576 :: u 577 :: u 578 :: u 579 :: u 580 :: u 581 :: u 582 :: u 583 :: u 584 :: u 585 :: u 586 :: u 587 :: u 588 :: u 589 :: u 590 :: u 591 :: u 592 :: u 593 :: u 594 :: u 595 :: u 596 :: u 597 :: u 598 :: u 599 :: u 600 :: u 601 :: u 602 :: u 603 :: u 604 :: u 605 :: u 606 :: u 607 :: u 608 :: u 609 :: u 610 :: u 611 :: u 612 :: u 613 :: u 614 :: u 615 :: u 616 :: u 617 :: u 618 :: u 619 :: u 620 :: u 621 :: u 622 :: u 623 :: u 624 :: u 625 :: u 626 :: u 627 :: u 628 :: u 629 :: u 630 :: u 631 :: u 632 :: u 633 :: u 634 :: u 635 :: u 636 :: u 637 :: u 638 :: u 639 :: u 640 :: u 641 :: u 642 :: u 643 :: u 644 :: u 645 :: u 646 :: u 647 :: u 648 :: u 649 :: u 650 :: u 651 :: u 652 :: u 653 :: u 654 :: u 655 :: u 656 :: u 657 :: u 658 :: u 659 :: u 660 :: u 661 :: u 662 :: u 663 :: u 664 :: u 665 :: u 666 :: u 667 :: u 668 :: u 669 :: u 670 :: u 671 :: u 672 :: u 673 :: u 674 :: u 675 :: u 676 :: u 677 :: u 678 :: u 679 :: u 680 :: u 681 :: u 682 :: u 683 :: u 684 :: u 685 :: u 686 :: u 687 :: u 688 :: u 689 :: u 690 :: u 691 :: u 692 :: u 693 :: u 694 :: u 695 :: u 696 :: u 697 :: u 698 :: u 699 :: u 700 :: u 701 :: u 702 :: u 703 :: u 704 :: u 705 :: u 706 :: u 707 :: u 708 :: u 709 :: u 710 :: u 711 :: u 712 :: u 713 :: u 714 :: u 715 :: u 716 :: u 717 :: u 718 :: u 719 :: u 720 :: u 721 :: u 722 :: u 723 :: u 724 :: u 725 :: u 726 :: u 727 :: u 728 :: u 729 :: u 730 :: u 731 :: u 732 :: u 733 :: u 734 :: u 735 :: u 736 :: u 737 :: u 738 :: u 739 :: u 740 :: u 741 :: u 742 :: u 743 :: u 744 :: u 745 :: u 746 :: u 747 :: u 748 :: u 749 :: u 750 :: u 751 :: u 752 :: u 753 :: u 754 :: u 755 :: u 756 :: u 757 :: u 758 :: u 759 :: u 760 :: u 761 :: u 762 :: u 763 :: u 764 :: u 765 :: u 766 :: u 767 :: u 768 :: u 769 :: u 770 :: u 771 :: u 772 :: u 773 :: u 774 :: u 775 :: u 776 :: u 777 :: u 778 :: u 779 :: u 780 :: u 781 :: u 782 :: u 783 :: u 784 :: u 785 :: u 786 :: u 787 :: u 788 :: u 789 :: u 790 :: u 791 :: u 792 :: u 793 :: u 794 :: u 795 :: u 796 :: u 797 :: u 798 :: u 799 :: u 800 :: u 801 :: u 802 :: u 803 :: u 804 :: u 805 :: u 806 :: u 807 :: u 808 :: u 809 :: u 810 :: u 811 :: u 812 :: u 813 :: u 814 :: u 815 :: u 816 :: u 817 :: u 818 :: u 819 :: [] := rfl
set_option maxRecDepth 100000 in
theorem FrZs.form {v0 v2 v3 v4 v92 : Value} {a : Act} (H : FrZs v0 v2 v3 v4 v92 a) : ∃ u : Nat → Value, a = { tmps := List.toArray (v0 :: u 1 :: v2 :: v3 :: v4 :: u 5 :: u 6 :: u 7 :: u 8 :: u 9 :: u 10 :: u 11 :: u 12 :: u 13 :: u 14 :: u 15 :: u 16 :: u 17 :: u 18 :: u 19 :: u 20 :: u 21 :: u 22 :: u 23 :: u 24 :: u 25 :: u 26 :: u 27 :: u 28 :: u 29 :: u 30 :: u 31 :: u 32 :: u 33 :: u 34 :: u 35 :: u 36 :: u 37 :: u 38 :: u 39 :: u 40 :: u 41 :: u 42 :: u 43 :: u 44 :: u 45 :: u 46 :: u 47 :: u 48 :: u 49 :: u 50 :: u 51 :: u 52 :: u 53 :: u 54 :: u 55 :: u 56 :: u 57 :: u 58 :: u 59 :: u 60 :: u 61 :: u 62 :: u 63 :: u 64 :: u 65 :: u 66 :: u 67 :: u 68 :: u 69 :: u 70 :: u 71 :: u 72 :: u 73 :: u 74 :: u 75 :: u 76 :: u 77 :: u 78 :: u 79 :: u 80 :: u 81 :: u 82 :: u 83 :: u 84 :: u 85 :: u 86 :: u 87 :: u 88 :: u 89 :: u 90 :: u 91 :: v92 :: u 93 :: u 94 :: u 95 :: u 96 :: u 97 :: u 98 :: u 99 :: u 100 :: u 101 :: u 102 :: u 103 :: u 104 :: u 105 :: u 106 :: u 107 :: u 108 :: u 109 :: u 110 :: u 111 :: u 112 :: u 113 :: u 114 :: u 115 :: u 116 :: u 117 :: u 118 :: u 119 :: u 120 :: u 121 :: u 122 :: u 123 :: u 124 :: u 125 :: u 126 :: u 127 :: u 128 :: u 129 :: u 130 :: u 131 :: u 132 :: u 133 :: u 134 :: u 135 :: u 136 :: u 137 :: u 138 :: u 139 :: u 140 :: u 141 :: u 142 :: u 143 :: u 144 :: u 145 :: u 146 :: u 147 :: u 148 :: u 149 :: u 150 :: u 151 :: u 152 :: u 153 :: u 154 :: u 155 :: u 156 :: u 157 :: u 158 :: u 159 :: u 160 :: u 161 :: u 162 :: u 163 :: u 164 :: u 165 :: u 166 :: u 167 :: u 168 :: u 169 :: u 170 :: u 171 :: u 172 :: u 173 :: u 174 :: u 175 :: u 176 :: u 177 :: u 178 :: u 179 :: u 180 :: u 181 :: u 182 :: u 183 :: u 184 :: u 185 :: u 186 :: u 187 :: u 188 :: u 189 :: u 190 :: u 191 :: u 192 :: u 193 :: u 194 :: u 195 :: u 196 :: u 197 :: u 198 :: u 199 :: u 200 :: u 201 :: u 202 :: u 203 :: u 204 :: u 205 :: u 206 :: u 207 :: u 208 :: u 209 :: u 210 :: u 211 :: u 212 :: u 213 :: u 214 :: u 215 :: u 216 :: u 217 :: u 218 :: u 219 :: u 220 :: u 221 :: u 222 :: u 223 :: u 224 :: u 225 :: u 226 :: u 227 :: u 228 :: u 229 :: u 230 :: u 231 :: u 232 :: u 233 :: u 234 :: u 235 :: u 236 :: u 237 :: u 238 :: u 239 :: u 240 :: u 241 :: u 242 :: u 243 :: u 244 :: u 245 :: u 246 :: u 247 :: u 248 :: u 249 :: u 250 :: u 251 :: u 252 :: u 253 :: u 254 :: u 255 :: u 256 :: u 257 :: u 258 :: u 259 :: u 260 :: u 261 :: u 262 :: u 263 :: u 264 :: u 265 :: u 266 :: u 267 :: u 268 :: u 269 :: u 270 :: u 271 :: u 272 :: u 273 :: u 274 :: u 275 :: u 276 :: u 277 :: u 278 :: u 279 :: u 280 :: u 281 :: u 282 :: u 283 :: u 284 :: u 285 :: u 286 :: u 287 :: u 288 :: u 289 :: u 290 :: u 291 :: u 292 :: u 293 :: u 294 :: u 295 :: u 296 :: u 297 :: u 298 :: u 299 :: u 300 :: u 301 :: u 302 :: u 303 :: u 304 :: u 305 :: u 306 :: u 307 :: u 308 :: u 309 :: u 310 :: u 311 :: u 312 :: u 313 :: u 314 :: u 315 :: u 316 :: u 317 :: u 318 :: u 319 :: u 320 :: u 321 :: u 322 :: u 323 :: u 324 :: u 325 :: u 326 :: u 327 :: u 328 :: u 329 :: u 330 :: u 331 :: u 332 :: u 333 :: u 334 :: u 335 :: u 336 :: u 337 :: u 338 :: u 339 :: u 340 :: u 341 :: u 342 :: u 343 :: u 344 :: u 345 :: u 346 :: u 347 :: u 348 :: u 349 :: u 350 :: u 351 :: u 352 :: u 353 :: u 354 :: u 355 :: u 356 :: u 357 :: u 358 :: u 359 :: u 360 :: u 361 :: u 362 :: u 363 :: u 364 :: u 365 :: u 366 :: u 367 :: u 368 :: u 369 :: u 370 :: u 371 :: u 372 :: u 373 :: u 374 :: u 375 :: u 376 :: u 377 :: u 378 :: u 379 :: u 380 :: u 381 :: u 382 :: u 383 :: u 384 :: u 385 :: u 386 :: u 387 :: u 388 :: u 389 :: u 390 :: u 391 :: u 392 :: u 393 :: u 394 :: u 395 :: u 396 :: u 397 :: u 398 :: u 399 :: u 400 :: u 401 :: u 402 :: u 403 :: u 404 :: u 405 :: u 406 :: u 407 :: u 408 :: u 409 :: u 410 :: u 411 :: u 412 :: u 413 :: u 414 :: u 415 :: u 416 :: u 417 :: u 418 :: u 419 :: u 420 :: u 421 :: u 422 :: u 423 :: u 424 :: u 425 :: u 426 :: u 427 :: u 428 :: u 429 :: u 430 :: u 431 :: u 432 :: u 433 :: u 434 :: u 435 :: u 436 :: u 437 :: u 438 :: u 439 :: u 440 :: u 441 :: u 442 :: u 443 :: u 444 :: u 445 :: u 446 :: u 447 :: u 448 :: u 449 :: u 450 :: u 451 :: u 452 :: u 453 :: u 454 :: u 455 :: u 456 :: u 457 :: u 458 :: u 459 :: u 460 :: u 461 :: u 462 :: u 463 :: u 464 :: u 465 :: u 466 :: u 467 :: u 468 :: u 469 :: u 470 :: u 471 :: u 472 :: u 473 :: u 474 :: u 475 :: u 476 :: u 477 :: u 478 :: u 479 :: u 480 :: u 481 :: u 482 :: u 483 :: u 484 :: u 485 :: u 486 :: u 487 :: u 488 :: u 489 :: u 490 :: u 491 :: u 492 :: u 493 :: u 494 :: u 495 :: u 496 :: u 497 :: u 498 :: u 499 :: u 500 :: u 501 :: u 502 :: u 503 :: u 504 :: u 505 :: u 506 :: u 507 :: u 508 :: u 509 :: u 510 :: u 511 :: u 512 :: u 513 :: u 514 :: u 515 :: u 516 :: u 517 :: u 518 :: u 519 :: u 520 :: u 521 :: u 522 :: u 523 :: u 524 :: u 525 :: u 526 :: u 527 :: u 528 :: u 529 :: u 530 :: u 531 :: u 532 :: u 533 :: u 534 :: u 535 :: u 536 :: u 537 :: u 538 :: u 539 :: u 540 :: u 541 :: u 542 :: u 543 :: u 544 :: u 545 :: u 546 :: u 547 :: u 548 :: u 549 :: u 550 :: u 551 :: u 552 :: u 553 :: u 554 :: u 555 :: u 556 :: u 557 :: u 558 :: u 559 :: u 560 :: u 561 :: u 562 :: u 563 :: u 564 :: u 565 :: u 566 :: u 567 :: u 568 :: u 569 :: u 570 :: u 571 :: u 572 :: u 573 :: u 574 :: u 575 :: u 576 :: u 577 :: u 578 :: u 579 :: u 580 :: u 581 :: u 582 :: u 583 :: u 584 :: u 585 :: u 586 :: u 587 :: u 588 :: u 589 :: u 590 :: u 591 :: u 592 :: u 593 :: u 594 :: u 595 :: u 596 :: u 597 :: u 598 :: u 599 :: u 600 :: u 601 :: u 602 :: u 603 :: u 604 :: u 605 :: u 606 :: u 607 :: u 608 :: u 609 :: u 610 :: u 611 :: u 612 :: u 613 :: u 614 :: u 615 :: u 616 :: u 617 :: u 618 :: u 619 :: u 620 :: u 621 :: u 622 :: u 623 :: u 624 :: u 625 :: u 626 :: u 627 :: u 628 :: u 629 :: u 630 :: u 631 :: u 632 :: u 633 :: u 634 :: u 635 :: u 636 :: u 637 :: u 638 :: u 639 :: u 640 :: u 641 :: u 642 :: u 643 :: u 644 :: u 645 :: u 646 :: u 647 :: u 648 :: u 649 :: u 650 :: u 651 :: u 652 :: u 653 :: u 654 :: u 655 :: u 656 :: u 657 :: u 658 :: u 659 :: u 660 :: u 661 :: u 662 :: u 663 :: u 664 :: u 665 :: u 666 :: u 667 :: u 668 :: u 669 :: u 670 :: u 671 :: u 672 :: u 673 :: u 674 :: u 675 :: u 676 :: u 677 :: u 678 :: u 679 :: u 680 :: u 681 :: u 682 :: u 683 :: u 684 :: u 685 :: u 686 :: u 687 :: u 688 :: u 689 :: u 690 :: u 691 :: u 692 :: u 693 :: u 694 :: u 695 :: u 696 :: u 697 :: u 698 :: u 699 :: u 700 :: u 701 :: u 702 :: u 703 :: u 704 :: u 705 :: u 706 :: u 707 :: u 708 :: u 709 :: u 710 :: u 711 :: u 712 :: u 713 :: u 714 :: u 715 :: u 716 :: u 717 :: u 718 :: u 719 :: u 720 :: u 721 :: u 722 :: u 723 :: u 724 :: u 725 :: u 726 :: u 727 :: u 728 :: u 729 :: u 730 :: u 731 :: u 732 :: u 733 :: u 734 :: u 735 :: u 736 :: u 737 :: u 738 :: u 739 :: u 740 :: u 741 :: u 742 :: u 743 :: u 744 :: u 745 :: u 746 :: u 747 :: u 748 :: u 749 :: u 750 :: u 751 :: u 752 :: u 753 :: u 754 :: u 755 :: u 756 :: u 757 :: u 758 :: u 759 :: u 760 :: u 761 :: u 762 :: u 763 :: u 764 :: u 765 :: u 766 :: u 767 :: u 768 :: u 769 :: u 770 :: u 771 :: u 772 :: u 773 :: u 774 :: u 775 :: u 776 :: u 777 :: u 778 :: u 779 :: u 780 :: u 781 :: u 782 :: u 783 :: u 784 :: u 785 :: u 786 :: u 787 :: u 788 :: u 789 :: u 790 :: u 791 :: u 792 :: u 793 :: u 794 :: u 795 :: u 796 :: u 797 :: u 798 :: u 799 :: u 800 :: u 801 :: u 802 :: u 803 :: u 804 :: u 805 :: u 806 :: u 807 :: u 808 :: u 809 :: u 810 :: u 811 :: u 812 :: u 813 :: u 814 :: u 815 :: u 816 :: u 817 :: u 818 :: u 819 :: []), defers := [] } := by
  obtain ⟨tmps, defers⟩ := a
  obtain ⟨hz, h0, h2, h3, h4, h92, hd⟩ := H
  simp only at hz h0 h2 h3 h4 h92 hd
  subst hd
  refine ⟨fun i => tmps.getD i undef, ?_⟩
  congr 1
  apply Array.ext'
  have e : tmps.toList = (List.range 820).map (fun i => tmps.getD i undef) := by
    apply List.ext_getElem
    · simpa using hz
    · intro i a1 a2
      simp at a1
      simp [Array.getD, a1]
  rw [e]
  have g0 : tmps.getD 0 undef = v0 := by simp [Array.getD_eq_getD_getElem?, h0]
  have g2 : tmps.getD 2 undef = v2 := by simp [Array.getD_eq_getD_getElem?, h2]
  have g3 : tmps.getD 3 undef = v3 := by simp [Array.getD_eq_getD_getElem?, h3]
  have g4 : tmps.getD 4 undef = v4 := by simp [Array.getD_eq_getD_getElem?, h4]
  have g92 : tmps.getD 92 undef = v92 := by simp [Array.getD_eq_getD_getElem?, h92]
  rw [← g0, ← g2, ← g3, ← g4, ← g92]
  exact range820 (fun i => tmps.getD i undef)
/-- a node in a block of its own -/
def ndC (d : Nd) : Array Value := #[.int .i64 d.k, .int .i64 d.a, .int .i64 d.b, .int .i64 d.c, .int .i64 d.next, .int .u64 d.n, sv d.s, .int .i64 d.p]
/-- at the tests -/
structure StZ (w : World) (A : RnP) (N : List Nd) (root : Nat) (W : World) (A1 : RnP) (m : MD) (bT bD xb : Nat) (k : TkD) (d : Nd) : Prop where
  B : RB w A N root W A1 m
  LT : LcB W A1 bT #[.int .i64 k.k, .int .i64 k.n, .int .i64 k.x, .pointer (eAd A.E k.e)] 224
  LD : LcB W A1 bD (ndC d) 134
  x : ∃ x, A1.X[m.cur]? = some x ∧ x.b = xb
  he : ∀ i, k.e = some i → i < A.E.length
section
variable {w W W1 : World} {A A1 A2 : RnP} {N : List Nd} {root : Nat} {M m : MD} {k : TkD} {r : List TkD}
theorem RB.setL (B : RB w A N root W A1 m) {b : Nat} (z : A1.o b = 0) (hb : w.heap.size ≤ b) (i : Nat) (u : Value) : RB w A N root (W.setCell ⟨b, i, none⟩ u) A1 m := ⟨B.r.setL z i u, B.s.setL hb i u, B.c⟩
theorem LcB.setO {b c : Nat} {cs : Array Value} {T : TypeId} (L : LcB W A1 c cs T) (hn : c ≠ b) (i : Nat) (u : Value) : LcB (W.setCell ⟨b, i, none⟩ u) A1 c cs T := ⟨L.h.other (p := ⟨b, i, none⟩) hn _, L.z⟩
theorem LcB.setS {c : Nat} {cs : Array Value} {T : TypeId} (L : LcB W A1 c cs T) (i : Nat) (u : Value) : LcB (W.setCell ⟨c, i, none⟩ u) A1 c (cs.setIfInBounds i u) T := ⟨L.h.put i u, L.z⟩
set_option maxRecDepth 100000
set_option maxHeartbeats 2000000
theorem st_eq : Tryz.f77.body = some (Code.seq (cL (Tryz.f77.body.getD .skip)) (Code.seq (cL (cR (Tryz.f77.body.getD .skip))) (Code.seq (cL (cR (cR (Tryz.f77.body.getD .skip)))) (Code.seq (cL (cR (cR (cR (Tryz.f77.body.getD .skip))))) (Code.seq (cL (cR (cR (cR (cR (Tryz.f77.body.getD .skip)))))) (Code.seq (cL (cR (cR (cR (cR (cR (Tryz.f77.body.getD .skip))))))) (stB Tryz.f77.body))))))) := by kernel_rfl
theorem step_head (B : RB w A N root W A1 m) (hk : m.th.tasks = k :: r) (hl : m.th.tasks.length ≤ 1000000) (he : ∀ i, k.e = some i → i < A.E.length) (hn : k.k ≠ 3 → k.n < N.length) (hN : N.length ≤ 1000) {R : MD}
    (hT : ∀ (W1 : World) (A1 : RnP) (bT bD xb : Nat) (a : Act), StZ w A N root W1 A1 (m.upT fun t => { t with tasks := r }) bT bD xb k (if k.k = 3 then nd0 else N.getD k.n nd0) → FrZs (.pointer (some ⟨A.br, 0, none⟩)) (.pointer (some ⟨xb, 0, none⟩)) (.pointer (some ⟨bT, 0, none⟩)) (.pointer (some ⟨bD, 0, none⟩)) (.int .i64 k.k) a → (stB Tryz.f77.body).wp Tryz.prog (bodyPost Tryz.prog Tryz.f77 (PQm w A N root R)) a W1) :
    Calls Tryz.prog 77 #[.pointer (some ⟨A.br, 0, none⟩)] W (PQm w A N root R) := by
  obtain ⟨TL, HTL⟩ : ∃ TL, Hid (stB Tryz.f77.body = TL) := ⟨_, rfl⟩
  have EQ := st_eq
  rw [HTL.out] at EQ hT
  obtain ⟨Q, HQ⟩ : ∃ Q : Ending → World → Prop, Hid (PQm w A N root R = Q) := ⟨_, rfl⟩
  rw [HQ.out] at hT ⊢
  refine calls_of_wp Tryz.func77 EQ ?_
  have HT := hid hT
  obtain ⟨gt, xx, hxx, htt, ⟨c5, c12, cg, l1, l2, l3, lc2, cl, t5⟩, O⟩ := B.r.cur B.c
  rw [B.s.br] at c5 c12 l1
  obtain ⟨g, ga, gc, gl, lb, c3, f3, t0, t1, t2, t3⟩ := B.r.topK B.c hk hxx
  have HPK : Hid (∀ V, Fr (fun _ => False) W V → ∃ A', MRep (V.setCell ⟨xx.b, 3, none⟩ (.slice (some ⟨g, 0, none⟩) r.length xx.tk.c)) A' N root (m.upT fun t => { t with tasks := r }) ∧ MSt V A1 (V.setCell ⟨xx.b, 3, none⟩ (.slice (some ⟨g, 0, none⟩) r.length xx.tk.c)) A' ∧ A'.X[m.cur]? = some xx) := fun V hV => B.r.popK B.c hk hxx ga hV
  have HB := hid B
  have HXX := hid hxx
  have HE := hid he
  have e3 := B.s.ep he
  unfold ePtr at e3
  rw [e3] at t3
  obtain ⟨LT, HLT⟩ : ∃ LT : Nat, Hid (m.ths.length = LT) := ⟨_, rfl⟩
  obtain ⟨cu, HCU⟩ : ∃ cu : Nat, Hid (m.cur = cu) := ⟨_, rfl⟩
  rw [HLT.out] at c5 lc2 cl t5
  rw [HCU.out] at c12 cg cl
  obtain ⟨n, HNL⟩ : ∃ n : Nat, Hid (r.length = n) := ⟨_, rfl⟩
  have hnl : n ≤ 1000000 := by rw [← HNL.out]; rw [hk] at hl; simp at hl; omega
  rw [HNL.out] at c3 t0 t1 t2 t3 gc HPK
  obtain ⟨kk, kn, kx, ke⟩ := k
  dsimp only at t0 t1 t2 t3 hn HT HE
  obtain ⟨ea, HEA⟩ : ∃ ea, Hid (eAd A.E ke = ea) := ⟨_, rfl⟩
  rw [HEA.out] at t3
  obtain ⟨xb, HXB⟩ : ∃ xb, Hid (xx.b = xb) := ⟨_, rfl⟩
  rw [HXB.out] at c3 cg f3 lb l3 HPK
  obtain ⟨cap, HCAP⟩ : ∃ cap : Nat, Hid (xx.tk.c = cap) := ⟨_, rfl⟩
  rw [HCAP.out] at c3 gc HPK
  have HHN := hid hn
  have HHN2 := hid hN
  clear hT EQ HTL B hk hl he hn hN O hxx htt ga e3
  simp only [Tryz.ntmps77, List.size_toArray, List.length_cons, List.length_nil, Nat.reduceAdd, Nat.reduceSub, Array.replicate_succ, Array.replicate_zero, List.push_toArray, List.append_toArray, List.nil_append, List.cons_append]
  simp only [cL, cR, Tryz.f77, Option.getD_some]
  go_wp2_with fail
  refine wp_region_tail 10 (by kernel_rfl) (by kernel_rfl) (fun _ _ _ _ _ h => h) ?_
  simp only [List.take_succ_cons, List.take_zero, List.drop_succ_cons, List.drop_zero]
  repeat go_big_quiet_step (fail)
  refine wpQuiet_nil ?_
  go_wp2_with fail
  obtain ⟨V0, HV0⟩ : ∃ V0, Hid (W.drew = V0) := ⟨_, rfl⟩
  rw [HV0.out]
  have FV0 : Fr (fun _ => False) W V0 := by rw [← HV0.out]; exact (Fr.refl _ _).drew
  have HF0 := hid FV0
  have hsz : V0.heap.size = W.heap.size := by rw [← HV0.out]; rfl
  have HSZ := hid hsz
  have c3v := FV0.cell c3
  have t0v := FV0.cell t0
  have t1v := FV0.cell t1
  have t2v := FV0.cell t2
  have t3v := FV0.cell t3
  have k0 := fun z : WS V0 => z.f.cell c3v
  have k1 := fun z : WS V0 => z.f.cell t0v
  have k2 := fun z : WS V0 => z.f.cell t1v
  have k3 := fun z : WS V0 => z.f.cell t2v
  have k4 := fun z : WS V0 => z.f.cell t3v
  have NE := WS.non V0
  have e1 : (n : Int) + 1 - 1 = n := by omega
  have hpos : (0 : Int) < (n : Int) + 1 := by omega
  have lbV0 : xb < V0.heap.size := Nat.lt_of_lt_of_le lb FV0.size
  have glV0 : g < V0.heap.size := Nat.lt_of_lt_of_le gl FV0.size
  clear c5 c12 cg l1 l2 l3 lc2 cl t5 FV0 t0 t1 t2 t3 t0v t1v t2v t3v hsz
  refine wp_region_head 12 1 (fun y => ∃ s : WS V0, y = s.y) (by kernel_rfl) (by kernel_rfl) (fun _ _ _ _ _ h => h) ⟨⟨V0.drew, (Fr.refl _ _).drew⟩, rfl⟩ ?_
  simp only [List.take_succ_cons, List.take_zero, List.drop_succ_cons, List.drop_zero]
  repeat go_big_quiet_step (fail)
  refine wpQuiet_nil ?_
  unfold wpChain
  go_wp2_with fail
  refine ⟨⟨⟨_, ((Fr.refl _ _).alloc _).drew⟩, rfl⟩, ?_⟩
  rw [wpChain_zero]
  go_wp2_with fail
  clear k0 k1 k2 k3 k4 NE
  have FV : Fr (fun _ => False) W ((V0.alloc (.cells #[.int .i64 kk, .int .i64 kn, .int .i64 kx, .pointer ea] 224)).drew) := (HF0.out.alloc _).drew
  have LK := (LcB.new (A := A1) (Stp.fresh (fun _ => False) A1.o HF0.out |>.hi HB.out.r.own) #[.int .i64 kk, .int .i64 kn, .int .i64 kx, .pointer ea] 224).fr (w1 := (V0.alloc (.cells #[.int .i64 kk, .int .i64 kn, .int .i64 kx, .pointer ea] 224)).drew) ((Fr.refl _ _).drew)
  generalize (V0.alloc (.cells #[.int .i64 kk, .int .i64 kn, .int .i64 kx, .pointer ea] 224)).drew = V at *
  obtain ⟨A2, R2, S2, hx2⟩ := HPK.out V FV
  have c3V := FV.cell c3
  have lbV : xb < V.heap.size := Nat.lt_of_lt_of_le lb FV.size
  have glV : g < V.heap.size := Nat.lt_of_lt_of_le gl FV.size
  have f3V : V.frozen? ⟨xb, 3, none⟩ = false := by rw [FV.frz lb]; exact f3
  obtain ⟨KB, HKB⟩ : ∃ KB, Hid (V0.heap.size = KB) := ⟨_, rfl⟩
  rw [HKB.out] at LK ⊢
  have nKB : KB ≠ xb := by rw [← HKB.out]; omega
  have nKB2 : xb ≠ KB := fun e => nKB e.symm
  have LK2 := LK.st S2
  have BB : RB w A N root (V.setCell ⟨xb, 3, none⟩ (.slice (some ⟨g, 0, none⟩) n cap)) A2 (m.upT fun t => { t with tasks := r }) := ⟨R2, HB.out.s.trans ((MSt.fresh A1 FV).trans S2), by rw [upT_len]; exact HB.out.c⟩
  have ly := LK.h.lt
  have HLK := hid LK2
  have HX2 := hid hx2
  obtain ⟨V2, HV2⟩ : ∃ V2, Hid (((V.setCell ⟨xb, 3, none⟩ (.slice (some ⟨g, 0, none⟩) n cap)).alloc (.cells (ndC nd0) 134)).drew = V2) := ⟨_, rfl⟩
  have FV2 : Fr (fun _ => False) (V.setCell ⟨xb, 3, none⟩ (.slice (some ⟨g, 0, none⟩) n cap)) V2 := by rw [← HV2.out]; exact ((Fr.refl _ _).alloc _).drew
  have B2 := BB.fresh FV2
  have HB2 := hid B2
  have LT2 := LK2.fr FV2
  have LD2 : LcB V2 A2 V.heap.size (ndC nd0) 134 := by
    rw [← HV2.out]
    exact (LcB.newC (b := V.heap.size) R2.own (ndC nd0) 134 (by simp)).fr ((Fr.refl _ _).drew)
  obtain ⟨DB, HDB⟩ : ∃ DB, Hid (V.heap.size = DB) := ⟨_, rfl⟩
  rw [HDB.out] at LD2
  have hnd : DB ≠ KB := by rw [← HDB.out]; omega
  have hnk : KB ≠ DB := fun e => hnd e.symm
  have HSD : Hid (w.heap.size ≤ DB) := by
    show _ ≤ _
    rw [← HDB.out]
    have := HB.out.s.s.fr.size
    have := FV.size
    omega
  have y0 := LK.h.cell 0
  simp only [List.getElem?_toArray, List.getElem?_cons_succ, List.getElem?_cons_zero] at y0
  have ly2 := LT2.h.lt
  have ld2 := LD2.h.lt
  have HLT2 := hid LT2
  have HLD2 := hid LD2
  clear HB HXX HPK c3 f3 lb gl FV LK LK2 R2 S2 hx2 BB lbV0 glV0 c3v HF0 FV2 LT2 LD2
  by_cases h3 : kk = 3
  · have b3 : ((kk : Int) != 3) = false := by rw [h3]; rfl
    have HH3 := hid h3
    clear h3
    go_wp2_with fail
    refine wp_region_tail 12 (by kernel_rfl) (by kernel_rfl) (fun _ _ _ _ _ h => h) ?_
    simp only [List.take_succ_cons, List.take_zero, List.drop_succ_cons, List.drop_zero]
    repeat go_big_quiet_step (fail)
    refine wpQuiet_nil ?_
    go_wp2_with fail
    rw [HDB.out]
    refine cwp_at HV2.out ?_
    refine HT.out _ A2 KB DB xb _ ⟨HB2.out, ?_, ?_, ⟨xx, ?_, HXB.out⟩, HE.out⟩ ⟨by kernel_rfl, by kernel_rfl, by kernel_rfl, by kernel_rfl, by kernel_rfl, by kernel_rfl, rfl⟩
    · rw [HEA.out]
      exact HLT2.out
    · rw [if_pos HH3.out]
      exact HLD2.out
    · exact HX2.out
  · have b3 : ((kk : Int) != 3) = true := by rw [bne_iff_ne]; omega
    have HH3 := hid h3
    go_wp2_with fail
    refine wp_region_tail 12 (by kernel_rfl) (by kernel_rfl) (fun _ _ _ _ _ h => h) ?_
    simp only [List.take_succ_cons, List.take_zero, List.drop_succ_cons, List.drop_zero]
    repeat go_big_quiet_step (fail)
    refine wpQuiet_nil ?_
    go_wp2_with fail
    rw [HDB.out]
    refine cwp_at HV2.out ?_
    clear c3V lbV glV f3V ly HLK y0
    have y0 := HLT2.out.h.cell 0
    have y1 := HLT2.out.h.cell 1
    simp only [List.getElem?_toArray, List.getElem?_cons_succ, List.getElem?_cons_zero] at y0 y1
    obtain ⟨gn, cn, c2, lc, lb, lg, ln, d0, d1, d2, d3, d4, d5, d6, d7⟩ := B2.nd (HHN.out h3)
    obtain ⟨⟨dk, da, db, dc, dnx, dn, dss, dp⟩, HD⟩ : ∃ d, Hid (N.getD kn nd0 = d) := ⟨_, rfl⟩
    rw [HD.out] at d0 d1 d2 d3 d4 d5 d6 d7
    dsimp only at d0 d1 d2 d3 d4 d5 d6 d7
    have hN1 := HHN2.out
    obtain ⟨NL, HNL2⟩ : ∃ NL : Nat, Hid (N.length = NL) := ⟨_, rfl⟩
    rw [HNL2.out] at c2 lc ln hN1
    have fD := HLD2.out.h.frozen
    have yD := HLD2.out.h.cell
    have z0 := fD 0
    have z1 := fD 1
    have z2 := fD 2
    have z3 := fD 3
    have z4 := fD 4
    have z5 := fD 5
    have z6 := fD 6
    have z7 := fD 7
    have x0 := yD 0
    have x1 := yD 1
    have x2 := yD 2
    have x3 := yD 3
    have x4 := yD 4
    have x5 := yD 5
    have x6 := yD 6
    have x7 := yD 7
    simp only [ndC, nd0, List.getElem?_toArray, List.getElem?_cons_succ, List.getElem?_cons_zero] at x0 x1 x2 x3 x4 x5 x6 x7
    clear h3 B2 fD yD
    refine wp_region_tail 8 (by kernel_rfl) (by kernel_rfl) (fun _ _ _ _ _ h => h) ?_
    simp only [List.take_succ_cons, List.take_zero, List.drop_succ_cons, List.drop_zero]
    repeat go_big_quiet_step (fail)
    refine wpQuiet_nil ?_
    go_wp2_with fail
    refine HT.out _ A2 KB DB xb _ ⟨?_, ?_, ?_, ⟨xx, ?_, HXB.out⟩, HE.out⟩ ⟨by kernel_rfl, by kernel_rfl, by kernel_rfl, by kernel_rfl, by kernel_rfl, by kernel_rfl, rfl⟩
    · exact (((((((((HB2.out.setL HLD2.out.z HSD.out 0 _).setL HLD2.out.z HSD.out 1 _).setL HLD2.out.z HSD.out 2 _).setL HLD2.out.z HSD.out 3 _).setL HLD2.out.z HSD.out 4 _).setL HLD2.out.z HSD.out 5 _).setL HLD2.out.z HSD.out 6 _).setL HLD2.out.z HSD.out 7 _).drew)
    · rw [HEA.out]
      exact ((((((((HLT2.out.setO hnk 0 _).setO hnk 1 _).setO hnk 2 _).setO hnk 3 _).setO hnk 4 _).setO hnk 5 _).setO hnk 6 _).setO hnk 7 _).fr ((Fr.refl _ _).drew)
    · rw [if_neg HH3.out, HD.out]
      exact ((((((((HLD2.out.setS 0 _).setS 1 _).setS 2 _).setS 3 _).setS 4 _).setS 5 _).setS 6 _).setS 7 _).fr ((Fr.refl _ _).drew)
    · exact HX2.out
end
end Go.Proofs.Qxb6500574aGreatDoor
