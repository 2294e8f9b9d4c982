/-
  THE WALK of the parser layer: scan: a rune's turn, case by case.
-/
import Derived.Test.Qxb6500574aGreatDoorWLx12
namespace Go.Proofs.Qxb6500574aGreatDoor
open Go Go.RowKit
set_option linter.unusedVariables false
set_option linter.unusedSimpArgs false
open Go.Lib
theorem span_last {p : UInt8 → Bool} : ∀ {l : Bs} {k : Nat}, span p l = k + 1 → ∃ c, l[k]? = some c ∧ p c = true
  | [], k, h => by simp [span] at h
  | x :: r, k, h => by
    rw [span_cons2] at h
    by_cases hp : p x = true
    · rw [if_pos hp] at h
      rcases k with _ | k
      · exact ⟨x, rfl, hp⟩
      · obtain ⟨c, h1, h2⟩ := span_last (p := p) (l := r) (k := k) (by omega)
        exact ⟨c, by simpa using h1, h2⟩
    · rw [if_neg hp] at h
      omega
theorem span_stop {p : UInt8 → Bool} : ∀ {l : Bs} {c : UInt8}, l[span p l]? = some c → p c = false
  | [], c, h => by simp at h
  | x :: r, c, h => by
    rw [span_cons2] at h
    by_cases hp : p x = true
    · rw [if_pos hp] at h
      exact span_stop (p := p) (l := r) (by simpa using h)
    · rw [if_neg hp] at h
      simp at h
      subst h
      simpa using hp
theorem dig_lt {c : UInt8} (h : isDig c = true) : c.toNat < 128 := by
  rw [isDig_nat] at h
  simp at h
  omega
theorem wrd_lt {c : UInt8} (h : isWrd c = true) : c.toNat < 128 := by
  rw [isWrd_nat] at h
  simp at h
  omega
theorem let_lt {c : UInt8} (h : isLet c = true) : c.toNat < 128 := wrd_lt (by unfold isWrd; rw [h]; rfl)
theorem numLen_last {c : UInt8} {r : Bs} (hd : isDig c = true) : ∃ k x, numLen (c :: r) = k + 1 ∧ (c :: r)[k]? = some x ∧ isDig x = true := by
  have base : ∃ k x, span isDig (c :: r) = k + 1 ∧ (c :: r)[k]? = some x ∧ isDig x = true := by
    have h1 : span isDig (c :: r) = span isDig r + 1 := by rw [span_cons2, if_pos hd]
    obtain ⟨x, h2, h3⟩ := span_last h1
    exact ⟨_, x, h1, h2, h3⟩
  generalize c :: r = l at *
  unfold numLen
  dsimp only
  split
  · exact base
  · rename_i z q hz
    split
    · exact base
    · split
      · exact base
      · rename_i x y
        have hdrop : ∀ j, l[span isDig l + 1 + j]? = (x :: y)[j]? := fun j => by
          have : (l.drop (span isDig l))[1 + j]? = (z :: x :: y)[1 + j]? := by rw [hz]
          rw [List.getElem?_drop] at this
          rw [show span isDig l + 1 + j = span isDig l + (1 + j) by omega, this, show 1 + j = j + 1 by omega, List.getElem?_cons_succ]
        split
        · rename_i hx
          obtain ⟨g, h2, h3⟩ := span_last (l := x :: y) (k := span isDig y) (by rw [span_cons2, if_pos hx])
          refine ⟨span isDig l + 1 + span isDig y, g, ?_, ?_, h3⟩
          · rw [span_cons2, if_pos hx]; omega
          · rw [hdrop]; exact h2
        · split
          · rename_i h5
            obtain ⟨_, _, h6⟩ := h5
            cases y with
            | nil => cases h6
            | cons y0 ys =>
              have hy0 : isDig y0 = true := h6
              obtain ⟨g, h2, h3⟩ := span_last (l := y0 :: ys) (k := span isDig ys) (by rw [span_cons2, if_pos hy0])
              refine ⟨span isDig l + 2 + span isDig ys, g, ?_, ?_, h3⟩
              · rw [span_cons2, if_pos hy0]; omega
              · rw [show span isDig l + 2 + span isDig ys = span isDig l + 1 + (span isDig ys + 1) by omega, hdrop, List.getElem?_cons_succ]
                exact h2
          · exact base
theorem fr_cell {S : Nat → Prop} {w w' : World} (h : Fr S w w') {b j : Nat} (hb : b < w.heap.size) (hn : ¬ S b) : w'.cell? ⟨b, j, none⟩ = w.cell? ⟨b, j, none⟩ := by
  unfold World.cell?
  simp only [h.block b hb hn]
section
set_option maxRecDepth 100000
set_option maxHeartbeats 2000000
variable {W0 wr : World} {o1 or : Nat → Nat} {s : Bs} {kL kI sx e f q' r : Nat} {toks : List Tok} {sl : Sl} {num v21 : Value} {a : Act} {Q : Exit → Act → World → Prop}
/-- the world in which a rune has its turn -/
abbrev w7 (wr : World) (kI : Nat) (s : Bs) (e q' : Nat) : World := (wr.iterAt kI ⟨s.toArray⟩ q').alloc (.cells #[.int .i64 1, .int .i64 e, sv [], .int .u64 0, .int .i64 14] 132)
/-- what stands at a rune's turn -/
structure Trn (Q : Exit → Act → World → Prop) (W0 : World) (o1 : Nat → Nat) (s : Bs) (kL kI sx : Nat) (num v21 : Value) (wr : World) (or : Nat → Nat) (e f q' r : Nat) (toks : List Tok) (sl : Sl) (a : Act) : Prop where
  hP : ∀ c a t v w, Q (.panic c) (a.put (some t) v) w → Q (.panic c) a w
  R : RQs Q W0 o1 s kL kI e (.pointer (some ⟨sx, 0, none⟩)) (sv s) (.pointer (some ⟨kL, 0, none⟩)) v21
  h : ScR W0 o1 s kL kI wr or e e f toks sl
  hs : s.length ≤ 2048
  hlt : e < s.length
  hq : e < q'
  H : FrS (.pointer (some ⟨sx, 0, none⟩)) (sv s) (sl.v toks.length) (.pointer (some ⟨kL, 0, none⟩)) (.int .i64 ((e : Int) + 1)) (.int .i64 e) (.int .i32 r) (.pointer (some ⟨wr.heap.size, 0, none⟩)) (.string (Utf8.encode (r : Int))) (.int .u8 61) v21 a
  hsx : wr.cell? ⟨sx, 0, none⟩ = some num
  ho : or sx = 1040
  K : TabL wr or 1 keywordL
  G : TabL wr or 2 signL
theorem Trn.fr (_ : Trn Q W0 o1 s kL kI sx num v21 wr or e f q' r toks sl a) : Fr (fun _ => False) (wr.iterAt kI ⟨s.toArray⟩ q') (w7 wr kI s e q') := (Fr.refl _ _).alloc _
theorem Trn.tok (_ : Trn Q W0 o1 s kL kI sx num v21 wr or e f q' r toks sl a) : Has (w7 wr kI s e q') wr.heap.size #[.int .i64 1, .int .i64 e, sv [], .int .u64 0, .int .i64 14] 132 := by
  have := Has.new (wr.iterAt kI ⟨s.toArray⟩ q') #[.int .i64 1, .int .i64 e, sv [], .int .u64 0, .int .i64 14] 132
  rw [iterAt_size] at this
  exact this
theorem Trn.sq (T : Trn Q W0 o1 s kL kI sx num v21 wr or e f q' r toks sl a) : Stp (fun l => l = 1045) wr or (w7 wr kI s e q') or := (iter_st (q := e) T.h.li q').trans (Stp.fresh _ _ T.fr)
theorem Trn.tabs (T : Trn Q W0 o1 s kL kI sx num v21 wr or e f q' r toks sl a) {W : World} (hf : Fr (fun k => k = wr.heap.size) (w7 wr kI s e q') W) : StrTab W 1 keywordL ∧ StrTab W 2 signL := by
  have key : ∀ g l, TabL wr or g l → StrTab W g l := by
    intro g l ht
    have h2 := ht.st T.sq (by omega)
    obtain ⟨b, j, c, h1, hg, hb, h4, h5, h6⟩ := ht.ex
    obtain ⟨b', j', c', x1, x2, x3, x4, x5, x6⟩ := h2.ex
    have same : b' = b ∧ j' = j ∧ c' = c := by
      have e1 := T.sq.cellQ hg (by rw [h4]; omega) 0
      rw [x1, h1] at e1
      simp at e1
      exact ⟨e1.1.1, e1.1.2, e1.2⟩
    obtain ⟨rfl, rfl, rfl⟩ := same
    have hz := hf.size
    refine ⟨b', j', c', ?_, by omega, by omega, fun i x hx => ?_⟩
    · rw [fr_cell hf x2 (by omega)]; exact x1
    · rw [fr_cell hf x3 (by omega)]; exact x6 i x hx
  exact ⟨key _ _ T.K, key _ _ T.G⟩
theorem Trn.fu (T : Trn Q W0 o1 s kL kI sx num v21 wr or e f q' r toks sl a) : ∃ f', f = f' + 1 ∧ s.length + 1 ≤ f' + (e + 1) := by
  have h1 := T.h.fu
  have h2 := T.hlt
  exact ⟨f - 1, by omega, by omega⟩
/-- behind white space, behind a comment -/
theorem Trn.skip (T : Trn Q W0 o1 s kL kI sx num v21 wr or e f q' r toks sl a) {a' : Act} {e' f' : Nat} (H : FrS (.pointer (some ⟨sx, 0, none⟩)) (sv s) (sl.v toks.length) (.pointer (some ⟨kL, 0, none⟩)) (.int .i64 (e' : Nat)) (.int .i64 e) (.int .i32 r) (.pointer (some ⟨wr.heap.size, 0, none⟩)) (.string (Utf8.encode (r : Int))) (.int .u8 61) v21 a') (el : e' ≤ s.length) (qe : q' ≤ e') (bd : Bd s e') (fu : s.length + 1 ≤ f' + e') (sc : scanN f e (s.drop e) = scanN f' e' (s.drop e')) : Q (.exit 1) a' (w7 wr kI s e q') := by
  have hq := T.hq
  have htl := T.h.tl
  exact (T.R.nx _ _ _ _ _ _ _ _ _ _ _ _ _ H (T.h.cont T.fr el qe bd fu (by rw [← sc]; exact T.h.sc) (by omega)) T.hq).2
/-- white space -/
theorem t_ws (T : Trn Q W0 o1 s kL kI sx num v21 wr or e f q' r toks sl a) {c : UInt8} (hc : s[e]? = some c) (hr : r = c.toNat) (h1 : q' = e + 1) (hw : isWs c) : (Code.seq (scanSw Tryz.f60.body) (scanTl Tryz.f60.body)).wp Tryz.prog Q a (w7 wr kI s e q') := by
  obtain ⟨f', rfl, hf⟩ := T.fu
  have hlt := T.hlt
  have hc2 : c.toNat < 128 := by rcases hw with h | h | h | h <;> subst h <;> decide
  refine wp_seq (sw_ws T.H (cn := r) ?_ rfl fun a' H' => ?_)
  · subst hr
    rcases hw with h | h | h | h <;> subst h
    · exact .inl rfl
    · exact .inr (.inl rfl)
    · exact .inr (.inr (.inl rfl))
    · exact .inr (.inr (.inr rfl))
  · show Q (.exit 1) a' _
    exact T.skip (e' := e + 1) (f' := f') H' (by omega) (by omega) (.inr (.inr (.inl ⟨c, by omega, hc, hc2⟩))) hf (scan_ws hc hw)
/-- a comment -/
theorem t_com (T : Trn Q W0 o1 s kL kI sx num v21 wr or e f q' r toks sl a) (hc : s[e]? = some 45) (hr : r = 45) (h1 : q' = e + 1) (h2 : s[e + 1]? = some 45) : (Code.seq (scanSw Tryz.f60.body) (scanTl Tryz.f60.body)).wp Tryz.prog Q a (w7 wr kI s e q') := by
  obtain ⟨f', rfl, hf⟩ := T.fu
  have hlt := T.hlt
  subst hr
  have hsp : 1 ≤ span (fun x => x != 10) (s.drop e) := by
    rw [drop_at2 hc, span_cons2, if_pos (by decide)]
    omega
  have hle := span_le (fun x => x != 10) (s.drop e)
  rw [List.length_drop] at hle
  refine wp_seq (sw_com T.H rfl rfl rfl rfl T.hs h2 fun a' H' => ?_)
  show Q (.exit 1) a' _
  refine T.skip (e' := e + span (fun x => x != 10) (s.drop e)) (f' := f') H' (by omega) (by omega) ?_ (by omega) (scan_com hc (by unfold isWs; decide) rfl h2)
  cases hx : s[e + span (fun x => x != 10) (s.drop e)]? with
  | none => exact .inl (List.getElem?_eq_none_iff.1 hx)
  | some c =>
    have hx2 : (s.drop e)[span (fun x => x != 10) (s.drop e)]? = some c := by rw [List.getElem?_drop]; exact hx
    have := span_stop hx2
    simp at this
    subst this
    exact .inr (.inr (.inr ⟨10, hx, by decide⟩))
/-- a word -/
theorem t_word (T : Trn Q W0 o1 s kL kI sx num v21 wr or e f q' r toks sl a) {c : UInt8} (hc : s[e]? = some c) (hr : r = c.toNat) (h1 : q' = e + 1) (hw : ¬ isWs c) (hm : ¬ (c = 45 ∧ s[e + 1]? = some 45)) (hl : isLet c = true) : (Code.seq (scanSw Tryz.f60.body) (scanTl Tryz.f60.body)).wp Tryz.prog Q a (w7 wr kI s e q') := by
  obtain ⟨f', rfl, hf⟩ := T.fu
  have hlt := T.hlt
  subst hr
  have hwr : isWrd c = true := by unfold isWrd; rw [hl]; rfl
  have hsp : span isWrd (s.drop e) = span isWrd (s.drop (e + 1)) + 1 := by rw [drop_at2 hc, span_cons2, if_pos hwr]
  have hle := span_le isWrd (s.drop e)
  rw [List.length_drop] at hle
  have SC := scan_word (f := f') hc hw hm hl
  have hb : Bd s (e + span isWrd (s.drop e)) := by
    obtain ⟨x, x1, x2⟩ := span_last hsp
    rw [List.getElem?_drop] at x1
    exact .inr (.inr (.inl ⟨x, by omega, by rw [← x1]; congr 1; omega, wrd_lt x2⟩))
  have hsc := T.h.sc
  have hkw : ∀ t, keywordN t ≠ 1 := fun t => by
    unfold keywordN
    split <;> omega
  refine wp_seq (sw_word T.H rfl rfl rfl rfl rfl T.hs hc hl (T.tabs (Fr.refl _ _)).1 (fun W hW => (T.tabs hW).1) T.tok fun a' H' => ?_)
  show (scanTl _).wp _ _ _ _
  generalize span isWrd (s.drop e) = L at *
  by_cases h40 : L ≤ 40
  · rw [if_pos h40] at SC ⊢
    refine tl_good (k := keywordN ((s.drop e).take L)) (p := e) (tx := (s.drop e).take L) (nn := 0) (er := 14) (e' := e + L) (f' := f') T.R T.h T.hs H' ?_ (hkw _) ?_ T.hq (by omega) (by omega) hb (by omega) ?_
    · exact (T.fr.setCell (p := ⟨_, 2, none⟩) (.inr (by rw [iterAt_size]; exact Nat.le_refl _)) _).setCell (p := ⟨_, 0, none⟩) (.inr (by rw [iterAt_size]; exact Nat.le_refl _)) _
    · exact (T.tok.put 2 _).put 0 _
    · rw [hsc, SC, List.append_assoc]; rfl
  · rw [if_neg h40] at SC ⊢
    exact tl_bad T.R T.h H' T.fr T.tok (by rw [hsc, SC]; rfl)
/-- a number -/
theorem t_num (T : Trn Q W0 o1 s kL kI sx num v21 wr or e f q' r toks sl a) {c : UInt8} (hc : s[e]? = some c) (hr : r = c.toNat) (h1 : q' = e + 1) (hw : ¬ isWs c) (hm : ¬ (c = 45 ∧ s[e + 1]? = some 45)) (hl : isLet c = false) (hd : isDig c = true) : (Code.seq (scanSw Tryz.f60.body) (scanTl Tryz.f60.body)).wp Tryz.prog Q a (w7 wr kI s e q') := by
  obtain ⟨f', rfl, hf⟩ := T.fu
  have hlt := T.hlt
  subst hr
  have hle := numLen_le (s := s) (i := e) rfl (by omega)
  have SC := scan_num (f := f') hc hw hm hl hd
  obtain ⟨k, x, k1, k2, k3⟩ := numLen_last (c := c) (r := s.drop (e + 1)) hd
  rw [← drop_at2 hc] at k1 k2
  have hb : Bd s (e + numLen (s.drop e)) := by
    rw [List.getElem?_drop] at k2
    exact .inr (.inr (.inl ⟨x, by omega, by rw [← k2]; congr 1; omega, dig_lt k3⟩))
  have hsc := T.h.sc
  have hsxl := World.block_lt_of_cell? wr _ T.hsx
  have hne : sx ≠ wr.heap.size := by
    have : sx < wr.heap.size := hsxl
    omega
  have hcx : (w7 wr kI s e q').cell? ⟨sx, 0, none⟩ = some num := by
    rw [T.sq.cellQ hsxl (by rw [T.ho]; omega)]
    exact T.hsx
  refine wp_seq (sw_num (Q := Exit.then (Code.wp Tryz.prog (scanTl Tryz.f60.body) Q) Q) (fun c a t v w h => T.hP c a t v w h) T.H rfl rfl rfl rfl rfl rfl T.hs hc hd hcx hne T.tok fun a' W u k' H' hfW hk => ?_)
  show (scanTl _).wp _ _ _ _
  have hfW2 := T.fr.trans hfW (fun _ _ x => x)
  have hz : (wr.iterAt kI ⟨s.toArray⟩ q').heap.size ≤ wr.heap.size := by rw [iterAt_size]; exact Nat.le_refl _
  have tW := T.tok.fr hfW (fun x => x)
  generalize numLen (s.drop e) = L at *
  rcases hk with ⟨rfl, hp⟩ | ⟨hk, hu, hp⟩
  · rw [if_pos rfl]
    rw [hp] at SC
    refine tl_good (k := 3) (p := e) (tx := []) (nn := u) (er := 2) (e' := e + L) (f' := f') T.R T.h T.hs H' ?_ (by decide) ?_ T.hq (by omega) (by omega) hb (by omega) ?_
    · exact (((hfW2.setCell (p := ⟨_, 3, none⟩) (.inr hz) _).setCell (p := ⟨_, 4, none⟩) (.inr hz) _).setCell (p := ⟨_, 0, none⟩) (.inr hz) _).setCell (p := ⟨_, 4, none⟩) (.inr hz) _
    · exact (((tW.put 3 _).put 4 _).put 0 _).put 4 _
    · rw [hsc, SC, List.append_assoc]; rfl
  · rw [if_neg hk]
    rw [hp] at SC
    subst hu
    refine tl_bad (q' := q') (p := e) (nn := 0) (er := 2) (tx := []) T.R T.h H' ?_ ?_ (by rw [hsc, SC]; rfl)
    · exact ((hfW2.setCell (p := ⟨_, 3, none⟩) (.inr hz) _).setCell (p := ⟨_, 4, none⟩) (.inr hz) _).setCell (p := ⟨_, 4, none⟩) (.inr hz) _
    · exact ((tW.put 3 _).put 4 _).put 4 _
/-- a text in quotes -/
theorem t_str (T : Trn Q W0 o1 s kL kI sx num v21 wr or e f q' r toks sl a) {c : UInt8} (hc : s[e]? = some c) (hr : r = c.toNat) (h1 : q' = e + 1) (hw : ¬ isWs c) (hm : ¬ (c = 45 ∧ s[e + 1]? = some 45)) (hl : isLet c = false) (hd : isDig c = false) (h34 : c = 34) : (Code.seq (scanSw Tryz.f60.body) (scanTl Tryz.f60.body)).wp Tryz.prog Q a (w7 wr kI s e q') := by
  obtain ⟨f', rfl, hf⟩ := T.fu
  have hlt := T.hlt
  have SC := scan_str (f := f') hc hw hm hl hd h34
  have hsc := T.h.sc
  have hr2 : r = 34 := by rw [hr, h34]; rfl
  subst hr2
  have hz : (wr.iterAt kI ⟨s.toArray⟩ q').heap.size ≤ wr.heap.size := by rw [iterAt_size]; exact Nat.le_refl _
  refine wp_seq (sw_str T.H rfl rfl rfl rfl rfl T.hs hlt rfl T.tok fun a' H' => ?_)
  show (scanTl _).wp _ _ _ _
  generalize span (fun x => x != 34 && x != 10) (s.drop (e + 1)) = k at *
  by_cases hg : s[e + 1 + k]? = some 34 ∧ k ≤ 40
  · rw [if_pos hg] at SC ⊢
    have hk := (List.getElem?_eq_some_iff.1 hg.1).1
    refine tl_good (k := 4) (p := e) (tx := (s.drop (e + 1)).take k) (nn := 0) (er := 14) (e' := e + k + 2) (f' := f') T.R T.h T.hs H' ?_ (by decide) ?_ T.hq (by omega) (by omega) ?_ (by omega) ?_
    · exact (T.fr.setCell (p := ⟨_, 0, none⟩) (.inr hz) _).setCell (p := ⟨_, 2, none⟩) (.inr hz) _
    · exact (T.tok.put 0 _).put 2 _
    · exact .inr (.inr (.inl ⟨34, by omega, by rw [← hg.1]; congr 1; omega, by decide⟩))
    · rw [hsc, SC, List.append_assoc]; rfl
  · rw [if_neg hg] at SC ⊢
    exact tl_bad T.R T.h H' T.fr T.tok (by rw [hsc, SC]; rfl)
/-- behind a sign -/
theorem t_sign (T : Trn Q W0 o1 s kL kI sx num v21 wr or e (f + 1) q' r toks sl a) {a' : Act} {tx : Bs} {y10 y11 : Value} {e' : Nat} (H : FrS (.pointer (some ⟨sx, 0, none⟩)) (sv s) (sl.v toks.length) (.pointer (some ⟨kL, 0, none⟩)) (.int .i64 (e' : Nat)) (.int .i64 e) (.int .i32 r) (.pointer (some ⟨wr.heap.size, 0, none⟩)) y10 y11 v21 a') (he : signN tx ≠ 1 → e' ≤ s.length ∧ q' ≤ e' ∧ Bd s e') (h1 : e < e')
    (SC : scanN (f + 1) e (s.drop e) = if signN tx = 1 then [badTok e 13] else ⟨signN tx, e, [], 0, 0⟩ :: scanN f e' (s.drop e')) : (scanTl Tryz.f60.body).wp Tryz.prog Q a' (((w7 wr kI s e q').setCell ⟨wr.heap.size, 0, none⟩ (.int .i64 (signN tx))).setCell ⟨wr.heap.size, 4, none⟩ (.int .i64 13)) := by
  have hlt := T.hlt
  have hsc := T.h.sc
  have hfu := T.h.fu
  have hz : (wr.iterAt kI ⟨s.toArray⟩ q').heap.size ≤ wr.heap.size := by rw [iterAt_size]; exact Nat.le_refl _
  have f4 : Fr (fun _ => False) (wr.iterAt kI ⟨s.toArray⟩ q') (((w7 wr kI s e q').setCell ⟨wr.heap.size, 0, none⟩ (.int .i64 (signN tx))).setCell ⟨wr.heap.size, 4, none⟩ (.int .i64 13)) := (T.fr.setCell (p := ⟨_, 0, none⟩) (.inr hz) _).setCell (p := ⟨_, 4, none⟩) (.inr hz) _
  have t4 := (T.tok.put 0 (.int .i64 (signN tx))).put 4 (.int .i64 13)
  generalize signN tx = g at *
  by_cases hg : g = 1
  · subst hg
    rw [if_pos rfl] at SC
    exact tl_bad (p := e) (nn := 0) (er := 13) (tx := []) T.R T.h H f4 t4 (by rw [hsc, SC]; rfl)
  · rw [if_neg hg] at SC
    obtain ⟨x1, x2, x3⟩ := he hg
    exact tl_good (k := g) (p := e) (tx := []) (nn := 0) (er := 13) (e' := e') (f' := f) T.R T.h T.hs H f4 hg t4 T.hq x1 x2 x3 (by omega) (by rw [hsc, SC, List.append_assoc]; rfl)
/-- a sign of two bytes -/
theorem t_two (T : Trn Q W0 o1 s kL kI sx num v21 wr or e f q' r toks sl a) {c : UInt8} (hc : s[e]? = some c) (hr : r = c.toNat) (h1 : q' = e + 1) (h2 : isTwo c) (h3 : s[e + 1]? = some (twinN c)) : (Code.seq (scanSw Tryz.f60.body) (scanTl Tryz.f60.body)).wp Tryz.prog Q a (w7 wr kI s e q') := by
  obtain ⟨f', rfl, hf⟩ := T.fu
  subst hr
  have hn := (List.getElem?_eq_some_iff.1 h3).1
  have f1 : ¬ isWs c := by rcases h2 with h | h | h | h | h | h <;> subst h <;> unfold isWs <;> decide
  have f2 : ¬ c = 45 := by rcases h2 with h | h | h | h | h | h <;> subst h <;> decide
  have f3 : isLet c = false := by rcases h2 with h | h | h | h | h | h <;> subst h <;> decide
  have f4 : isDig c = false := by rcases h2 with h | h | h | h | h | h <;> subst h <;> decide
  have f5 : ¬ c = 34 := by rcases h2 with h | h | h | h | h | h <;> subst h <;> decide
  have f6 : (twinN c).toNat < 128 := by rcases h2 with h | h | h | h | h | h <;> subst h <;> decide
  have SC := scan_sign (f := f') hc f1 (fun x => f2 x.1) f3 f4 f5
  rw [if_pos ⟨h2, h3⟩] at SC
  refine wp_seq (sw_two T.H rfl rfl rfl rfl rfl rfl rfl T.hs hc h2 h3 (T.tabs (Fr.refl _ _)).2 T.tok fun a' y10 y11 H' => ?_)
  show (scanTl _).wp _ _ _ _
  exact t_sign (f := f') (e' := e + 2) T H' (fun _ => ⟨by omega, by omega, .inr (.inr (.inl ⟨twinN c, by omega, by rw [← h3]; congr 1, f6⟩))⟩) (by omega) SC
/-- a sign of one byte, or no sign -/
theorem t_one (T : Trn Q W0 o1 s kL kI sx num v21 wr or e f q' r toks sl a) {c : UInt8} (hc : s[e]? = some c) (hr : r = c.toNat) (h1 : q' = e + 1) (hlo : c.toNat < 128) (hw : ¬ isWs c) (hm : ¬ (c = 45 ∧ s[e + 1]? = some 45)) (hl : isLet c = false) (hd : isDig c = false) (h34 : ¬ c = 34) (h3 : ¬ (isTwo c ∧ s[e + 1]? = some (twinN c))) : (Code.seq (scanSw Tryz.f60.body) (scanTl Tryz.f60.body)).wp Tryz.prog Q a (w7 wr kI s e q') := by
  obtain ⟨f', rfl, hf⟩ := T.fu
  have hlt := T.hlt
  subst hr
  have SC := scan_sign (f := f') hc hw hm hl hd h34
  rw [if_neg h3] at SC
  have SC2 : scanN (f' + 1) e (s.drop e) = if signN [c] = 1 then [badTok e 13] else ⟨signN [c], e, [], 0, 0⟩ :: scanN f' (e + 1) (s.drop (e + 1)) := by
    rw [SC]
    by_cases hx : signN [c] = 1
    · rw [if_pos (.inl hx), if_pos hx]
    · rw [if_neg (by omega), if_neg hx]
  have H0 := T.H
  rw [enc_ascii c hlo] at H0
  have hb : signN [c] ≠ 1 → e + 1 ≤ s.length ∧ q' ≤ e + 1 ∧ Bd s (e + 1) := fun _ => ⟨by omega, by omega, .inr (.inr (.inl ⟨c, by omega, hc, hlo⟩))⟩
  refine wp_seq ?_
  by_cases h45 : c = 45
  · subst h45
    refine sw_minus (tx := [45]) H0 (fun x => hm ⟨rfl, x⟩) rfl rfl rfl rfl rfl rfl rfl rfl T.hs hlt (T.tabs (Fr.refl _ _)).2 T.tok fun a' y11 H' => ?_
    show (scanTl _).wp _ _ _ _
    exact t_sign (f := f') (e' := e + 1) T H' hb (by omega) SC2
  · by_cases ht : isTwo c
    · refine sw_single (tx := [c]) H0 ht (fun x => h3 ⟨ht, x⟩) rfl rfl rfl rfl rfl rfl rfl rfl T.hs hlt (T.tabs (Fr.refl _ _)).2 T.tok fun a' y11 H' => ?_
      show (scanTl _).wp _ _ _ _
      exact t_sign (f := f') (e' := e + 1) T H' hb (by omega) SC2
    · have hn : ∀ k : UInt8, c ≠ k → c.toNat ≠ k.toNat := fun k hk x => hk (UInt8.toNat_inj.1 x)
      rw [isLet_nat] at hl
      rw [isDig_nat] at hd
      simp only [isTwo, not_or] at ht
      simp only [isWs, not_or] at hw
      refine sw_plain (tx := [c]) H0 ⟨hn 32 hw.1, hn 9 hw.2.1, hn 10 hw.2.2.1, hn 13 hw.2.2.2, hn 45 h45, hn 34 h34, hn 46 ht.1, hn 47 ht.2.1, hn 61 ht.2.2.1, hn 126 ht.2.2.2.1, hn 60 ht.2.2.2.2.1, hn 62 ht.2.2.2.2.2⟩ hl (by simp at hd; omega) rfl rfl rfl rfl rfl rfl rfl rfl T.hs hlt (T.tabs (Fr.refl _ _)).2 T.tok fun a' y11 H' => ?_
      show (scanTl _).wp _ _ _ _
      exact t_sign (f := f') (e' := e + 1) T H' hb (by omega) SC2
/-- a byte from 128 on -/
theorem t_high (T : Trn Q W0 o1 s kL kI sx num v21 wr or e f q' r toks sl a) {c : UInt8} (hc : s[e]? = some c) (hr : 128 ≤ r) (hhi : 128 ≤ c.toNat) : (Code.seq (scanSw Tryz.f60.body) (scanTl Tryz.f60.body)).wp Tryz.prog Q a (w7 wr kI s e q') := by
  obtain ⟨f', rfl, hf⟩ := T.fu
  have hlt := T.hlt
  have hn : ∀ k : UInt8, k.toNat < 128 → c ≠ k := fun k hk x => by subst x; omega
  have hl : isLet c = false := by
    cases hx : isLet c
    · rfl
    · have := let_lt hx; omega
  have hd : isDig c = false := by
    cases hx : isDig c
    · rfl
    · have := dig_lt hx; omega
  have hw : ¬ isWs c := by
    rintro (h | h | h | h) <;> subst h <;> revert hhi <;> decide
  have ht : ¬ isTwo c := by
    rintro (h | h | h | h | h | h) <;> subst h <;> revert hhi <;> decide
  have SC := scan_sign (f := f') hc hw (fun x => hn 45 (by decide) x.1) hl hd (hn 34 (by decide))
  rw [if_neg (fun x => ht x.1), if_pos (.inr hhi)] at SC
  have hsg := enc_high hr
  have H0 := T.H
  refine wp_seq (sw_plain (tx := (Utf8.encode (r : Int)).data.toList) T.H (by omega) (by simp; omega) (by omega) rfl rfl rfl rfl rfl (by simp [sv]) rfl rfl T.hs hlt (T.tabs (Fr.refl _ _)).2 T.tok fun a' y11 H' => ?_)
  show (scanTl _).wp _ _ _ _
  exact t_sign (f := f') (e' := e + 1) T H' (fun x => absurd hsg x) (by omega) (by rw [if_pos hsg]; exact SC)
end
end Go.Proofs.Qxb6500574aGreatDoor
