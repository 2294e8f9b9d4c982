/-
  THE WALK of comp: a loop shuts: its breaks land here.
-/
import Derived.Test.Qxb6500574aGreatDoorWCm5
namespace Go.Proofs.Qxb6500574aGreatDoor
open Go Go.RowKit
set_option linter.unusedVariables false
set_option linter.unusedSimpArgs false
open Go.Lib
/-- a world with a fact -/
structure WQ (P : World → Prop) where
  y : World
  f : P y
theorem WQ.non {P : World → Prop} {w : World} (h : P w) : Nonempty (WQ P) := ⟨⟨w, h⟩⟩
def ShP (C : CC) (x g1 n : Nat) (L : FnL) (l0 : LpD) (b0 : Sl × List (Nat × Nat)) (q : Nat) (W : World) : Prop :=
  W.cell? ⟨C.gF, x * 11 + 10, none⟩ = some (.slice (some ⟨g1, 0, none⟩) (n + 1) L.lp.c) ∧ W.cell? ⟨g1, n * 2, none⟩ = some (.int .i64 (l0.base : Nat)) ∧ W.cell? ⟨g1, n * 2 + 1, none⟩ = some (.slice b0.1.a q b0.1.c)
/-- at a round's head of shut: j breaks have landed -/
def ShI (W : World) (o : Nat → Nat) (C : CC) (N : List Nd) (c1 : CmD) (x : Nat) (bk : List Nat) (g : Nat) (v : Value) (w1 : World) : Prop :=
  ∃ j : Nat, j + g = bk.length ∧ v = .int .i64 j ∧ CRep w1 o C N ((bk.take j).foldl (fun c p => c.land x p) c1) ∧ Stp (fun k => k = labF x 5) W o w1 o
theorem lands_np (x : Nat) : ∀ (l : List Nat) (c : CmD), (l.foldl (fun c p => c.land x p) c).np = c.np
  | [], _ => rfl
  | p :: l, c => lands_np x l (c.land x p)
theorem lands_len {x : Nat} : ∀ (l : List Nat) (c : CmD), x < c.fns.length → ((l.foldl (fun c p => c.land x p) c).fn x).code.length = (c.fn x).code.length
  | [], _, _ => rfl
  | p :: l, c, h => by
    rw [List.foldl_cons, lands_len l (c.land x p) (by unfold CmD.land; rw [upd_len]; exact h)]
    unfold CmD.land
    rw [fn_upd c h, if_pos rfl]
    simp
section
set_option maxRecDepth 100000
set_option maxHeartbeats 1000000
variable {w : World} {o : Nat → Nat} {C : CC} {N : List Nd} {c : CmD} {x : Nat}
theorem shut_any (R : CRep w o C N c) (hx : x < c.np) {ls : List LpD} {l0 : LpD} (he : (c.fn x).loops = ls ++ [l0]) (hbk : ∀ p ∈ l0.breaks, p < (c.fn x).code.length) (hk : (c.fn x).code.length < 65536) (hm : ls.length ≤ 1000) (hqb : l0.breaks.length ≤ 100000) :
    Calls Tryz.prog 239 #[fptr C.gF x] w fun e w' => e = .returned (.tuple #[]) ∧ ∃ o', CRep w' o' C N (c.shut x) ∧ Stp (QF1 x) w o w' o' := by
  obtain ⟨xs, L, F⟩ := R.fn hx
  have c10 := F.cell 10 (by omega)
  have hlt := F.lt
  have hbl : L.br.length = ls.length + 1 := by have := F.one.bl; rw [he] at this; simpa using this
  obtain ⟨bs, b0, hbe⟩ : ∃ bs b0, L.br = bs ++ [b0] := by
    rcases List.eq_nil_or_concat L.br with h | ⟨a, b, h⟩
    · rw [h] at hbl; simp at hbl
    · exact ⟨a, b, by simpa using h⟩
  have hbs : bs.length = ls.length := by rw [hbe] at hbl; simpa using hbl
  have hrow := F.one.lp
  have hlp := F.one.br ls.length l0 b0 (by rw [he]; simp) (by rw [hbe, List.getElem?_append_right (by omega), hbs]; simp)
  rw [he, hbe] at hrow
  simp only [fnV, List.getElem?_cons_succ, List.getElem?_cons_zero, Sl.v, he, List.length_append, List.length_singleton] at c10
  simp only [List.length_append, List.length_singleton] at hrow
  obtain ⟨g1, a1, a2, a3, a4, a5, a6⟩ := hrow.cells (by omega)
  obtain ⟨n, HN⟩ : ∃ n : Nat, Hid (ls.length = n) := ⟨_, rfl⟩
  obtain ⟨q, HQ⟩ : ∃ q : Nat, Hid (l0.breaks.length = q) := ⟨_, rfl⟩
  have hz : ((ls ++ [l0]).zip (bs ++ [b0])) = ls.zip bs ++ [(l0, b0)] := by rw [List.zip_append hbs.symm]; rfl
  have hzl : (ls.zip bs).length = n := by rw [List.length_zip, hbs, HN.out]; omega
  have k0 : w.cell? ⟨g1, n * 2, none⟩ = some (.int .i64 (l0.base : Nat)) := by
    rw [a5 _ (by rw [HN.out]; omega), hz]
    have := flatMap_at lpV 2 lpV_len (ls.zip bs ++ [(l0, b0)]) n 0 (l0, b0) (by rw [List.getElem?_append_right (by omega), hzl]; simp) (by omega)
    simpa [lpV] using this
  have k1 : w.cell? ⟨g1, n * 2 + 1, none⟩ = some (.slice b0.1.a q b0.1.c) := by
    rw [a5 _ (by rw [HN.out]; omega), hz]
    have := flatMap_at lpV 2 lpV_len (ls.zip bs ++ [(l0, b0)]) n 1 (l0, b0) (by rw [List.getElem?_append_right (by omega), hzl]; simp) (by omega)
    simpa [lpV, HQ.out] using this
  rw [HN.out] at c10 a2 hm
  rw [HQ.out] at hqb
  rw [a1] at c10
  have HF : Hid (FnAt w o C c x xs L) := F
  have HRR : Hid (CRep w o C N c) := R
  have HE : Hid ((c.fn x).loops = ls ++ [l0]) := he
  have HBK : Hid (∀ p ∈ l0.breaks, p < (c.fn x).code.length) := hbk
  have HLP : Hid (LpOne w o C.gF x ls.length l0 b0) := hlp
  have HBE : Hid (L.br = bs ++ [b0]) := hbe
  have HA1 : Hid (L.lp.a = some ⟨g1, 0, none⟩) := a1
  have HHR : Hid (Row w o (labF x 6) 139 2 L.lp (ls.length + 1) (((ls ++ [l0]).zip (bs ++ [b0])).flatMap lpV)) := hrow
  clear F R he hbk hlp hbl hrow a5 a6 hz hbe a1
  unfold fptr
  go_enter Tryz.func239, Tryz.ntmps239
  go_wp2_with fail
  have w1 : ∀ s : WQ (ShP C x g1 n L l0 b0 q), s.y.cell? ⟨C.gF, x * 11 + 10, none⟩ = some (.slice (some ⟨g1, 0, none⟩) (n + 1) L.lp.c) := fun s => s.f.1
  have w2 : ∀ s : WQ (ShP C x g1 n L l0 b0 q), s.y.cell? ⟨g1, n * 2, none⟩ = some (.int .i64 (l0.base : Nat)) := fun s => s.f.2.1
  have w3 : ∀ s : WQ (ShP C x g1 n L l0 b0 q), s.y.cell? ⟨g1, n * 2 + 1, none⟩ = some (.slice b0.1.a q b0.1.c) := fun s => s.f.2.2
  have HNE : Nonempty (WQ (ShP C x g1 n L l0 b0 q)) := WQ.non ⟨c10, k0, k1⟩
  refine wp_region_head 12 1 (fun y => ∃ s : WQ (ShP C x g1 n L l0 b0 q), y = s.y) (by kernel_rfl) (by kernel_rfl) (fun _ _ _ _ _ h => h) ⟨⟨w.drew, c10, k0, k1⟩, rfl⟩ ?_
  simp only [List.take_succ_cons, List.take_zero, List.drop_succ_cons, List.drop_zero]
  repeat go_big_quiet_step (fail)
  refine wpQuiet_nil ?_
  clear w1 w2 w3 HNE
  have fa : ∀ b, Fr (fun _ => False) w ((w.alloc b).drew) := fun b => ((Fr.refl _ _).alloc b).drew
  unfold wpChain
  go_wp2_with fail
  refine ⟨⟨⟨_, ((Stp.fresh (fun _ => False) o (fa _)).cellQ hlt (fun h => h) _).trans c10, ((Stp.fresh (fun _ => False) o (fa _)).cellQ a4 (fun h => h) _).trans k0, ((Stp.fresh (fun _ => False) o (fa _)).cellQ a4 (fun h => h) _).trans k1⟩, rfl⟩, ?_⟩
  rw [wpChain_zero]
  go_wp2_with fail
  have F1 := HF.out.fresh (fa (.cells #[.int .i64 (l0.base : Nat), .slice b0.1.a q b0.1.c] 139))
  have R1 := HRR.out.fresh (fa (.cells #[.int .i64 (l0.base : Nat), .slice b0.1.a q b0.1.c] 139))
  have S1 := Stp.fresh (QF1 x) o (fa (.cells #[.int .i64 (l0.base : Nat), .slice b0.1.a q b0.1.c] 139))
  have B1 := (Has.new w #[.int .i64 (l0.base : Nat), .slice b0.1.a q b0.1.c] 139).drew
  have LP1 := HLP.out.st (Stp.fresh (fun _ => False) o (fa (.cells #[.int .i64 (l0.base : Nat), .slice b0.1.a q b0.1.c] 139))) (fun h => h) (fun h => h)
  have HR1 := HHR.out.st (Stp.fresh (fun _ => False) o (fa (.cells #[.int .i64 (l0.base : Nat), .slice b0.1.a q b0.1.c] 139))) (fun h => h)
  have hB0 : o w.heap.size = 0 := HRR.out.ow _ (Nat.le_refl _)
  generalize (w.alloc (.cells #[.int .i64 (l0.base : Nat), .slice b0.1.a q b0.1.c] 139)).drew = W1 at *
  have e1 := B1.cell 1
  have e1l := B1.lt
  simp only [List.getElem?_toArray, List.getElem?_cons_succ, List.getElem?_cons_zero] at e1
  have hne : (C.gF == w.heap.size) = false := by simp; omega
  have d10 := F1.cell 10 (by omega)
  have d10l := F1.lt
  have d10z := F1.frozen (x * 11 + 10)
  simp only [fnV, List.getElem?_cons_succ, List.getElem?_cons_zero, Sl.v, HE.out, List.length_append, List.length_singleton, HN.out, HA1.out] at d10
  have hdl : (c.fn x).loops.dropLast = ls := by rw [HE.out]; simp
  obtain ⟨p1, p2⟩ := F1.put (Stp.refl (fun _ => False) _ _) (fun x => x) (j := 10) (by omega) (d' := ({ c.fn x with loops := (c.fn x).loops.dropLast }, { L with br := bs })) (u := .slice (some ⟨g1, 0, none⟩) n L.lp.c) (by simp [fnV, hdl, HN.out, HA1.out])
  have sF : Stp (QF1 x) W1 o _ o := p2.weaken (fun k h => .inl h)
  have R2 : CRep (W1.setCell ⟨C.gF, x * 11 + 10, none⟩ (.slice (some ⟨g1, 0, none⟩) n L.lp.c)) o C N (c.upd x (fun d => { d with loops := d.loops.dropLast })) := by
    refine F1.set (u := fun d => { d with loops := d.loops.dropLast }) R1 hx sF p1 ?_ F1.ok
    refine F1.one.loops (s := L.lp) p2 (fun j hj => by unfold labF; omega) ?_ (by rw [hdl]; exact hbs) (fun i l b h1 h2 => ?_)
    · rw [hdl]
      have := HR1.st p2 (by unfold labF; omega)
      refine this.take ls.length (by omega) ?_
      rw [← flatMap_take lpV 2 lpV_len, List.zip_append hbs.symm, List.take_left' (by rw [List.length_zip, hbs]; omega)]
    · rw [hdl] at h1
      have i1 := (List.getElem?_eq_some_iff.1 h1).1
      have h1' : (c.fn x).loops[i]? = some l := by rw [HE.out, List.getElem?_append_left i1]; exact h1
      have h2' : L.br[i]? = some b := by rw [HBE.out, List.getElem?_append_left (by omega)]; exact h2
      exact (F1.one.br i l b h1' h2').st p2 (by omega) (by unfold labF; omega)
  have S2 := (S1.trans sF).drew
  have B2 := (p2.has B1 (by rw [hB0]; omega)).drew
  have LP2 : LpOne (W1.setCell ⟨C.gF, x * 11 + 10, none⟩ (.slice (some ⟨g1, 0, none⟩) n L.lp.c)).drew o C.gF x ls.length l0 b0 := (LP1.st p2 (by omega) (by unfold labF; omega)).st (Stp.fresh (fun _ => False) o ((Fr.refl _ _).drew)) (fun h => h) (fun h => h)
  have R3 := R2.fresh ((Fr.refl _ _).drew)
  have HSH : Hid (c.shut x = l0.breaks.foldl (fun c p => c.land x p) (c.upd x (fun d => { d with loops := d.loops.dropLast }))) := by
    show c.shut x = _
    unfold CmD.shut
    rw [HE.out]
    simp
  refine wp_region_tail 12 (by kernel_rfl) (by kernel_rfl) (fun _ _ _ _ _ h => h) ?_
  clear R1 R2 S1 sF p1 p2 F1 HR1 LP1 B1 fa
  simp only [List.take_succ_cons, List.take_zero, List.drop_succ_cons, List.drop_zero]
  repeat go_big_quiet_step (fail)
  refine wpQuiet_nil ?_
  go_wp2_with fail
  generalize (W1.setCell ⟨C.gF, x * 11 + 10, none⟩ (.slice (some ⟨g1, 0, none⟩) n L.lp.c)).drew = W3 at *
  have hc1 : ((c.upd x (fun d => { d with loops := d.loops.dropLast })).fn x).code = (c.fn x).code := by rw [fn_upd c (by have := HRR.out.len; have := HRR.out.np; omega), if_pos rfl]
  have HC1 : Hid (((c.upd x (fun d => { d with loops := d.loops.dropLast })).fn x).code = (c.fn x).code) := hc1
  have HR3 : Hid (CRep W3 o C N (c.upd x (fun d => { d with loops := d.loops.dropLast }))) := R3
  have HS3 : Hid (Stp (QF1 x) w o W3 o) := S2
  have HLP3 : Hid (LpOne W3 o C.gF x ls.length l0 b0) := LP2
  have HNP : Hid (x < (c.upd x (fun d => { d with loops := d.loops.dropLast })).np) := hx
  have HS0 : Hid (ShI W3 o C N (c.upd x (fun d => { d with loops := d.loops.dropLast })) x l0.breaks q (.int .i64 0) W3) := ⟨0, by have := HQ.out; omega, rfl, by simpa using R3, Stp.refl _ _ _⟩
  clear R3 S2 LP2 B2 hc1 e1 e1l hne d10 d10l d10z c10 k0 k1
  go_loopg [34] q (fun g v34 w1 => Hid (ShI W3 o C N (c.upd x (fun d => { d with loops := d.loops.dropLast })) x l0.breaks g v34 w1))
  case atStart => exact HS0
  case round =>
    obtain ⟨j, hj, rfl, hR, hS⟩ := hrel.out
    rw [HQ.out] at hj
    have hc13 : x < (c.upd x (fun d => { d with loops := d.loops.dropLast })).fns.length := by have := HR3.out.len; have := HR3.out.np; have := HNP.out; omega
    have HSJ : Hid (Stp (fun k => k = labF x 5) W3 o wr o) := hS
    by_cases hjl : j < q
    · have hrow := HLP3.out.row.st hS (by unfold labF; omega)
      rw [HQ.out] at hrow
      obtain ⟨gb, a1, a2, a3, a4, a5, a6⟩ := hrow.cells (by omega)
      have hlen : b0.2.length = q := by have := hrow.len; simpa using this
      obtain ⟨pj, hpj⟩ : ∃ pj, b0.2[j]? = some pj := ⟨_, List.getElem?_eq_getElem (by omega)⟩
      obtain ⟨nj, hnj⟩ : ∃ nj, l0.breaks[j]? = some nj := ⟨_, List.getElem?_eq_getElem (by rw [HQ.out]; omega)⟩
      have hcl : wr.cell? ⟨gb, j, none⟩ = some (patV pj) := by rw [a5 j (by omega), List.getElem?_map, hpj]; rfl
      have hpat := (HLP3.out.pat j pj nj hpj hnj).st hS (by unfold labF; omega)
      have hL := land_any hR (by rw [lands_np]; exact HNP.out) hpat (by rw [lands_len _ _ hc13, HC1.out]; exact HBK.out nj (List.mem_of_getElem? hnj)) (by rw [lands_len _ _ hc13, HC1.out]; exact hk)
      have HLL : Hid (((l0.breaks.take j).foldl (fun c p => c.land x p) (c.upd x (fun d => { d with loops := d.loops.dropLast }))).land x nj = (l0.breaks.take (j + 1)).foldl (fun c p => c.land x p) (c.upd x (fun d => { d with loops := d.loops.dropLast }))) := by
        show _ = _
        rw [List.take_add_one, hnj, List.foldl_append]
        rfl
      have HL : Hid (Calls Tryz.prog 240 #[.pointer (some ⟨pj.1, 0, none⟩), .pointer (some ⟨pj.2, 0, none⟩)] wr fun e w' => e = .returned (.tuple #[]) ∧ CRep w' o C N ((l0.breaks.take (j + 1)).foldl (fun c p => c.land x p) (c.upd x (fun d => { d with loops := d.loops.dropLast }))) ∧ Stp (fun k => k = labF x 5) wr o w' o) := by
        rw [HLL.out] at hL
        exact hL
      have e1 : decide (j < q) = true := decide_eq_true hjl
      have HA : Hid (b0.1.a = some ⟨gb, 0, none⟩) := a1
      unfold patV at hcl
      clear hrow a3 a5 a6 hpat hL hR hS hrel HLL hpj hnj hlen
      go_wp2_with (go_at_call 240; refine HL.out.mono ?_; rintro e w9 ⟨rfl, R9, S9⟩)
      have HR9 : Hid (CRep w9 o C N ((l0.breaks.take (j + 1)).foldl (fun c p => c.land x p) (c.upd x (fun d => { d with loops := d.loops.dropLast })))) := R9
      have HS9 : Hid (Stp (fun k => k = labF x 5) wr o w9 o) := S9
      clear R9 S9
      rw [← HA.out]
      obtain ⟨g', HG'⟩ : ∃ g', Hid (gk = g' + 1) := ⟨gk - 1, by show gk = _; omega⟩
      go_roundg g'
      case measure => have := HG'.out; omega
      case rel =>
        have hg' := HG'.out
        exact ⟨j + 1, by rw [HQ.out]; omega, by simp, HR9.out, HSJ.out.trans HS9.out⟩
    · have e1 : decide (j < q) = false := decide_eq_false hjl
      have hjq : j = q := by omega
      have HRF : Hid (CRep wr o C N (c.shut x)) := by
        show CRep wr o C N (c.shut x)
        rw [HSH.out, ← List.take_length (l := l0.breaks), HQ.out, ← hjq]
        exact hR
      clear hR hrel hS hjq
      go_wp2_with fail
      go_end0
      exact ⟨rfl, o, HRF.out, HS3.out.trans (HSJ.out.weaken (fun k h => .inr ⟨5, h⟩))⟩
end
end Go.Proofs.Qxb6500574aGreatDoor
