/-
  moon: RETURNS. Plain; no memory, no walk.
-/
import Derived.Test.Qxb6500574aGreatDoorZM35
namespace Go.Proofs.Qxb6500574aGreatDoor
set_option linter.unusedVariables false
set_option linter.unusedSimpArgs false
theorem retT_seg : ∀ {seg tl : List TkD}, (∀ t ∈ seg, t.k ≠ 3) → retT (seg ++ tl) = retT tl
  | [], _, _ => rfl
  | a :: seg, tl, h => by
    rw [List.cons_append, retT, if_neg (h a (by simp))]
    exact retT_seg fun t ht => h t (by simp [ht])
section
variable {N : List Nd} {root : Nat} {D : CmD} {S : Nat → Nat → Ty → Prop} {K : Cx} {m m1 : VMD} {fu s fu' s' : Nat} {M M' : MD} {P P' : List (Option Lc)} {i c : Nat} {t t' : ThD} {T T' : MTh} {f f' : FmD} {fs : List FmD} {F F' : FrIZ} {k : TkD} {tl : List TkD} {stk A : List Vl} {pc : Nat} {r : List In} {v w : Vl}
/-- n operands are gone -/
theorem Op.popW (h : Op N root D S K m fu s M P i t T f fs F) {n y fu1 : Nat} (hn : n ≤ oO D m t f) (T2 : MTh) :
    RelW N root D (mS m i t f fs (t.stack.take (t.stack.length - n)) y) fu1 s { M.st T2 with fuel := fu1 } P i ∧ KpR (Zo N D m M P i t) (Zo N D (mS m i t f fs (t.stack.take (t.stack.length - n)) y) { M.st T2 with fuel := fu1 } P i (tS t f fs (t.stack.take (t.stack.length - n)) y)) f.ret := by
  have fo := h.fo
  have hle := h.le
  have ho : oO D m t f = t.stack.length - (f.base + (D.fn (gO m f)).nslots) := rfl
  have hret := fo.ret
  have hL : F.L.length ≤ (D.fn (gO m f)).nslots := fo.ns
  have W := h.rel.w i
  have places : ∀ a q : Nat, P[a]? = some (some (.inl (i, q))) → q < f.base + (D.fn (gO m f)).nslots := fun a q hq => by
    rcases h.place hq with z | ⟨j, s, j1, j2, j3⟩
    · omega
    · have := (List.getElem?_eq_some_iff.1 j1).1
      omega
  have ce : ClM m (mS m i t f fs (t.stack.take (t.stack.length - n)) y) P P := ClM.same rfl rfl rfl
  have th : ∀ j, (mS m i t f fs (t.stack.take (t.stack.length - n)) y).th j = if j = i then tS t f fs (t.stack.take (t.stack.length - n)) y else m.th j := fun j => th_set h.hi
  have gd : ∀ q, q < f.base + (D.fn (gO m f)).nslots → (t.stack.take (t.stack.length - n)).getD q nilV = t.stack.getD q nilV := fun q hq => gd_take (by omega)
  have MV : MvW N D m (mS m i t f fs (t.stack.take (t.stack.length - n)) y) M { M.st T2 with fuel := fu1 } P P i :=
    ⟨W.out, W.tabs, W.done, rfl, rfl, ⟨rfl, rfl, rfl, rfl, fun _ _ => rfl, Nat.le_refl _⟩, ⟨T2, by simp only [MD.st, h.cu]⟩, by simp, fun j u hj hu => by
      have hu : (m.ths.set i (tS t f fs (t.stack.take (t.stack.length - n)) y))[j]? = some u := hu
      rw [List.getElem?_set_ne (fun e => hj e.symm)] at hu
      exact ⟨u, hu, rfl, rfl, rfl, rfl, fun _ _ => rfl⟩, ce, EGr.refl _, List.prefix_refl _, W.cl, fun c h1 h2 => absurd h2 (by simp only; omega), W.vr.keep (fun a x hx => by
      rw [th]
      by_cases e : x.1 = i
      · rw [if_pos e, e, th_get h.hi]
        have hx' : P[a]? = some (some (.inl (i, x.2))) := by rw [← e]; exact hx
        have := places a x.2 hx'
        exact ⟨by simp only [tS, List.length_take]; omega, gd _ this⟩
      · rw [if_neg e]
        exact ⟨W.vr.st a x hx, rfl⟩) rfl, W.ac, fun _ _ _ _ => Iff.rfl⟩
  exact ⟨W.move h.cu MV (fu' := fu1) (s' := s) rfl W.first, ⟨rfl, rfl, rfl, ce, EGr.refl _, List.prefix_refl _, by show f.ret ≤ t.stack.length; omega, by show f.ret ≤ (t.stack.take _).length; rw [List.length_take]; omega, fun q hq _ => gd q (by omega), fun _ _ _ => Iff.rfl⟩⟩
theorem Op.popB (h : Op N root D S K m fu s M P i t T f fs F) {n y fu1 : Nat} (hn : n ≤ oO D m t f) (T2 : MTh) {ts seg : List TkD} (te : ts = seg ++ ⟨3, if f.prot then 1 else 0, F.low.length, none⟩ :: F.rest) (sg : ∀ t ∈ seg, t.k ≠ 3) {V : List Vl} (hV : F.low <+: V) :
    FrB (Zo N D (mS m i t f fs (t.stack.take (t.stack.length - n)) y) { M.st T2 with fuel := fu1 } P i (tS t f fs (t.stack.take (t.stack.length - n)) y)) { f with pc := y } { F with seg := seg } ts V (t.stack.take (t.stack.length - n)).length := by
  have hle := h.le
  have ho : oO D m t f = t.stack.length - (f.base + (D.fn (gO m f)).nslots) := rfl
  refine ⟨h.fo.ci.keep (ClM.same rfl rfl rfl) (EGr.refl _) (List.prefix_refl _), te, sg, h.fo.ret, ?_, hV, fun a q h1 h2 h3 => ?_⟩
  · show f.base + (D.fn (gO m f)).nslots ≤ (t.stack.take _).length
    rw [List.length_take]
    omega
  · rcases h.place h1 with z | ⟨j, s, j1, j2, j3⟩
    · refine h.fo.pl a q h1 h2 ?_
      show q < t.stack.length
      have := h.fo.ret
      omega
    · show f.base ≤ q
      omega
/-- the round of a return -/
theorem LnZ.ret (L : LnZ D S m i t f fs (A ++ [v, w]) pc) (hc : (D.fn (gO m f)).code[pc]? = some (27, 0)) (hA : f.base + (D.fn (gO m f)).nslots ≤ A.length) (fu : Nat) : ∃ K', VI K' (mS m i t f fs A pc) ∧
    (fs = [] → roundP fu (mS m i t f fs (A ++ [v, w]) pc) i = .inr (⟨1, 0, 0, v, w⟩, fu, kill (mS m i t f fs A pc) i) ∧ VI K' (kill (mS m i t f fs A pc) i)) ∧
    (fs ≠ [] → ∀ k, (closeFrom (mS m i t f fs A pc) i f.base).ths[i]? = some { tS t f fs A pc with opn := t.opn.take k } → roundP fu (mS m i t f fs (A ++ [v, w]) pc) i = .inl (fu, (closeFrom (mS m i t f fs A pc) i f.base).setTh i { tS t f fs A pc with opn := t.opn.take k, stack := A.take f.ret ++ (if f.prot then [boolV true, v] else [v, w]), frames := fs.reverse })) := by
  obtain ⟨K', R, rm⟩ := L.rt
  have hns : K'.ns f.clo = (D.fn (gO m f)).nslots := by
    obtain ⟨a, rr⟩ := R.run
    have e := rr.fx.ns
    have e2 : (fxOf (mS m i t f fs (A ++ [v, w]) pc) ((mS m i t f fs (A ++ [v, w]) pc).clos.getD ({ f with pc := pc } : FmD).clo cl0).p) = fxD D (gO m f) := L.cd
    rw [e2] at e
    exact e.symm
  have C := R.at_.cur.po R.at_.il R.at_.hf (k := 2) (by
    show f.base + K'.ns f.clo + 2 ≤ (A ++ [v, w]).length
    rw [hns]
    simp
    omega)
  have ep : pops (mS m i t f fs (A ++ [v, w]) pc) i 2 = mS m i t f fs A pc := by
    rw [pops_is (mS_get L.hi), mS_setTh]
    show ({ m with ths := m.ths.set i { t with stack := (A ++ [v, w]).take ((A ++ [v, w]).length - 2), frames := fs.reverse ++ [{ f with pc := pc }] } } : VMD) = _
    rw [take_sub (n := 2) rfl]
  rw [ep] at C
  have e0 : topV (mS m i t f fs (A ++ [v, w]) pc) i 0 = w := by
    rw [mS_topV L.hi]
    exact top2_0
  have e1 : topV (mS m i t f fs (A ++ [v, w]) pc) i 1 = v := by
    rw [mS_topV L.hi]
    exact top2_1
  have hI : instrP (mS m i t f fs (A ++ [v, w]) pc) i = (false, retP (mS m i t f fs (A ++ [v, w]) pc) i) := by
    rw [R.dis (op := 27) (x := 0) (by show (fxOf m (gO m f)).code[pc]? = _; rw [L.cd]; exact hc)]
    unfold disP
    simp (config := { decide := true }) only [if_true, if_false]
  refine ⟨K', C.vi, fun h0 => ?_, fun h0 k hk => ?_⟩
  · refine ⟨?_, (kill_inv C.vi C.up C.hi).1⟩
    unfold roundP
    rw [hI]
    unfold retP
    rw [ep, e0, e1]
    dsimp only
    rw [mS_th L.hi]
    subst h0
    simp (config := { decide := true }) only [if_true, if_false]
    simp
  · unfold roundP
    rw [hI]
    unfold retP
    rw [ep, e0, e1]
    dsimp only
    rw [mS_th L.hi, mS_topF L.hi]
    have hne : ¬ (fs.reverse ++ [{ f with pc := pc }]).length = 1 := by
      cases fs with
      | nil => exact absurd rfl h0
      | cons a b => simp
    dsimp only
    rw [if_neg hne]
    have hpush : ∀ vs, push (cut (closeFrom (mS m i t f fs A pc) i f.base) i f.ret) i vs = (closeFrom (mS m i t f fs A pc) i f.base).setTh i { tS t f fs A pc with opn := t.opn.take k, stack := A.take f.ret ++ vs } := fun vs => by
      rw [cut_is hk, push_is (setTh_get hk), setTh_setTh]
    rw [hpush, th_get (setTh_get hk), setTh_setTh]
    simp (config := { decide := true }) [ev0]
/-- A FUNCTION RETURNS v, w -/
theorem Op.ret (h : Op N root D S K m fu s M P i t T f fs F) {n : Nat} (hn : n ≤ oO D m t f) (hA : A = t.stack.take (t.stack.length - n)) (L : LnZ D S m i t f fs (A ++ [v, w]) pc) (hc : (D.fn (gO m f)).code[pc]? = some (27, 0)) {ts seg : List TkD} (te : ts = seg ++ ⟨3, if f.prot then 1 else 0, F.low.length, none⟩ :: F.rest) (sg : ∀ t ∈ seg, t.k ≠ 3) {V : List Vl} (hV : F.low <+: V) :
    PgZ N root D i M.stack s 1 (mS m i t f fs (A ++ [v, w]) pc) fu ((M.st { T with tasks := ts, vals := V }).ret v w) := by
  have hle := h.le
  have ho : oO D m t f = t.stack.length - (f.base + (D.fn (gO m f)).nslots) := rfl
  have W := h.rel.w i
  obtain ⟨K', V', r0, r1⟩ := L.ret hc (by rw [hA, List.length_take]; omega) fu
  obtain ⟨W2, KP⟩ := h.popW (y := pc) (fu1 := fu) hn { T with tasks := ts, vals := V }
  have FB := h.popB (y := pc) (fu1 := fu) hn { T with tasks := ts, vals := V } te sg hV
  rw [← hA] at W2 KP FB
  have eM : ({ M.st { T with tasks := ts, vals := V } with fuel := fu } : MD) = M.st { T with tasks := ts, vals := V } := by rw [← W.fuel]; rfl
  rw [eM] at W2 KP FB
  have hT2 : (M.st { T with tasks := ts, vals := V }).ths[i]? = some { T with tasks := ts, vals := V } := by
    show (M.ths.set M.cur _)[i]? = _
    rw [h.cu, List.getElem?_set_self (by rw [W.tl]; exact h.il)]
  unfold MD.ret
  rw [st_th h.cl]
  have hrt : retT ts = some (⟨3, if f.prot then 1 else 0, F.low.length, none⟩, F.rest) := by
    rw [te, retT_seg sg]
    rfl
  have hlow : V.take F.low.length = F.low := by
    obtain ⟨z, hz⟩ := hV
    rw [← hz]
    simp
  dsimp only
  rw [hrt]
  dsimp only
  rw [st_up h.cl]
  dsimp only
  rw [hlow]
  cases hfs : fs with
  | nil =>
    obtain ⟨e1, e2⟩ := r0 hfs
    have lo := h.lo
    rw [hfs] at lo
    obtain ⟨l1, l2⟩ := lo
    rw [l1, l2, if_pos rfl, st_up h.cl]
    have RK := W2.kill h.cu V' (mS_get h.il) hT2 h.tfn
    rw [st_st] at RK
    have hd : T.depth - 1 = 0 := by rw [h.tdp, hfs]; simp
    rw [hd]
    rw [← hfs]
    refine PgZ.event e1 ⟨(fun z => by cases z), (fun z => by cases z), fun _ => ?_, (fun z => by cases z)⟩
    exact RK.deliver e2 true v
  | cons g gs =>
    have hne : fs ≠ [] := by rw [hfs]; simp
    rw [← hfs]
    obtain ⟨kk, hk⟩ := (closeFrom_inv V' (mS_get h.il) f.base).th
    have e1 := r1 hne kk hk
    have hrest : F.rest ≠ [] := by
      have lo := h.lo
      rw [hfs] at lo
      obtain ⟨G, g1, _⟩ := lo
      rw [g1.te]
      simp
    rw [if_neg hrest, st_push h.cl]
    have lo := h.lo.keep KP
    have hab : ∃ a b, (if f.prot then [boolV true, v] else [v, w]) = [a, b] ∧ (if (if f.prot then 1 else 0) = 1 then [boolV true, v] else [v, w]) = [a, b] := by
      cases f.prot
      · exact ⟨v, w, rfl, rfl⟩
      · exact ⟨boolV true, v, rfl, rfl⟩
    obtain ⟨a, b, ab1, ab2⟩ := hab
    rw [ab1] at e1
    have ab2 : (if ({ k := 3, n := if f.prot = true then 1 else 0, x := F.low.length, e := none } : TkD).n = 1 then [boolV true, v] else [v, w]) = [a, b] := ab2
    rw [ab2]
    have R := W2.drop h.cu V' (mS_get h.il) hT2 h.st4 h.tst h.tfn FB (Nat.le_refl _) lo hne hk a b
    rw [st_st] at R
    have hd : T.depth - 1 = fs.length := by rw [h.tdp]; simp
    rw [hd]
    exact PgZ.round e1 (PgZ.rel R h.cu rfl)
theorem Op.k21 (h : Op N root D S K m fu s M P i t T f fs F) (ht : T.tasks = k :: tl) (hk : k.k = 21) : PgZ N root D i M.stack s 1 m fu M := by
  have cb := h.cb ht
  unfold Cb at cb
  simp (config := { decide := true }) only [hk, if_true, if_false] at cb
  obtain ⟨ho, ha⟩ := cb
  have h3 : k.k ≠ 3 := by omega
  have hM := h.step ht
  unfold stK at hM
  simp (config := { decide := true }) only [hk, if_true, if_false] at hM
  rw [h.top' (by omega), h.top' (by omega), st_pops h.cl] at hM
  obtain ⟨seg, e1, e2⟩ := h.seg ht h3
  have L := h.ln
  have e := h.st2 ho
  have hA : t.stack.take (f.base + (D.fn (gO m f)).nslots) = t.stack.take (t.stack.length - 2) := by
    congr 1
    have hle := h.le
    have : t.stack.length - (f.base + (D.fn (gO m f)).nslots) = 2 := ho
    omega
  rw [hA] at e
  have hm := h.mS_self
  generalize hAA : t.stack.take (t.stack.length - 2) = A at e
  rw [e] at L hm
  have R := h.ret (n := 2) (by omega) hAA.symm L ha.head.1 e1 e2 (V := T.vals.take (T.vals.length - 2)) (h.lowT (by omega))
  rw [hm] at R
  refine PgZ.step (h.rel.w i).done ?_
  rw [hM]
  exact R
theorem Op.k3 (h : Op N root D S K m fu s M P i t T f fs F) (ht : T.tasks = k :: tl) (hk : k.k = 3) : PgZ N root D i M.stack s 1 m fu M := by
  have cb := h.cb ht
  unfold Cb at cb
  simp (config := { decide := true }) only [hk, if_true, if_false] at cb
  obtain ⟨ho, pre, hp, hpc⟩ := cb
  have hM := h.step ht
  unfold stK at hM
  simp (config := { decide := true }) only [hk, if_true, if_false] at hM
  have hp : (D.fn (gO m f)).code = pre ++ [(2, 0), (2, 0), (27, 0)] := hp
  have a1 : AtC (D.fn (gO m f)).code f.pc [(2, 0), (2, 0)] := ⟨pre, [(27, 0)], by rw [hp]; simp, hpc, by simp⟩
  obtain ⟨r1, L1⟩ := h.ln.g2 a1 fu
  rw [h.mS_self] at r1
  obtain ⟨r2, L2⟩ := L1.g2 a1.head.2 fu
  have eA : t.stack ++ [nilV] ++ [nilV] = t.stack ++ [nilV, nilV] := by simp
  rw [eA] at r2 L2
  have c3 : (D.fn (gO m f)).code[f.pc + 1 + 1]? = some (27, 0) := by
    rw [hp, List.getElem?_append_right (by omega), show f.pc + 1 + 1 - pre.length = 2 by omega]
    rfl
  have R := h.ret (n := 0) (Nat.zero_le _) (by simp) L2 c3 (V := T.vals) h.fo.te h.fo.sg h.fo.lv
  have eM : M.st { T with tasks := T.tasks, vals := T.vals } = M := h.self
  rw [eM] at R
  refine PgZ.step (h.rel.w i).done ?_
  rw [hM]
  exact PgZ.round r1 (PgZ.weak (PgZ.round r2 (PgZ.weak R)))
end
end Go.Proofs.Qxb6500574aGreatDoor
