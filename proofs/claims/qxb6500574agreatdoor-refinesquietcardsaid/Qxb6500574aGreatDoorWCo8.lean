/-
  moon: THE COMPILER: if, while. Plain; no memory, no walk.
-/
import Derived.Test.Qxb6500574aGreatDoorWCo7
namespace Go.Proofs.Qxb6500574aGreatDoor
set_option linter.unusedVariables false
set_option linter.unusedSimpArgs false
theorem holes_ne {op x p : Nat} {l : List In} (h : op ≠ 21 ∨ x ≠ 65535) : holes p ((op, x) :: l) = holes (p + 1) l := by
  simp only [holes]
  rw [if_neg fun e => by
    have e1 : op = 21 := congrArg Prod.fst e
    have e2 : x = 65535 := congrArg Prod.snd e
    omega]
theorem patch_ne {op x ex : Nat} {l : List In} (h : op ≠ 21 ∨ x ≠ 65535) : patch ex ((op, x) :: l) = (op, x) :: patch ex l := by
  simp only [patch, List.map_cons]
  rw [if_neg fun e => by
    have e1 : op = 21 := congrArg Prod.fst e
    have e2 : x = 65535 := congrArg Prod.snd e
    omega]
theorem patch_noh {ex : Nat} (h : ex ≠ 65535) (l : List In) : NoH (patch ex l) := by
  intro i hi e
  obtain ⟨j, hj, rfl⟩ := List.mem_map.1 hi
  split at e
  · exact h (congrArg Prod.snd e)
  · contradiction
section
variable {N : List Nd} {k f a b n m kc al' lb lo : Nat} {lp : Bool} {L L' : List Bs} {r : En} {c c' : CmD} {seg : List In}
theorem com_s6 (g : (N.getD n nd0).k = 6) : comN N (k + 1) 0 f n c = (comN N k 3 f (N.getD n nd0).c (((comN N k 3 f (N.getD n nd0).b ((comN N k 1 f (N.getD n nd0).a c).jump f 22)).jump f 21).land f ((comN N k 1 f (N.getD n nd0).a c).here f))).land f ((comN N k 3 f (N.getD n nd0).b ((comN N k 1 f (N.getD n nd0).a c).jump f 22)).here f) := by
  conv => lhs; unfold comN
  simp (config := {decide := true}) only [if_true, if_false, g]
theorem com_s7 (g : (N.getD n nd0).k = 7) : comN N (k + 1) 0 f n c = (((comN N k 3 f (N.getD n nd0).b (((comN N k 1 f (N.getD n nd0).a c).jump f 22).open_ f (c.fn f).locals.length)).emit f [(21, c.here f % 65536)]).land f ((comN N k 1 f (N.getD n nd0).a c).here f)).shut f := by
  conv => lhs; unfold comN
  simp (config := {decide := true}) only [if_true, if_false, g]
theorem CA.t6 (C : CA N k) {b1 h1 b2 h2 x1 x2 : Nat} {l l2 : List Nat} (hN : n < N.length) (P : Pre f L r a (n - lo) c) (hn : lo < n) (hk : 2 * n + 2 ≤ k + 1) (hl : LpI lp lb L (c.fn f).loops) (g : (N.getD n nd0).k = 6) (g1 : al' = L.length) (g2 : n = h2 + 1) (g3 : Sh N 1 (N.getD n nd0).a lo a b1 120 0 0 false) (g4 : Chain N (N.getD n nd0).b l)
    (g5 : SeqS (fun x lo a b al al' => Sh N 0 x lo a b 120 al al' lp) l (N.getD n nd0).a h1 b1 b2 L.length x1) (g6 : Chain N (N.getD n nd0).c l2) (g7 : SeqS (fun x lo a b al al' => Sh N 0 x lo a b 120 al al' lp) l2 h1 h2 b2 b L.length x2) : PoS N (k + 1) 0 f L r a b n (n - lo) al' lb lp c := by
  have i1 := g3.lt
  have i2 := (SeqS.in_ Sh.ltS g5).1
  have i3 := (SeqS.in_ Sh.ltS g7).1
  have hr := P.iv.1.2.2.2
  have hpc := P.pc
  obtain ⟨s1, k1, p1, q1, c1, l1, n1, m1, y1⟩ := C.ex f L r _ a b1 _ _ c g3 ⟨P.iv, P.fa, by have := P.pc; omega, by have := P.kc; omega⟩ (by omega)
  obtain ⟨pj, cj, lj⟩ := Po.jump (a := b1) p1.iv 22
  have e := com_s6 (k := k) (f := f) (c := c) g
  generalize hA : comN N k 1 f (N.getD n nd0).a c = cA at *
  have hhA : cA.here f = ((c.fn f).code ++ s1).length := by unfold CmD.here; rw [c1]
  rw [hhA] at e
  generalize hJ : cA.jump f 22 = cJ at *
  have cj' : (cJ.fn f).code = (c.fn f).code ++ (s1 ++ [(22, 65535)]) := by rw [cj, c1, List.append_assoc]
  obtain ⟨s2, L2, k2, p2, q2, pf2, al2, c2, lo2, n2, m2, y2⟩ := C.bl f L r _ h1 b1 b2 _ l x1 lp lb cJ g4 g5 (by omega) (P.next (p1.trans pj) cj' (by simp only [List.length_append, List.length_cons, List.length_nil]; omega) (by omega)) (by rw [lj, l1]; exact hl) (by omega)
  have eL2 : L2 = L := (pf2.eq_of_length al2.symm).symm
  subst eL2
  simp only [if_true] at m2
  generalize hB : comN N k 3 f (N.getD n nd0).b cJ = cB at *
  have cB' : (cB.fn f).code = (c.fn f).code ++ s1 ++ (22, 65535) :: s2 := by rw [c2, cj']; simp
  have hhB : cB.here f = ((c.fn f).code ++ s1).length + 1 + s2.length := by unfold CmD.here; rw [cB']; simp; omega
  rw [hhB] at e
  obtain ⟨pj2, cj2, lj2⟩ := Po.jump (a := b2) p2.iv 21
  generalize hJ2 : cB.jump f 21 = cJ2 at *
  have pl := Po.land b2 pj2.iv ((c.fn f).code ++ s1).length
  obtain ⟨cl, ll⟩ := land_code pj2.iv ((c.fn f).code ++ s1).length
  generalize hLd : cJ2.land f ((c.fn f).code ++ s1).length = cL at *
  have cL' : (cL.fn f).code = (c.fn f).code ++ (s1 ++ (22, (c.fn f).code.length + (s1.length + 1 + s2.length + 1)) :: s2 ++ [(21, 65535)]) := by
    have e1 : (cJ2.fn f).code = ((c.fn f).code ++ s1) ++ (22, 65535) :: (s2 ++ [(21, 65535)]) := by rw [cj2, cB']; simp
    rw [cl, e1, landL_mid, Nat.mod_eq_of_lt (by simp only [List.length_append, List.length_cons, List.length_nil]; omega)]
    simp
    omega
  have plt : Po f L2 L2 r a b2 c cL _ := (((p1.trans pj).trans p2).trans pj2).trans pl
  obtain ⟨s3, L3, k3, p3, q3, pf3, al3, c3, lo3, n3, m3, y3⟩ := C.bl f L2 r h1 h2 b2 b _ l2 x2 lp lb cL g6 g7 (by omega) (P.next plt cL' (by simp only [List.length_append, List.length_cons, List.length_nil]; omega) (by omega)) (fun x => by
    obtain ⟨j1, l', br, j2⟩ := hl x
    refine ⟨j1, l', br ++ holes (cJ.fn f).code.length s2, ?_⟩
    rw [ll, lj2, lo2, lj, l1, j2, addB_snoc]) (by omega)
  have eL3 : L3 = L2 := (pf3.eq_of_length al3.symm).symm
  subst eL3
  simp only [if_true] at m3
  generalize hC : comN N k 3 f (N.getD n nd0).c cL = cC at *
  have pl2 := Po.land b p3.iv (((c.fn f).code ++ s1).length + 1 + s2.length)
  obtain ⟨cl2, ll2⟩ := land_code p3.iv (((c.fn f).code ++ s1).length + 1 + s2.length)
  have ec : ((cC.land f (((c.fn f).code ++ s1).length + 1 + s2.length)).fn f).code = (c.fn f).code ++ (s1 ++ (22, (c.fn f).code.length + (s1.length + 1 + s2.length + 1)) :: s2 ++ (21, (c.fn f).code.length + (s1.length + 1 + s2.length + 1 + s3.length)) :: s3) := by
    have e1 : (cC.fn f).code = ((c.fn f).code ++ (s1 ++ (22, (c.fn f).code.length + (s1.length + 1 + s2.length + 1)) :: s2)) ++ (21, 65535) :: s3 := by rw [c3, cL']; simp
    have e2 : ((c.fn f).code ++ s1).length + 1 + s2.length = ((c.fn f).code ++ (s1 ++ (22, (c.fn f).code.length + (s1.length + 1 + s2.length + 1)) :: s2)).length := by simp; omega
    rw [cl2, e1, e2, landL_mid, Nat.mod_eq_of_lt (by simp only [List.length_append, List.length_cons, List.length_nil]; omega)]
    simp
    omega
  have hx : (c.fn f).code.length + (s1.length + 1 + s2.length + 1 + s3.length) ≠ 65535 := by omega
  refine PoS.mk e ((plt.trans p3).trans pl2) (by omega) (List.prefix_refl _) g1.symm ec ?_ (fun x => (n1.append (NoH.cons (.inl (by decide)) (n2 x))).append (NoH.cons (.inr hx) (n3 x))) (by simp only [List.length_append, List.length_cons, List.length_nil]; omega) fun D hD ex hex => ?_
  · rw [ll2, lo3, ll, lj2, lo2, lj, l1, addB_addB]
    rw [holes_append, holes_append, n1.holes, holes_ne (.inl (by decide)), holes_ne (.inr hx), cj', cL']
    simp only [List.length_append, List.length_cons, List.length_nil, List.nil_append]
    congr 1
  · have abB := (((p1.trans pj).trans p2)).gr.ab
    have hD3 := hD.back pl2.gr (plt.trans p3).gr.ab P.fa hr
    have hD2 := hD3.back ((pj2.gr.trans pl.gr).trans p3.gr) abB P.fa hr
    have hD1 := hD2.back (pj.gr.trans p2.gr) p1.gr.ab P.fa hr
    have Y1 := y1 D hD1
    have Y2 := y2 D (hD2.sub p1.gr.ab) ex hex
    have Y3 := y3 D (hD3.sub plt.gr.ab) ex hex
    rw [cj', List.length_append, List.length_append, List.length_singleton] at Y2
    rw [cL', List.length_append] at Y3
    simp only [List.length_append, List.length_cons, List.length_nil, Nat.zero_add] at Y3
    rw [patch_append, patch_append, n1.patch, patch_ne (.inl (by decide)), patch_ne (.inr hx)]
    refine .inr (.inr (.inr ⟨rfl, .inr (.inr (.inr (.inr (.inr (.inl ⟨g, rfl, s1, patch ex s2, patch ex s3, ?_, Y1, Y2, ?_⟩)))))⟩))
    · rw [patch_len, patch_len]
    · rw [patch_len]
      rw [show s1.length + (s2.length + 1) + 1 = s1.length + 1 + s2.length + 1 by omega] at Y3
      exact Y3
theorem CA.t7 (C : CA N k) {b1 h1 x1 : Nat} {l : List Nat} (hN : n < N.length) (P : Pre f L r a (n - lo) c) (hn : lo < n) (hk : 2 * n + 2 ≤ k + 1) (g : (N.getD n nd0).k = 7) (g1 : al' = L.length) (g2 : n = h1 + 1) (g3 : Sh N 1 (N.getD n nd0).a lo a b1 120 0 0 false) (g4 : Chain N (N.getD n nd0).b l)
    (g5 : SeqS (fun x lo a b al al' => Sh N 0 x lo a b 120 al al' true) l (N.getD n nd0).a h1 b1 b L.length x1) : PoS N (k + 1) 0 f L r a b n (n - lo) al' lb lp c := by
  have i1 := g3.lt
  have i2 := (SeqS.in_ Sh.ltS g5).1
  have hr := P.iv.1.2.2.2
  have hpc := P.pc
  obtain ⟨s1, k1, p1, q1, c1, l1, n1, m1, y1⟩ := C.ex f L r _ a b1 _ _ c g3 ⟨P.iv, P.fa, by have := P.pc; omega, by have := P.kc; omega⟩ (by omega)
  obtain ⟨pj, cj, lj⟩ := Po.jump (a := b1) p1.iv 22
  have e := com_s7 (k := k) (f := f) (c := c) g
  rw [P.iv.loc, show c.here f = (c.fn f).code.length from rfl, Nat.mod_eq_of_lt (by omega)] at e
  generalize hA : comN N k 1 f (N.getD n nd0).a c = cA at *
  have hhA : cA.here f = ((c.fn f).code ++ s1).length := by unfold CmD.here; rw [c1]
  rw [hhA] at e
  generalize hJ : cA.jump f 22 = cJ at *
  have po := Po.open_ b1 pj.iv L.length
  obtain ⟨co, lo'⟩ := open_code pj.iv L.length
  generalize hO : cJ.open_ f L.length = cO at *
  have co' : (cO.fn f).code = (c.fn f).code ++ (s1 ++ [(22, 65535)]) := by rw [co, cj, c1, List.append_assoc]
  have plO := (p1.trans pj).trans po
  have loO : (cO.fn f).loops = (c.fn f).loops ++ [⟨L.length, []⟩] := by rw [lo', lj, l1]
  obtain ⟨s2, L2, k2, p2, q2, pf2, al2, c2, lo2, n2, m2, y2⟩ := C.bl f L r _ h1 b1 b _ l x1 true L.length cO g4 g5 (by omega) (P.next plO co' (by simp only [List.length_append, List.length_cons, List.length_nil]; omega) (by omega)) (fun _ => ⟨Nat.le_refl _, _, _, loO⟩) (by omega)
  have eL2 : L2 = L := (pf2.eq_of_length al2.symm).symm
  subst eL2
  simp only [if_true] at m2
  generalize hB : comN N k 3 f (N.getD n nd0).b cO = cB at *
  have pe := Po.emit b p2.iv [(21, (c.fn f).code.length)]
  obtain ⟨ce, le⟩ := emit_code p2.iv [(21, (c.fn f).code.length)]
  generalize hE : cB.emit f [(21, (c.fn f).code.length)] = cE at *
  have pl := Po.land b pe.iv ((c.fn f).code ++ s1).length
  obtain ⟨cl, ll⟩ := land_code pe.iv ((c.fn f).code ++ s1).length
  generalize hLd : cE.land f ((c.fn f).code ++ s1).length = cL at *
  have hce : (cE.fn f).code = ((c.fn f).code ++ s1) ++ (22, 65535) :: (s2 ++ [(21, (c.fn f).code.length)]) := by rw [ce, c2, co']; simp
  have cL' : (cL.fn f).code = ((c.fn f).code ++ (s1 ++ [(22, (c.fn f).code.length + (s1.length + 1 + s2.length + 1))])) ++ s2 ++ [(21, (c.fn f).code.length)] := by
    rw [cl, hce, landL_mid, Nat.mod_eq_of_lt (by simp only [List.length_append, List.length_cons, List.length_nil]; omega)]
    simp
    omega
  have hlen : (cL.fn f).code.length = (c.fn f).code.length + (s1.length + 1 + s2.length + 1) := by rw [cL']; simp; omega
  have lL : (cL.fn f).loops = (c.fn f).loops ++ [⟨L2.length, holes ((c.fn f).code ++ (s1 ++ [(22, (c.fn f).code.length + (s1.length + 1 + s2.length + 1))])).length s2⟩] := by
    rw [ll, le, lo2, loO, addB_snoc, co']
    simp
  obtain ⟨ps, cs, ls⟩ := Po.shut b pl.iv
  have ec : ((cL.shut f).fn f).code = (c.fn f).code ++ (s1 ++ (22, (c.fn f).code.length + (s1.length + 1 + s2.length + 1)) :: patch ((c.fn f).code.length + (s1.length + 1 + s2.length + 1)) s2 ++ [(21, (c.fn f).code.length)]) := by
    rw [cs, lL, hlen, List.getLastD_concat, cL', Nat.mod_eq_of_lt (by omega), fold_land]
    simp
  have hx : (c.fn f).code.length + (s1.length + 1 + s2.length + 1) ≠ 65535 := by omega
  refine PoS.nob e ((((plO.trans p2).trans pe).trans pl).trans ps) (by omega) (List.prefix_refl _) g1.symm ec (by rw [ls, lL, List.dropLast_concat]) ((n1.append (NoH.cons (.inl (by decide)) (patch_noh hx _))).append (NoH.one (.inr (by omega)))) (by simp only [List.length_append, List.length_cons, List.length_nil, patch_len]; omega) fun D hD ex => ?_
  have hD2 := hD.back ((pe.gr.trans pl.gr).trans ps.gr) (plO.trans p2).gr.ab P.fa hr
  have hD1 := hD2.back ((pj.gr.trans po.gr).trans p2.gr) p1.gr.ab P.fa hr
  have Y1 := y1 D hD1
  have Y2 := y2 D (hD2.sub p1.gr.ab) ((c.fn f).code.length + (s1.length + 1 + s2.length + 1)) (by omega)
  rw [co', List.length_append, List.length_append, List.length_singleton] at Y2
  refine .inr (.inr (.inr ⟨rfl, .inr (.inr (.inr (.inr (.inr (.inr (.inl ⟨g, rfl, s1, patch ((c.fn f).code.length + (s1.length + 1 + s2.length + 1)) s2, ?_, Y1, ?_⟩))))))⟩))
  · rw [patch_len]
  · rw [patch_len]; exact Y2
end
end Go.Proofs.Qxb6500574aGreatDoor
