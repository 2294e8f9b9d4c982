/-
  moon: THE COMPILER: the generic for. Plain; no memory, no walk.
-/
import Derived.Test.Qxb6500574aGreatDoorWCo8
namespace Go.Proofs.Qxb6500574aGreatDoor
set_option linter.unusedVariables false
set_option linter.unusedSimpArgs false
section
variable {N : List Nd} {k f a b n m kc al' lb lo : Nat} {lp : Bool} {L L' : List Bs} {r : En} {c c' : CmD} {seg : List In}
/-- a loop's end: its way out and its breaks land, its locals end -/
theorem loop_end {B : Nat} {K p1 mid body post : List In} {l : List LpD} {LB : List Bs} (hB : B ≤ 12) (I : Inv c ((f, LB) :: r)) (hLB : B < LB.length) (hc : (c.fn f).code = K ++ p1 ++ (22, 65535) :: mid ++ body ++ post) (hl : (c.fn f).loops = l ++ [⟨B, holes (K ++ p1 ++ (22, 65535) :: mid).length body⟩]) (hlen : (c.fn f).code.length < 65535) :
    Po f LB (LB.take B) r a a c (((c.land f (K ++ p1).length).shut f).leave f B) 0 ∧ ((((c.land f (K ++ p1).length).shut f).leave f B).fn f).code = K ++ (p1 ++ (22, (c.fn f).code.length) :: mid ++ patch (c.fn f).code.length body ++ post ++ [(29, B)]) ∧ ((((c.land f (K ++ p1).length).shut f).leave f B).fn f).loops = l := by
  have pl := Po.land a I (K ++ p1).length
  obtain ⟨cl, ll⟩ := land_code I (K ++ p1).length
  generalize hLd : c.land f (K ++ p1).length = cL at *
  have e1 : (c.fn f).code = (K ++ p1) ++ (22, 65535) :: (mid ++ body ++ post) := by rw [hc]; simp
  have cL' : (cL.fn f).code = (K ++ p1 ++ (22, (c.fn f).code.length) :: mid) ++ body ++ post := by
    rw [cl, Nat.mod_eq_of_lt (by omega)]
    generalize (c.fn f).code.length = x
    rw [e1, landL_mid]
    simp
  have hln : (cL.fn f).code.length = (c.fn f).code.length := by rw [cl, landL_len]
  have hh : holes (K ++ p1 ++ (22, 65535) :: mid).length body = holes (K ++ p1 ++ (22, (c.fn f).code.length) :: mid).length body := by simp
  obtain ⟨ps, cs, ls⟩ := Po.shut a pl.iv
  obtain ⟨pv, cv, lv⟩ := Po.leave a ps.iv B
  rw [if_pos hLB] at cv
  refine ⟨(pl.trans ps).trans pv, ?_, ?_⟩
  · rw [cv, cs, ll, hl, List.getLastD_concat, hln, Nat.mod_eq_of_lt (by omega)]
    simp only
    rw [hh, cL', fold_land]
    simp
  · rw [lv, ls, ll, hl, List.dropLast_concat]
theorem com_s9 (g : (N.getD n nd0).k = 9) : comN N (k + 1) 0 f n c =
    let base := (c.fn f).locals.length
    let c1 := (((comN N k 1 f (N.getD n nd0).b c).bind f []).emit f [(2, 0)]).bind f []
    let c2 := c1.emit f [(32, base % 65536)]
    let c3 := (((c2.jump f 22).open_ f base).declare f (N.getD (N.getD n nd0).a nd0).s).declare f (N.getD (N.getD (N.getD n nd0).a nd0).next nd0).s
    let c4 := ((comN N k 3 f (N.getD n nd0).c c3).leave f (base + 2)).emit f [(21, c1.here f % 65536)]
    ((c4.land f (c2.here f)).shut f).leave f base := by
  conv => lhs; unfold comN
  simp (config := {decide := true}) only [if_true, if_false, g]
theorem CA.t9 (C : CA N k) {b0 h1 x1 : Nat} {l : List Nat} (hN : n < N.length) (P : Pre f L r a (n - lo) c) (hn : lo < n) (hk : 2 * n + 2 ≤ k + 1) (g : (N.getD n nd0).k = 9) (g1 : al' = L.length) (g2 : L.length + 4 ≤ 12) (g6 : n = h1 + 1) (g7 : Sh N 1 (N.getD n nd0).b (lo + 2) a b0 120 0 0 false) (g8 : Chain N (N.getD n nd0).c l)
    (g9 : SeqS (fun x lo a b al al' => Sh N 0 x lo a b 120 al al' true) l (N.getD n nd0).b h1 b0 b (L.length + 4) x1) : PoS N (k + 1) 0 f L r a b n (n - lo) al' lb lp c := by
  have i1 := g7.lt
  have i2 := (SeqS.in_ Sh.ltS g9).1
  have hr := P.iv.1.2.2.2
  have hpc := P.pc
  obtain ⟨s1, k1, p1, q1, c1, l1, n1, m1, y1⟩ := C.ex f L r _ a b0 _ _ c g7 ⟨P.iv, P.fa, by have := P.pc; omega, by have := P.kc; omega⟩ (by omega)
  have e := com_s9 (k := k) (f := f) (c := c) g
  dsimp only at e
  rw [P.iv.loc, Nat.mod_eq_of_lt (by omega)] at e
  generalize hA : comN N k 1 f (N.getD n nd0).b c = cA at *
  obtain ⟨p2, c2, l2⟩ := Po.bind b0 p1.iv [] (by omega)
  generalize h2 : cA.bind f [] = cB at *
  have p3 := Po.emit b0 p2.iv [(2, 0)]
  obtain ⟨c3, l3⟩ := emit_code p2.iv [(2, 0)]
  generalize h3 : cB.emit f [(2, 0)] = cC at *
  obtain ⟨p4, c4, l4⟩ := Po.bind b0 p3.iv [] (by simp; omega)
  generalize h4 : cC.bind f [] = cD at *
  have eD : (cD.fn f).code = (c.fn f).code ++ (s1 ++ [(6, L.length), (2, 0), (6, L.length + 1)]) := by rw [c4, c3, c2, c1]; simp
  have hhD : cD.here f = (c.fn f).code.length + (s1.length + 3) := by unfold CmD.here; rw [eD]; simp
  rw [hhD] at e
  have p5 := Po.emit b0 p4.iv [(32, L.length)]
  obtain ⟨c5, l5⟩ := emit_code p4.iv [(32, L.length)]
  generalize h5 : cD.emit f [(32, L.length)] = cE at *
  have eE : (cE.fn f).code = (c.fn f).code ++ (s1 ++ [(6, L.length), (2, 0), (6, L.length + 1), (32, L.length)]) := by rw [c5, eD]; simp
  have hhE : cE.here f = ((c.fn f).code ++ (s1 ++ [(6, L.length), (2, 0), (6, L.length + 1), (32, L.length)])).length := by unfold CmD.here; rw [eE]
  rw [hhE] at e
  obtain ⟨p6, c6, l6⟩ := Po.jump (a := b0) p5.iv 22
  generalize h6 : cE.jump f 22 = cF at *
  have p7 := Po.open_ b0 p6.iv L.length
  obtain ⟨c7, l7⟩ := open_code p6.iv L.length
  generalize h7 : cF.open_ f L.length = cG at *
  have p8 := Po.declare b0 p7.iv (N.getD (N.getD n nd0).a nd0).s (by simp; omega)
  obtain ⟨c8, l8⟩ := declare_code p7.iv (N.getD (N.getD n nd0).a nd0).s
  generalize h8 : cG.declare f (N.getD (N.getD n nd0).a nd0).s = cH at *
  have p9 := Po.declare b0 p8.iv (N.getD (N.getD (N.getD n nd0).a nd0).next nd0).s (by simp; omega)
  obtain ⟨c9, l9⟩ := declare_code p8.iv (N.getD (N.getD (N.getD n nd0).a nd0).next nd0).s
  generalize h9 : cH.declare f (N.getD (N.getD (N.getD n nd0).a nd0).next nd0).s = cI at *
  have eL : L ++ [[]] ++ [[]] ++ [(N.getD (N.getD n nd0).a nd0).s] ++ [(N.getD (N.getD (N.getD n nd0).a nd0).next nd0).s] = L ++ [[], [], (N.getD (N.getD n nd0).a nd0).s, (N.getD (N.getD (N.getD n nd0).a nd0).next nd0).s] := by simp only [List.append_assoc, List.singleton_append, List.cons_append, List.nil_append]
  have pI : Po f L (L ++ [[], [], (N.getD (N.getD n nd0).a nd0).s, (N.getD (N.getD (N.getD n nd0).a nd0).next nd0).s]) r a b0 c cI k1 := by
    have := (((((((p1.trans p2).trans p3).trans p4).trans p5).trans p6).trans p7).trans p8).trans p9
    rw [eL] at this
    exact this
  have eI : (cI.fn f).code = (c.fn f).code ++ (s1 ++ [(6, L.length), (2, 0), (6, L.length + 1), (32, L.length)] ++ [(22, 65535)]) := by rw [c9, c8, c7, c6, eE]; simp
  have lI : (cI.fn f).loops = (c.fn f).loops ++ [⟨L.length, []⟩] := by rw [l9, l8, l7, l6, l5, l4, l3, l2, l1]
  obtain ⟨s2, L2, k2, pb, q2, pf2, al2, cb, lo2, n2, m2, y2⟩ := C.bl f _ r (N.getD n nd0).b h1 b0 b _ l x1 true L.length cI g8 (by rw [List.length_append]; exact g9) (by omega) (P.next pI eI (by simp only [List.length_append, List.length_cons, List.length_nil]; omega) (by omega)) (fun _ => ⟨by simp, _, _, lI⟩) (by omega)
  have eL2 := (pf2.eq_of_length al2.symm).symm
  subst eL2
  simp only [if_true] at m2
  generalize hBd : comN N k 3 f (N.getD n nd0).c cI = cJ at *
  obtain ⟨pv, cv, lv⟩ := Po.leave b pb.iv (L.length + 2)
  rw [if_pos (by simp)] at cv
  have eT : (L ++ [[], [], (N.getD (N.getD n nd0).a nd0).s, (N.getD (N.getD (N.getD n nd0).a nd0).next nd0).s]).take (L.length + 2) = L ++ [[], []] := List.take_length_add_append 2
  rw [eT] at pv
  generalize hV : cJ.leave f (L.length + 2) = cV at *
  rw [Nat.mod_eq_of_lt (by omega)] at e
  have pm := Po.emit b pv.iv [(21, (c.fn f).code.length + (s1.length + 3))]
  obtain ⟨cm, lm⟩ := emit_code pv.iv [(21, (c.fn f).code.length + (s1.length + 3))]
  generalize hM : cV.emit f [(21, (c.fn f).code.length + (s1.length + 3))] = cM at *
  have eM : (cM.fn f).code = (c.fn f).code ++ (s1 ++ [(6, L.length), (2, 0), (6, L.length + 1), (32, L.length)]) ++ (22, 65535) :: [] ++ s2 ++ [(29, L.length + 2), (21, (c.fn f).code.length + (s1.length + 3))] := by rw [cm, cv, cb, eI]; simp
  have lM : (cM.fn f).loops = (c.fn f).loops ++ [⟨L.length, holes ((c.fn f).code ++ (s1 ++ [(6, L.length), (2, 0), (6, L.length + 1), (32, L.length)]) ++ (22, 65535) :: []).length s2⟩] := by
    rw [lm, lv, lo2, lI, addB_snoc, eI]
    simp
  have hlM : (cM.fn f).code.length = (c.fn f).code.length + (s1.length + 3) + 2 + s2.length + 2 := by rw [eM]; simp; omega
  obtain ⟨pz, cz, lz⟩ := loop_end (a := b) (B := L.length) (by omega) pm.iv (by simp) eM lM (by omega)
  rw [hlM] at cz
  have hx : (c.fn f).code.length + (s1.length + 3) + 2 + s2.length + 2 ≠ 65535 := by omega
  have eT2 : (L ++ [[], []] : List Bs).take L.length = L := List.take_left
  rw [eT2] at pz
  refine PoS.nob e ((((pI.trans pb).trans pv).trans pm).trans pz) (by omega) (List.prefix_refl _) g1.symm cz lz ?_ (by simp only [List.length_append, List.length_cons, List.length_nil, patch_len]; omega) fun D hD ex => ?_
  · refine NoH.append (NoH.append (NoH.append (NoH.append (NoH.append n1 ?_) ?_) (patch_noh hx _)) ?_) (NoH.one (.inl (by decide)))
    · exact NoH.cons (.inl (by decide)) (NoH.cons (.inl (by decide)) (NoH.cons (.inl (by decide)) (NoH.one (.inl (by decide)))))
    · exact NoH.one (.inl (by decide))
    · exact NoH.cons (.inl (by decide)) (NoH.one (.inr (by omega)))
  · have hD2 := hD.back ((pv.gr.trans pm.gr).trans pz.gr) (pI.trans pb).gr.ab P.fa hr
    have gA : Gr f r b0 b0 cA cI := ((((((p2.gr.trans p3.gr).trans p4.gr).trans p5.gr).trans p6.gr).trans p7.gr).trans p8.gr).trans p9.gr
    have hD1 := hD2.back (gA.trans pb.gr) p1.gr.ab P.fa hr
    have Y1 := y1 D hD1
    have Y2 := y2 D (hD2.sub p1.gr.ab) ((c.fn f).code.length + (s1.length + 3) + 2 + s2.length + 2) (by omega)
    rw [eI] at Y2
    simp only [List.length_append, List.length_cons, List.length_nil] at Y2
    refine .inr (.inr (.inr ⟨rfl, .inr (.inr (.inr (.inr (.inr (.inr (.inr (.inr (.inl ⟨g, rfl, by have h4 := Nat.le_trans pb.iv.2.1.1 hD2.ns; simpa using h4, s1, patch ((c.fn f).code.length + (s1.length + 3) + 2 + s2.length + 2) s2, _, _, rfl, rfl, ?_, Y1, ?_⟩))))))))⟩))
    · rw [patch_len]
      simp
    · rw [patch_len]
      rw [show (c.fn f).code.length + (s1.length + 3) + 2 = (c.fn f).code.length + (s1.length + (0 + 1 + 1 + 1 + 1) + (0 + 1)) by omega]
      rw [show (c.fn f).code.length + (s1.length + 3) + 2 = (c.fn f).code.length + (s1.length + (0 + 1 + 1 + 1 + 1) + (0 + 1)) by omega] at Y2
      exact Y2
end
end Go.Proofs.Qxb6500574aGreatDoor
