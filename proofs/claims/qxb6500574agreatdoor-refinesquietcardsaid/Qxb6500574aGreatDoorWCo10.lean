/-
  moon: THE COMPILER: the numeric for. Plain; no memory, no walk.
-/
import Derived.Test.Qxb6500574aGreatDoorWCo9
namespace Go.Proofs.Qxb6500574aGreatDoor
set_option linter.unusedVariables false
set_option linter.unusedSimpArgs false
section
variable {N : List Nd} {k f a b n m kc al' lb lo : Nat} {lp : Bool} {L L' : List Bs} {r : En} {c c' : CmD} {seg : List In}
theorem com_s8 (g : (N.getD n nd0).k = 8) : comN N (k + 1) 0 f n c =
    let base := (c.fn f).locals.length
    let c1 := (comN N k 1 f (N.getD n nd0).a c).bind f []
    let c2 := (comN N k 1 f (N.getD (N.getD n nd0).a nd0).next c1).bind f []
    let c3 := if (N.getD (N.getD (N.getD n nd0).a nd0).next nd0).next ≠ 0 then comN N k 1 f (N.getD (N.getD (N.getD n nd0).a nd0).next nd0).next c2 else (c2.const f (numV one64)).1.emit f [(1, (c2.const f (numV one64)).2)]
    let c4 := (c3.bind f []).emit f [(30, base % 65536)]
    let c5 := c4.emit f [(31, base % 65536)]
    let c6 := (((c5.jump f 22).open_ f base).emit f [(5, base % 65536)]).bind f (N.getD n nd0).s
    let c7 := ((comN N k 3 f (N.getD n nd0).b c6).leave f (base + 3)).emit f [(5, base % 65536), (5, (base + 2) % 65536), (15, 1), (6, base % 65536), (21, c4.here f % 65536)]
    ((c7.land f (c5.here f)).shut f).leave f base := by
  conv => lhs; unfold comN
  simp (config := {decide := true}) only [if_true, if_false, g]
theorem one64_ok : (numV one64).ok := .inl ⟨rfl, by decide, by decide⟩
/-- the step, typed or not -/
theorem CA.step (C : CA N k) {x2 h0 b2 b0 m : Nat} {l3 : List Nat} (hl3 : l3.length ≤ 1) (hc : Chain N (N.getD x2 nd0).next l3) (hs : SeqE (fun x lo a b w => Sh N 1 x lo a b 120 0 0 false) 0 l3 x2 h0 b2 b0 120) (P : Pre f L r b2 m c) (hm : h0 - x2 + 1 ≤ m) (hk : 2 * h0 + 2 ≤ k) :
    ∃ s3 k3 c3, c3 = (if (N.getD x2 nd0).next ≠ 0 then comN N k 1 f (N.getD x2 nd0).next c else (c.const f (numV one64)).1.emit f [(1, (c.const f (numV one64)).2)]) ∧ Po f L L r b2 b0 c c3 k3 ∧ k3 ≤ h0 - x2 + 1 ∧ (c3.fn f).code = (c.fn f).code ++ s3 ∧ (c3.fn f).loops = (c.fn f).loops ∧ NoH s3 ∧ s3.length ≤ 3 * (h0 - x2) + 1 ∧
      ∀ D, Ex D c3 f r b2 b0 → (((N.getD x2 nd0).next ≠ 0 ∧ LayN N D k 1 ((f, L) :: r) (N.getD x2 nd0).next (c.fn f).code.length s3 [] 0 0) ∨ ((N.getD x2 nd0).next = 0 ∧ ∃ x, s3 = [(1, x)] ∧ (D.fn f).consts[x]? = some (numV one64))) := by
  cases l3 with
  | nil =>
    obtain ⟨rfl, rfl⟩ := hs
    have hz : (N.getD h0 nd0).next = 0 := hc
    obtain ⟨p2, c2, l2, k2⟩ := Po.const b0 P.iv (numV one64) one64_ok (by have := P.kc; omega)
    have p3 := Po.emit b0 p2.iv [(1, (c.const f (numV one64)).2)]
    obtain ⟨c3, l3⟩ := emit_code p2.iv [(1, (c.const f (numV one64)).2)]
    refine ⟨[(1, (c.const f (numV one64)).2)], 1, _, rfl, ?_⟩
    rw [if_neg (by rw [hz]; simp)]
    exact ⟨p2.trans p3, by omega, by rw [c3, c2], by rw [l3, l2], NoH.one (.inl (by decide)), by simp, fun D hD => .inr ⟨hz, _, rfl, pre_at (hD.back p3.gr (Nat.le_refl _) P.fa P.iv.1.2.2.2).cons k2⟩⟩
  | cons x l3 =>
    have : l3 = [] := by cases l3 with | nil => rfl | cons _ _ => simp at hl3
    subst this
    obtain ⟨e1, e2, e3⟩ := hc
    obtain ⟨b1, h1, e4, e5⟩ := hs
    subst e5
    subst e4
    have i1 := h1.lt
    have hz : (N.getD x2 nd0).next ≠ 0 := by rw [e1]; exact e2
    obtain ⟨s1, k1, p1, q1, c1, l1, n1, m1, y1⟩ := C.ex f L r _ b2 b0 h0 _ c h1 ⟨P.iv, P.fa, by have := P.pc; omega, by have := P.kc; omega⟩ (by omega)
    refine ⟨s1, k1, _, rfl, ?_⟩
    rw [if_pos hz, e1]
    exact ⟨p1, by omega, c1, l1, n1, by omega, fun D hD => .inl ⟨e2, y1 D hD⟩⟩
theorem CA.t8 (C : CA N k) {h0 b0 h1 x1 : Nat} {l0 l : List Nat} (hN : n < N.length) (P : Pre f L r a (n - lo) c) (hn : lo < n) (hk : 2 * n + 2 ≤ k + 1) (g : (N.getD n nd0).k = 8) (g1 : al' = L.length) (g2 : L.length + 4 ≤ 12) (g4 : n = h1 + 1) (g5 : Chain N (N.getD n nd0).a l0) (g6 : l0.length = 2 ∨ l0.length = 3)
    (g7 : SeqE (fun x lo a b w => Sh N 1 x lo a b 120 0 0 false) 0 l0 lo h0 a b0 120) (g8 : Chain N (N.getD n nd0).b l) (g9 : SeqS (fun x lo a b al al' => Sh N 0 x lo a b 120 al al' true) l h0 h1 b0 b (L.length + 4) x1) : PoS N (k + 1) 0 f L r a b n (n - lo) al' lb lp c := by
  have i2 := (SeqS.in_ Sh.ltS g9).1
  have hr := P.iv.1.2.2.2
  have hpc := P.pc
  have e := com_s8 (k := k) (f := f) (c := c) g
  dsimp only at e
  rw [P.iv.loc, Nat.mod_eq_of_lt (by omega), Nat.mod_eq_of_lt (by omega : L.length + 2 < 65536)] at e
  generalize hd : N.getD n nd0 = d at *
  obtain ⟨y1', l1', el⟩ : ∃ y l', l0 = y :: l' := by cases l0 with | nil => simp at g6 | cons y l' => exact ⟨y, l', rfl⟩
  subst el
  obtain ⟨ea, ea0, gch⟩ := g5
  subst ea
  obtain ⟨y2', l3, el⟩ : ∃ y l', l1' = y :: l' := by cases l1' with | nil => simp at g6 | cons y l' => exact ⟨y, l', rfl⟩
  subst el
  obtain ⟨ea, ea2, gch3⟩ := gch
  rw [ea] at e
  obtain ⟨b1, gs1, gs⟩ := g7
  obtain ⟨b2, gs2, gs3⟩ := gs
  have gs3 : SeqE (fun x lo a b w => Sh N 1 x lo a b 120 0 0 false) 0 l3 y2' h0 b2 b0 120 := gs3
  have j1 := gs1.lt
  have j2 := gs2.lt
  have j3 := (SeqE.in_ (fun _ _ _ _ _ h => Sh.lt h) gs3).1
  have hl3 : l3.length ≤ 1 := by simp only [List.length_cons] at g6; omega
  -- the first value
  obtain ⟨s1, k1, p1, q1, c1, lp1, n1, m1, y1⟩ := C.ex f L r lo a b1 d.a _ c gs1 ⟨P.iv, P.fa, by have := P.pc; omega, by have := P.kc; omega⟩ (by omega)
  generalize hA : comN N k 1 f d.a c = cA at *
  obtain ⟨p2, c2, lp2⟩ := Po.bind b1 p1.iv [] (by omega)
  generalize h2 : cA.bind f [] = cB at *
  have eB : (cB.fn f).code = (c.fn f).code ++ (s1 ++ [(6, L.length)]) := by rw [c2, c1]; simp
  -- the limit
  obtain ⟨s2, k2, p3, q2, c3, lp3, n2, m2, y2⟩ := C.ex f _ r d.a b1 b2 y2' _ cB gs2 (P.next (p1.trans p2) eB (by simp only [List.length_append, List.length_cons, List.length_nil]; omega) (by omega)) (by omega)
  generalize h3 : comN N k 1 f y2' cB = cC at *
  obtain ⟨p4, c4, lp4⟩ := Po.bind b2 p3.iv [] (by simp; omega)
  generalize h4 : cC.bind f [] = cD at *
  have eD : (cD.fn f).code = (c.fn f).code ++ (s1 ++ (6, L.length) :: s2 ++ [(6, L.length + 1)]) := by rw [c4, c3, eB]; simp
  have eL2 : L ++ [[]] ++ [[]] = L ++ [[], []] := by simp only [List.append_assoc, List.singleton_append]
  have pD : Po f L (L ++ [[], []]) r a b2 c cD (k1 + k2) := by
    have := ((p1.trans p2).trans p3).trans p4
    rw [eL2] at this
    exact this
  -- the step
  obtain ⟨s3, k3, cE, hE, p5, q3, c5, lp5, n3, m3, y3⟩ := C.step (f := f) (L := L ++ [[], []]) (r := r) (c := cD) (m := h0 - y2' + 1 + (h1 - h0)) hl3 gch3 gs3 (P.next pD eD (by simp only [List.length_append, List.length_cons, List.length_nil]; omega) (by omega)) (by omega) (by omega)
  rw [← hE] at e
  obtain ⟨p6, c6, lp6⟩ := Po.bind b0 p5.iv [] (by simp; omega)
  generalize h6 : cE.bind f [] = cF at *
  have eL3 : L ++ [[], []] ++ [[]] = L ++ [[], [], []] := by simp only [List.append_assoc, List.cons_append, List.nil_append]
  rw [eL3] at p6
  have p7 := Po.emit b0 p6.iv [(30, L.length)]
  obtain ⟨c7, lp7⟩ := emit_code p6.iv [(30, L.length)]
  generalize h7 : cF.emit f [(30, L.length)] = cG at *
  have eG : (cG.fn f).code = (c.fn f).code ++ (s1 ++ (6, L.length) :: s2 ++ (6, L.length + 1) :: s3 ++ [(6, L.length + 2), (30, L.length)]) := by rw [c7, c6, c5, eD]; simp
  have hhG : cG.here f = (c.fn f).code.length + (s1.length + 1 + s2.length + 1 + s3.length + 2) := by unfold CmD.here; rw [eG]; simp; omega
  rw [hhG] at e
  have p8 := Po.emit b0 p7.iv [(31, L.length)]
  obtain ⟨c8, lp8⟩ := emit_code p7.iv [(31, L.length)]
  generalize h8 : cG.emit f [(31, L.length)] = cH at *
  have eH : (cH.fn f).code = (c.fn f).code ++ (s1 ++ (6, L.length) :: s2 ++ (6, L.length + 1) :: s3 ++ [(6, L.length + 2), (30, L.length), (31, L.length)]) := by rw [c8, eG]; simp
  have hhH : cH.here f = ((c.fn f).code ++ (s1 ++ (6, L.length) :: s2 ++ (6, L.length + 1) :: s3 ++ [(6, L.length + 2), (30, L.length), (31, L.length)])).length := by unfold CmD.here; rw [eH]
  rw [hhH] at e
  obtain ⟨p9, c9, lp9⟩ := Po.jump (a := b0) p8.iv 22
  generalize h9 : cH.jump f 22 = cI at *
  have p10 := Po.open_ b0 p9.iv L.length
  obtain ⟨c10, lp10⟩ := open_code p9.iv L.length
  generalize h10 : cI.open_ f L.length = cJ at *
  have p11 := Po.emit b0 p10.iv [(5, L.length)]
  obtain ⟨c11, lp11⟩ := emit_code p10.iv [(5, L.length)]
  generalize h11 : cJ.emit f [(5, L.length)] = cK at *
  obtain ⟨p12, c12, lp12⟩ := Po.bind b0 p11.iv d.s (by simp; omega)
  generalize h12 : cK.bind f d.s = cM at *
  have eL4 : L ++ [[], [], []] ++ [d.s] = L ++ [[], [], [], d.s] := by simp only [List.append_assoc, List.cons_append, List.nil_append]
  rw [eL4] at p12
  have gE : Gr f r b0 b0 cE cM := ((((((p6.gr.trans p7.gr).trans p8.gr).trans p9.gr).trans p10.gr).trans p11.gr).trans p12.gr)
  have pM : Po f L (L ++ [[], [], [], d.s]) r a b0 c cM (k1 + k2 + k3) := (((((((pD.trans p5).trans p6).trans p7).trans p8).trans p9).trans p10).trans p11).trans p12
  have eM : (cM.fn f).code = (c.fn f).code ++ (s1 ++ (6, L.length) :: s2 ++ (6, L.length + 1) :: s3 ++ [(6, L.length + 2), (30, L.length), (31, L.length)] ++ (22, 65535) :: [(5, L.length), (6, L.length + 3)]) := by rw [c12, c11, c10, c9, eH]; simp
  have lM : (cM.fn f).loops = (c.fn f).loops ++ [⟨L.length, []⟩] := by rw [lp12, lp11, lp10, lp9, lp8, lp7, lp6, lp5, lp4, lp3, lp2, lp1]
  obtain ⟨s4, L4, k4, pb, q4, pf4, al4, cb, lo4, n4, m4, y4⟩ := C.bl f _ r h0 h1 b0 b _ l x1 true L.length cM g8 (by rw [List.length_append]; exact g9) (by omega) (P.next pM eM (by simp only [List.length_append, List.length_cons, List.length_nil]; omega) (by omega)) (fun _ => ⟨by simp, _, _, lM⟩) (by omega)
  have eL4' := (pf4.eq_of_length al4.symm).symm
  subst eL4'
  simp only [if_true] at m4
  generalize hBd : comN N k 3 f d.b cM = cN at *
  obtain ⟨pv, cv, lv⟩ := Po.leave b pb.iv (L.length + 3)
  rw [if_pos (by simp)] at cv
  have eT : (L ++ [[], [], [], d.s]).take (L.length + 3) = L ++ [[], [], []] := List.take_length_add_append 3
  rw [eT] at pv
  generalize hV : cN.leave f (L.length + 3) = cV at *
  rw [Nat.mod_eq_of_lt (by omega)] at e
  generalize hh : (c.fn f).code.length + (s1.length + 1 + s2.length + 1 + s3.length + 2) = h at *
  have pm := Po.emit b pv.iv [(5, L.length), (5, L.length + 2), (15, 1), (6, L.length), (21, h)]
  obtain ⟨cm, lm⟩ := emit_code pv.iv [(5, L.length), (5, L.length + 2), (15, 1), (6, L.length), (21, h)]
  generalize hM : cV.emit f [(5, L.length), (5, L.length + 2), (15, 1), (6, L.length), (21, h)] = cW at *
  have eW : (cW.fn f).code = (c.fn f).code ++ (s1 ++ (6, L.length) :: s2 ++ (6, L.length + 1) :: s3 ++ [(6, L.length + 2), (30, L.length), (31, L.length)]) ++ (22, 65535) :: [(5, L.length), (6, L.length + 3)] ++ s4 ++ [(29, L.length + 3), (5, L.length), (5, L.length + 2), (15, 1), (6, L.length), (21, h)] := by rw [cm, cv, cb, eM]; simp
  have lW : (cW.fn f).loops = (c.fn f).loops ++ [⟨L.length, holes ((c.fn f).code ++ (s1 ++ (6, L.length) :: s2 ++ (6, L.length + 1) :: s3 ++ [(6, L.length + 2), (30, L.length), (31, L.length)]) ++ (22, 65535) :: [(5, L.length), (6, L.length + 3)]).length s4⟩] := by
    rw [lm, lv, lo4, lM, addB_snoc, eM]
    simp only [List.nil_append, List.append_assoc]
  have hlW : (cW.fn f).code.length = h + 4 + s4.length + 6 := by rw [eW]; simp; omega
  obtain ⟨pz, cz, lz⟩ := loop_end (a := b) (B := L.length) (by omega) pm.iv (by simp) eW lW (by omega)
  rw [hlW] at cz
  have hx : h + 4 + s4.length + 6 ≠ 65535 := by omega
  have eT2 : (L ++ [[], [], []] : List Bs).take L.length = L := List.take_left
  rw [eT2] at pz
  refine PoS.nob e ((((pM.trans pb).trans pv).trans pm).trans pz) (by omega) (List.prefix_refl _) g1.symm cz lz ?_ (by simp only [List.length_append, List.length_cons, List.length_nil, patch_len]; omega) fun D hD ex => ?_
  · refine NoH.append (NoH.append (NoH.append (NoH.append (NoH.append (NoH.append (n1.append (NoH.cons (.inl (by decide)) n2)) (NoH.cons (.inl (by decide)) n3)) ?_) ?_) (patch_noh hx _)) ?_) (NoH.one (.inl (by decide)))
    · exact NoH.cons (.inl (by decide)) (NoH.cons (.inl (by decide)) (NoH.one (.inl (by decide))))
    · exact NoH.cons (.inl (by decide)) (NoH.cons (.inl (by decide)) (NoH.one (.inl (by decide))))
    · exact NoH.cons (.inl (by decide)) (NoH.cons (.inl (by decide)) (NoH.cons (.inl (by decide)) (NoH.cons (.inl (by decide)) (NoH.cons (.inl (by decide)) (NoH.one (.inr (by omega)))))))
  · have hDb := hD.back ((pv.gr.trans pm.gr).trans pz.gr) (pM.trans pb).gr.ab P.fa hr
    have hDE := hDb.back (gE.trans pb.gr) (pD.trans p5).gr.ab P.fa hr
    have hDD := hDE.back p5.gr pD.gr.ab P.fa hr
    have hDC := hDD.back p4.gr ((p1.trans p2).trans p3).gr.ab P.fa hr
    have hDA := hDC.back (p2.gr.trans p3.gr) p1.gr.ab P.fa hr
    have Y1 := y1 D hDA
    have Y2 := y2 D (hDC.sub p1.gr.ab)
    have Y3 := y3 D (hDE.sub pD.gr.ab)
    have Y4 := y4 D (hDb.sub pM.gr.ab) (h + 4 + s4.length + 6) (by omega)
    rw [eB, List.length_append, List.length_append, List.length_singleton] at Y2
    have e3 : (cD.fn f).code.length = (c.fn f).code.length + (s1.length + 1 + s2.length + 1) := by rw [eD]; simp; omega
    have e4 : (cM.fn f).code.length = h + 4 := by rw [eM]; simp; omega
    rw [e3] at Y3
    rw [e4] at Y4
    refine .inr (.inr (.inr ⟨rfl, .inr (.inr (.inr (.inr (.inr (.inr (.inr (.inl ?_)))))))⟩))
    rw [hd, ea]
    refine ⟨g, rfl, by have h4 := Nat.le_trans pb.iv.2.1.1 hDb.ns; simpa using h4, s1, s2, s3, patch (h + 4 + s4.length + 6) s4, h, h + 4 + s4.length + 6, hh.symm, by rw [patch_len], ?_, Y1, Y2, Y3, Y4⟩
    simp
end
end Go.Proofs.Qxb6500574aGreatDoor
