/-
  moon: THE COMPILER: tables and functions. Plain; no memory, no walk.
-/
import Derived.Test.Qxb6500574aGreatDoorWCo4
namespace Go.Proofs.Qxb6500574aGreatDoor
set_option linter.unusedVariables false
set_option linter.unusedSimpArgs false
section
variable {N : List Nd} {k f a b n m kc : Nat} {L : List Bs} {r : En} {c c' : CmD} {seg : List In}
/-- the items of a table -/
theorem CA.items (C : CA N k) : ∀ (l : List Nat) (lo hi a b w i : Nat) (c : CmD), SeqE (fun x lo a b w => Sh N 1 x lo a b w 0 0 false) 0 l lo hi a b w → Pre f L r a (hi - lo) c → 2 * hi + 2 ≤ k → i + l.length < 65536 →
    ∃ seg kc, Po f L L r a b c (l.foldl (fun (x : CmD × Nat) m => ((comN N k 1 f m x.1).emit f [(13, (x.2 + 1) % 65536)], x.2 + 1)) (c, i)).1 kc ∧ kc ≤ hi - lo ∧ ((l.foldl (fun (x : CmD × Nat) m => ((comN N k 1 f m x.1).emit f [(13, (x.2 + 1) % 65536)], x.2 + 1)) (c, i)).1.fn f).code = (c.fn f).code ++ seg ∧ ((l.foldl (fun (x : CmD × Nat) m => ((comN N k 1 f m x.1).emit f [(13, (x.2 + 1) % 65536)], x.2 + 1)) (c, i)).1.fn f).loops = (c.fn f).loops ∧ NoH seg ∧ seg.length ≤ 3 * (hi - lo) ∧
      ∀ D, Ex D (l.foldl (fun (x : CmD × Nat) m => ((comN N k 1 f m x.1).emit f [(13, (x.2 + 1) % 65536)], x.2 + 1)) (c, i)).1 f r a b → Items (LayN N D k) ((f, L) :: r) l i (c.fn f).code.length seg := by
  intro l
  induction l with
  | nil =>
    intro lo hi a b w i c h P _ _
    obtain ⟨rfl, rfl⟩ := h
    exact ⟨[], 0, Po.refl _ P.iv, by omega, by simp, rfl, NoH.nil, by simp, fun D _ => rfl⟩
  | cons x l ih =>
    intro lo hi a b w i c h P hk hi'
    obtain ⟨b1, h1, h2⟩ := h
    simp only [List.length_cons] at hi'
    have i1 := h1.lt
    have i2 := (SeqE.in_ Sh.ltE h2).1
    obtain ⟨s1, k1, p1, q1, c1, l1, n1, m1, y1⟩ := C.ex f L r lo a b1 x w c h1 ⟨P.iv, P.fa, by have := P.pc; omega, by have := P.kc; omega⟩ (by omega)
    have pe := Po.emit b1 p1.iv [(13, i + 1)]
    obtain ⟨ce, le⟩ := emit_code p1.iv [(13, i + 1)]
    have c1' : (((comN N k 1 f x c).emit f [(13, i + 1)]).fn f).code = (c.fn f).code ++ (s1 ++ [(13, i + 1)]) := by rw [ce, c1, List.append_assoc]
    obtain ⟨s2, k2, p2, q2, c2, l2, n2, m2, y2⟩ := ih x hi b1 b _ (i + 1) ((comN N k 1 f x c).emit f [(13, i + 1)]) h2 (P.next (p1.trans pe) c1' (by simp; omega) (by omega)) hk (by omega)
    rw [List.foldl_cons]
    simp only
    rw [Nat.mod_eq_of_lt (by omega : i + 1 < 65536)]
    refine ⟨s1 ++ (13, i + 1) :: s2, k1 + 0 + k2, (p1.trans pe).trans p2, by omega, by rw [c2, c1']; simp, by rw [l2, le, l1], n1.append (NoH.cons (.inl (by decide)) n2), by simp; omega, fun D hD => ?_⟩
    have hD1 := hD.back p2.gr (p1.trans pe).gr.ab P.fa P.iv.1.2.2.2
    refine ⟨s1, s2, rfl, y1 D (hD1.back pe.gr p1.gr.ab P.fa P.iv.1.2.2.2), ?_⟩
    have := y2 D (hD.sub p1.gr.ab)
    rw [c1'] at this
    simp only [List.length_append, List.length_singleton] at this
    rw [Nat.add_assoc]
    exact this
/-- parameters come alive -/
theorem declares (a : Nat) : ∀ (ps : List Bs) (c : CmD) (L : List Bs), Inv c ((f, L) :: r) → L.length + ps.length ≤ 12 →
    Po f L (L ++ ps) r a a c (ps.foldl (fun c s => c.declare f s) c) 0 ∧ ((ps.foldl (fun c s => c.declare f s) c).fn f).code = (c.fn f).code ∧ ((ps.foldl (fun c s => c.declare f s) c).fn f).loops = (c.fn f).loops := by
  intro ps
  induction ps with
  | nil => intro c L I _; refine ⟨?_, rfl, rfl⟩; rw [List.append_nil]; exact Po.refl a I
  | cons s ps ih =>
    intro c L I h
    simp only [List.length_cons] at h
    have p1 := Po.declare a I s (by omega)
    obtain ⟨c1, l1⟩ := declare_code I s
    obtain ⟨p2, c2, l2⟩ := ih _ (L ++ [s]) p1.iv (by simp; omega)
    rw [List.foldl_cons]
    refine ⟨?_, by rw [c2, c1], by rw [l2, l1]⟩
    have := p1.trans p2
    rw [List.append_assoc] at this
    exact this
theorem fn_fresh (c : CmD) {x : Nat} (h : x < c.fns.length) (p : Option Nat) (g : Nat) : (c.fresh x p).fn g = if g = x then { fn0 with parent := p } else c.fn g := by
  have := fn_upd c h (fun _ => { fn0 with parent := p }) g
  exact this
/-- a function's law -/
theorem CA.func (C : CA N k) {lo : Nat} {d : Nd} {l : List Nat} {h1 h2 al2 : Nat} {l2 : List Nat} (P : Pre f L r a (n - lo) c) (hdn : d.n = a + 1) (hd12 : d.n ≤ 12) (hn : n = h2 + 1) (hN : n < N.length) (hc1 : Chain N d.a l) (hl3 : l.length ≤ 3) (hnm : Names N l lo h1) (hc2 : Chain N d.b l2)
    (hsq : SeqS (fun x lo a b al al' => Sh N 0 x lo a b 120 al al' false) l2 h1 h2 (a + 1) b l.length al2) (hk : 2 * n + 1 ≤ k)
    (e : comN N (k + 1) 1 f n c = ((comN N k 3 d.n d.b ((l.foldl (fun c m => c.declare d.n (N.getD m nd0).s) (c.fresh d.n (some f))).upd d.n fun x => { x with np := l.length })).emit d.n [(2, 0), (2, 0), (27, 0)]).emit f [(28, d.n)])
    (hL : ∀ D s, s = [(28, d.n)] → FnR N D (LayN N D k) f L r d → LayN N D (k + 1) 1 ((f, L) :: r) n (c.fn f).code.length s [] 0 0) : PoE N (k + 1) 1 f L r a b n (n - lo) c := by
  have I := P.iv
  have hfa := P.fa
  have hlt13 : c.fns.length = 13 := I.len
  have hr : ∀ e ∈ r, e.1 < f := I.1.2.2.2
  have hfx : f ≠ d.n := by omega
  have i1 := hnm.in_.1
  have i2 := (SeqS.in_ Sh.ltS hsq).1
  have f0 := fn_fresh c (x := d.n) (by omega) (some f)
  have e0 : (c.fresh d.n (some f)).fn d.n = { fn0 with parent := some f } := by rw [f0, if_pos rfl]
  have o0 : ∀ g, g ≠ d.n → (c.fresh d.n (some f)).fn g = c.fn g := fun g hg => by rw [f0, if_neg hg]
  have len0 : (c.fresh d.n (some f)).fns.length = c.fns.length := by simp [CmD.fresh, CmD.upd]
  have I0 : Inv (c.fresh d.n (some f)) ((d.n, []) :: (f, L) :: r) := by
    refine ⟨⟨by show d.n < 13; omega, by rw [e0]; rfl, by rw [e0]; rfl, fun x hx => ?_⟩, by rw [e0]; exact ⟨Nat.le_refl _, Nat.zero_le _⟩, ?_, by rw [e0]; exact ⟨List.nodup_nil, fun v hv => by cases hv⟩, I.congr len0 fun x hx => o0 _ ?_⟩
    · rcases List.mem_cons.1 hx with rfl | hx
      · show f < d.n; omega
      · have := hr x hx; show x.1 < d.n; omega
    · rw [e0]; exact ⟨List.nodup_nil, fun v hv => by cases hv⟩
    · rcases List.mem_cons.1 hx with rfl | hx
      · exact hfx
      · have := hr x hx; omega
  have hfold : l.foldl (fun c m => c.declare d.n (N.getD m nd0).s) (c.fresh d.n (some f)) = (l.map fun m => (N.getD m nd0).s).foldl (fun c s => c.declare d.n s) (c.fresh d.n (some f)) := by rw [List.foldl_map]
  obtain ⟨p1, c1, l1⟩ := declares (r := (f, L) :: r) (a + 1) (l.map fun m => (N.getD m nd0).s) _ [] I0 (by simp; omega)
  have oth1 : ∀ g, g ≠ d.n → ((l.map fun m => (N.getD m nd0).s).foldl (fun c s => c.declare d.n s) (c.fresh d.n (some f))).fn g = c.fn g := by
    intro g hg
    have : ∀ (qs : List Bs) (c : CmD), d.n < c.fns.length → (qs.foldl (fun c s => c.declare d.n s) c).fn g = c.fn g := by
      intro qs
      induction qs with
      | nil => intro c _; rfl
      | cons q qs ih =>
        intro c hc
        rw [List.foldl_cons, ih _ (by unfold CmD.declare; rw [upd_len]; exact hc)]
        unfold CmD.declare
        rw [fn_upd c hc, if_neg hg]
    rw [this _ _ (by rw [len0]; omega), o0 g hg]
  rw [← hfold] at p1 c1 l1 oth1
  simp only [List.nil_append] at p1
  generalize hC1 : l.foldl (fun c m => c.declare d.n (N.getD m nd0).s) (c.fresh d.n (some f)) = C1 at *
  generalize hps : (l.map fun m => (N.getD m nd0).s) = ps at *
  have hpl : ps.length = l.length := by rw [← hps]; simp
  have fu := fn_upd C1 p1.iv.lt (fun x => { x with np := l.length })
  have eu : (C1.upd d.n fun x => { x with np := l.length }).fn d.n = { C1.fn d.n with np := l.length } := by rw [fu, if_pos rfl]
  have I1 : Inv (C1.upd d.n fun x => { x with np := l.length }) ((d.n, ps) :: (f, L) :: r) := by
    have J := p1.iv
    have ho : ∀ x ∈ ((f, L) :: r : En), (C1.upd d.n fun x => { x with np := l.length }).fn x.1 = C1.fn x.1 := fun x hx => by
      have := J.1.2.2.2 x hx
      rw [fu, if_neg (by simp only at this; omega)]
    refine ⟨by rw [eu]; exact J.1, by rw [eu]; exact J.2.1, ?_, by rw [eu]; exact J.2.2.2.1, J.tail.congr (upd_len _ _ _) ho⟩
    rw [eu]
    refine ⟨J.2.2.1.1, fun d' hd' => ?_⟩
    rw [ho (f, L) (by simp)]
    exact J.2.2.1.2 d' hd'
  have code1 : ((C1.upd d.n fun x => { x with np := l.length }).fn d.n).code = [] := by rw [eu]; show (C1.fn d.n).code = []; rw [c1, e0]; rfl
  have loops1 : ((C1.upd d.n fun x => { x with np := l.length }).fn d.n).loops = [] := by rw [eu]; show (C1.fn d.n).loops = []; rw [l1, e0]; rfl
  have cons1 : ((C1.upd d.n fun x => { x with np := l.length }).fn d.n).consts.length = 0 := by
    rw [eu]
    show (C1.fn d.n).consts.length = 0
    have := p1.cn
    rw [e0] at this
    simpa [fn0] using this
  generalize hC2 : (C1.upd d.n fun x => { x with np := l.length }) = C2 at *
  have hpc := P.pc
  have hkc := P.kc
  obtain ⟨s3, L3, k3, p3, q3, pf3, al3, c3, lo3, n3, m3, y3⟩ := C.bl d.n ps ((f, L) :: r) h1 h2 (a + 1) b d.b l2 al2 false 0 C2 hc2 (by rw [hpl]; exact hsq) (by omega) ⟨I1, by omega, by rw [code1]; simp only [List.length_nil]; omega, by omega⟩ (fun e => by cases e) (by omega)
  have eL3 : L3 = ps := (pf3.eq_of_length al3.symm).symm
  subst eL3
  have n3 := n3 rfl
  rw [code1, List.nil_append] at c3
  rw [loops1] at lo3
  generalize hC3 : comN N k 3 d.n d.b C2 = C3 at *
  have p4 := Po.emit b p3.iv [(2, 0), (2, 0), (27, 0)]
  obtain ⟨c4, l4⟩ := emit_code p3.iv [(2, 0), (2, 0), (27, 0)]
  generalize hC4 : C3.emit d.n [(2, 0), (2, 0), (27, 0)] = C4 at *
  have I4 : Inv C4 ((f, L) :: r) := p4.iv.tail
  have p5 := Po.emit b I4 [(28, d.n)]
  obtain ⟨c5, l5⟩ := emit_code I4 [(28, d.n)]
  have hab : a + 1 ≤ b := p3.gr.ab
  -- what the whole has done to f and those around
  have up02 : ∀ g, g ≠ d.n → C2.fn g = c.fn g := fun g hg => by
    rw [fu, if_neg hg]
    exact oth1 g hg
  have g34 : Gr d.n ((f, L) :: r) (a + 1) b C2 C4 := p3.gr.trans p4.gr
  have f4 : C4.fn f = { c.fn f with ups := (C4.fn f).ups } := by
    have := g34.anc (f, L) (by simp)
    simp only at this
    rw [this, up02 f hfx]
  have r4 : ∀ e ∈ r, C4.fn e.1 = { c.fn e.1 with ups := (C4.fn e.1).ups } := fun e he => by
    have := g34.anc e (by simp [he])
    rw [this, up02 e.1 (by have := hr e he; omega)]
  have gr04 : Gr f r a b c C4 := by
    refine ⟨by omega, ?_, fun hnp => g34.np ?_, fun g h1 h2 h3 => ?_, r4, ?_, fun e he => ?_, by rw [f4]; exact List.prefix_refl _, by rw [f4]; exact Nat.le_refl _, by rw [f4], by rw [f4]⟩
    · rw [g34.len, ← hC2, upd_len, p1.gr.len, len0]
    · have h0 : (c.fresh d.n (some f)).np = a + 1 + 1 := by
        show max c.np (d.n + 1) = _
        rw [hnp, hdn]
        omega
      rw [← hC2]
      exact p1.gr.np h0
    · rw [g34.out g (by omega) (fun e he => ?_) (by omega), up02 g (by omega)]
      rcases List.mem_cons.1 he with rfl | he
      · exact fun e => h1 e.symm
      · exact h2 e he
    · have := g34.upr (f, L) (by simp)
      simp only at this
      rw [up02 f hfx] at this
      exact this
    · have := g34.upr e (by simp [he])
      rw [up02 e.1 (by have := hr e he; omega)] at this
      exact this
  have po04 : Po f L L r a b c C4 0 := ⟨gr04, I4, by rw [f4]; exact Nat.le_refl _⟩
  refine PoE.mk (seg := [(28, d.n)]) e (po04.trans p5) (by omega) (by rw [c5, f4]) (by rw [l5, f4]) (NoH.one (.inl (by decide))) (by simp; omega) fun D hD => hL D _ rfl ?_
  have hD4 := hD.back p5.gr (by omega) hfa hr
  have Dg : D.fn d.n = C4.fn d.n := hD4.full d.n (by omega) (by omega)
  have Dx : Ex D C4 d.n ((f, L) :: r) (a + 1) b := ⟨fun g h1 h2 => hD4.full g (by omega) h2, by rw [Dg]; exact List.prefix_refl _, fun e he => ?_, by rw [Dg]; exact List.prefix_refl _, by rw [Dg]; exact Nat.le_refl _⟩
  · have Dx3 := Dx.back p4.gr hab (Nat.le_of_eq hdn) (fun e he => p4.iv.1.2.2.2 e he)
    have Y := y3 D Dx3 0 (by decide)
    rw [code1, n3.patch] at Y
    have I4' := p4.iv
    refine ⟨l, s3, hc1, ?_, ?_, ?_, ?_, ?_, ?_, ?_, ?_, ?_, ?_, ?_⟩
    · rw [hps]
      have Y2 : LayN N D k 3 ((d.n, L3) :: (f, L) :: r) d.b 0 s3 L3 0 0 := Y
      exact Y2
    · rw [Dg, c4, c3]
    · rw [Dg, p4.gr.npf, p3.gr.npf, eu]
    · rw [Dg]; exact I4'.1.2.2.1
    · rw [Dg, hps]; exact I4'.1.2.1
    · rw [Dg, l4, lo3]; rfl
    · rw [Dg]
      refine ⟨I4'.2.2.1.1, fun d' hd' => ?_⟩
      rcases I4'.2.2.1.2 d' hd' with x | ⟨x1, x2⟩
      · exact .inl x
      · exact .inr ⟨x1, Nat.lt_of_lt_of_le x2 hD4.ups.length_le⟩
    · rw [Dg, ← hpl]; exact I4'.2.1
    · rw [Dg]; exact I4'.2.2.2.1
    · rw [Dg, c4, c3, List.length_append]
      simp only [if_true] at m3
      simp only [List.length_cons, List.length_nil]
      omega
    · rw [Dg]
      have := p4.cn
      have := p3.cn
      omega
  · rcases List.mem_cons.1 he with rfl | he
    · exact hD4.ups
    · exact hD4.upr e he
end
end Go.Proofs.Qxb6500574aGreatDoor
