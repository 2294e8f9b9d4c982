/-
  moon: THE INTERPRETER's TASKS AND THE MACHINE's CODE: definitions. Plain; no memory, no walk.
-/
import Derived.Test.Qxb6500574aGreatDoorZM6
namespace Go.Proofs.Qxb6500574aGreatDoor
set_option linter.unusedVariables false
set_option linter.unusedSimpArgs false
/-- the parts of a frame that its tasks speak of: tree, code, function, contexts, variables, the closure's own, how many values lie below -/
structure FX where
  N : List Nd
  D : CmD
  f : Nat
  r : En
  E : List EnD
  lc : List Nat
  low : Nat
abbrev FX.cd (X : FX) : List In := (X.D.fn X.f).code
abbrev FX.nd (X : FX) (n : Nat) : Nd := X.N.getD n nd0
abbrev FX.ns (X : FX) : Nat := (X.D.fn X.f).nslots
/-- the environment e is the nodes lf ahead of the closure's own -/
abbrev FX.env (X : FX) (lf : List Nat) (e : Option Nat) : Prop := Chn X.E (lf ++ X.lc) e
/-- so many nodes belong to the locals L0 -/
abbrev sfx (lf : List Nat) (L L0 : List Bs) : List Nat := lf.drop ((nmL L).length - (nmL L0).length)
/-- the values of the hidden slots -/
def hidV (st : List Vl) : Nat → List Bs → List Vl
  | _, [] => []
  | b, s :: L => if s = [] then st.getD b nilV :: hidV st (b + 1) L else hidV st (b + 1) L
def hidc : List Bs → Nat
  | [] => 0
  | s :: L => if s = [] then hidc L + 1 else hidc L
/-- the locals of a block around: nothing hidden has come to them -/
abbrev Sub0 (L0 L : List Bs) : Prop := L0 <+: L ∧ hidc L = hidc L0
theorem Sub0.refl (L : List Bs) : Sub0 L L := ⟨List.prefix_refl _, rfl⟩
theorem Sub0.trans {A B C : List Bs} (h : Sub0 A B) (g : Sub0 B C) : Sub0 A C := ⟨h.1.trans g.1, g.2.trans h.2⟩
/-- an expression's shape; a statement's -/
def ExSZ (N : List Nd) (n : Nat) : Prop := ∃ lo a b w, Sh N 1 n lo a b w 0 0 false
def StS (N : List Nd) (n : Nat) (lp : Bool) : Prop := ∃ lo a b al al', Sh N 0 n lo a b 120 al al' lp
/-- an expression's code -/
def ExAt (X : FX) (L : List Bs) (n x pc : Nat) (s : List In) : Prop :=
  AtC X.cd pc s ∧ ((x = 0 ∧ (n = 0 ∨ ExSZ X.N n) ∧ Lay X.N X.D 1 ((X.f, L) :: X.r) n pc s [] 0 0) ∨ (n = 0 ∧ x = 1 ∧ ∃ k, s = [(1, k)] ∧ (X.D.fn X.f).consts[k]? = some (numV one64)))
/-- the close at a block's end -/
abbrev clI (L0 L1 : List Bs) : List In := if L0.length < L1.length then [(29, L0.length)] else []
/-- the statements from n on: alive L, the block's base L0; they end at pc' -/
def BlkAt (X : FX) (n pc : Nat) (L L0 : List Bs) (lp : Bool) (lb ex pc' : Nat) : Prop :=
  ∃ l s1 L1, Chain X.N n l ∧ (∀ x ∈ l, StS X.N x lp) ∧ L0 <+: L ∧ L <+: L1 ∧ Stmts (Lay X.N X.D) X.f X.r lb ex l L pc s1 L1 ∧
    AtC X.cd pc (s1 ++ clI L0 L1) ∧ pc' = pc + (s1 ++ clI L0 L1).length ∧ (lp = true → pc' ≤ ex)
/-- a loop's exit; a for's closes its slots first -/
def ExitAt (X : FX) (R : Nat → Prop) (L : List Bs) (ex : Nat) : Prop := R ex ∨ (AtC X.cd ex [(29, L.length)] ∧ R (ex + 1))
/-- at pc, or behind one jump forward -/
def Fwd (X : FX) (R : Nat → Prop) (pc : Nat) : Prop := R pc ∨ ∃ x, AtC X.cd pc [(21, x)] ∧ pc < x ∧ R x
/-- the segment of a while, at p -/
structure WhS (X : FX) (L : List Bs) (n p : Nat) (s1 s2 : List In) : Prop where
  k : (X.nd n).k = 7
  at_ : AtC X.cd p (s1 ++ (22, p + (s1.length + 1 + s2.length + 1)) :: s2 ++ [(21, p)])
  sh : ExSZ X.N (X.nd n).a
  c : Lay X.N X.D 1 ((X.f, L) :: X.r) (X.nd n).a p s1 [] 0 0
  b : BlkAt X (X.nd n).b (p + (s1.length + 1)) L L true L.length (p + (s1.length + 1 + s2.length + 1)) (p + (s1.length + 1) + s2.length)
/-- the segment of a numeric for; h: its test; e: its exit -/
structure FoS (X : FX) (L : List Bs) (n h e : Nat) (s4 : List In) : Prop where
  k : (X.nd n).k = 8
  nm : (X.nd n).s ≠ []
  ns : L.length + 4 ≤ X.ns
  h2 : 2 ≤ h
  at_ : AtC X.cd (h - 2) ([(6, L.length + 2), (30, L.length), (31, L.length), (22, e), (5, L.length), (6, L.length + 3)] ++ s4 ++ [(29, L.length + 3), (5, L.length), (5, L.length + 2), (15, 1), (6, L.length), (21, h), (29, L.length)])
  he : e = h + 4 + s4.length + 6
  b : BlkAt X (X.nd n).b (h + 4) (L ++ [[], [], [], (X.nd n).s]) (L ++ [[], [], [], (X.nd n).s]) true L.length e (h + 4 + s4.length)
/-- the names of a generic for -/
abbrev FX.in1 (X : FX) (n : Nat) : Bs := (X.nd (X.nd n).a).s
abbrev FX.in2 (X : FX) (n : Nat) : Bs := (X.nd (X.nd (X.nd n).a).next).s
/-- the segment of a generic for; h: its test; e: its exit -/
structure InS (X : FX) (L : List Bs) (n h e : Nat) (s2 : List In) : Prop where
  k : (X.nd n).k = 9
  nm : X.in1 n ≠ [] ∧ X.in2 n ≠ []
  ns : L.length + 4 ≤ X.ns
  h3 : 3 ≤ h
  at_ : AtC X.cd (h - 3) ([(6, L.length), (2, 0), (6, L.length + 1), (32, L.length), (22, e)] ++ s2 ++ [(29, L.length + 2), (21, h), (29, L.length)])
  he : e = h + 2 + s2.length + 2
  b : BlkAt X (X.nd n).c (h + 2) (L ++ [[], [], X.in1 n, X.in2 n]) (L ++ [[], [], X.in1 n, X.in2 n]) true L.length e (h + 2 + s2.length)
/-- where a table is being filled, it lies among the operands: h operands when the tasks begin, the first w of them stay -/
def Itm (ops : List Vl) : List TkD → Nat → Nat → Prop
  | [], _, _ => True
  | k :: ts, h, w =>
    if k.k = 3 then True
    else if k.k = 23 then 2 ≤ h ∧ h - 2 < w ∧ (ops.getD (h - 2) nilV).t = 4 ∧ Itm ops ts (h - 1) (min w (h - 1))
    else if k.k = 2 then Itm ops ts (h + 1) w
    else if k.k = 5 then Itm ops ts (h - 1) (min w (h - 1))
    else if k.k = 22 then Itm ops ts (h - (k.x + 1) + 2) (min w (h - (k.x + 1)))
    else if k.k = 24 ∨ k.k = 28 then Itm ops ts (h - 1) (min w (h - 2))
    else if k.k = 25 ∨ k.k = 26 ∨ k.k = 27 then Itm ops ts h (min w (h - 1))
    else Itm ops ts 0 0
theorem Itm.mono {ops ops' : List Vl} : ∀ {ts : List TkD} {h w w' : Nat}, Itm ops ts h w → w ≤ w' → (∀ q, q < w → ops'.getD q nilV = ops.getD q nilV) → Itm ops' ts h w'
  | [], _, _, _, _, _, _ => trivial
  | k :: ts, h, w, w', g, hw, ho => by
    unfold Itm at g ⊢
    by_cases h3 : k.k = 3
    · rw [if_pos h3]; trivial
    rw [if_neg h3] at g ⊢
    by_cases h23 : k.k = 23
    · rw [if_pos h23] at g ⊢
      obtain ⟨g0, g1, g2, g3⟩ := g
      exact ⟨g0, by omega, by rw [ho _ g1]; exact g2, g3.mono (by omega) (fun q hq => ho q (by omega))⟩
    rw [if_neg h23] at g ⊢
    by_cases h2 : k.k = 2
    · rw [if_pos h2] at g ⊢
      exact g.mono hw ho
    rw [if_neg h2] at g ⊢
    by_cases h5 : k.k = 5
    · rw [if_pos h5] at g ⊢
      exact g.mono (by omega) (fun q hq => ho q (by omega))
    rw [if_neg h5] at g ⊢
    by_cases h22 : k.k = 22
    · rw [if_pos h22] at g ⊢
      exact g.mono (by omega) (fun q hq => ho q (by omega))
    rw [if_neg h22] at g ⊢
    by_cases h24 : k.k = 24 ∨ k.k = 28
    · rw [if_pos h24] at g ⊢
      exact g.mono (by omega) (fun q hq => ho q (by omega))
    rw [if_neg h24] at g ⊢
    by_cases h25 : k.k = 25 ∨ k.k = 26 ∨ k.k = 27
    · rw [if_pos h25] at g ⊢
      exact g.mono (by omega) (fun q hq => ho q (by omega))
    rw [if_neg h25] at g ⊢
    exact g.mono (Nat.le_refl _) (fun q hq => by omega)
/-- no table is being filled -/
def NoI (ts : List TkD) : Prop := ∀ ops h w, Itm ops ts h w
/-- the loop's foot comes next -/
def Foot (X : FX) (L : List Bs) (ts : List TkD) : Prop := ts.head? = some ⟨4, 0, X.low + hidc L, none⟩
/-- THE TASKS of a frame, from pc on, with h operands and the locals L (their nodes lf) alive. true: instead: a break from here leads to pc, where the first h locals are alive -/
def Cb (X : FX) : List TkD → Bool → Nat → Nat → List Bs → List Nat → Prop
  | [], _, _, _, _, _ => False
  | k :: ts, true, ex, lb, L, lf =>
    if k.k = 3 then False
    else if k.k = 4 then lb ≤ L.length ∧ k.x = X.low + hidc (L.take lb) ∧ ExitAt X (fun p => Cb X ts false p 0 (L.take lb) (sfx lf L (L.take lb))) (L.take lb) ex
    else Cb X ts true ex lb L lf
  | k :: ts, false, pc, h, L, lf =>
    let go := fun p h => Cb X ts false p h L lf
    let d := X.nd k.n
    -- the statements from n on
    let blk := fun (n pc : Nat) (L : List Bs) (lf : List Nat) (L2 : List Bs) => ∃ L0 lp lb ex pc', Sub0 L0 L ∧ BlkAt X n pc L2 L0 lp lb ex pc' ∧ Fwd X (fun p => Cb X ts false p 0 L0 (sfx lf L L0)) pc' ∧ (lp = true → Cb X ts true ex lb L lf)
    if k.k = 3 then h = 0 ∧ ∃ pre, X.cd = pre ++ [(2, 0), (2, 0), (27, 0)] ∧ pre.length = pc
    else if k.k = 1 then h = 0 ∧ X.env lf k.e ∧ blk k.n pc L lf L
    else if k.k = 2 then
      X.env lf k.e ∧ ((∃ s, ExAt X L k.n k.x pc s ∧ go (pc + s.length) (h + 1)) ∨
      (∃ s, h = 1 ∧ NoI ts ∧ AtC X.cd pc [(6, L.length)] ∧ L.length < X.ns ∧ ExAt X (L ++ [[]]) k.n k.x (pc + 1) s ∧ Cb X ts false (pc + 1 + s.length) 1 (L ++ [[]]) lf))
    else if k.k = 4 then h = 0 ∧ k.x = X.low + hidc L ∧ ExitAt X (fun p => go p 0) L pc
    else if k.k = 5 then 1 ≤ h ∧ AtC X.cd pc [(25, 0)] ∧ go (pc + 1) (h - 1)
    else if k.k = 6 then h = 1 ∧ X.env lf k.e ∧ d.s ≠ [] ∧ L.length < X.ns ∧ AtC X.cd pc [(6, L.length)] ∧ blk d.next (pc + 1) L lf (L ++ [d.s])
    else if k.k = 7 then h = 2 ∧ X.env lf k.e ∧ X.in1 k.n ≠ [] ∧ X.in2 k.n ≠ [] ∧ L.length + 1 < X.ns ∧ AtC X.cd pc [(6, L.length + 1), (6, L.length)] ∧ blk d.next (pc + 2) L lf (L ++ [X.in1 k.n, X.in2 k.n])
    else if k.k = 9 then h = 1 ∧ X.env lf k.e ∧ d.s ≠ [] ∧ ∃ i, AtC X.cd pc [i] ∧ VarR X.D X.f L X.r d.s 6 8 10 i ∧ go (pc + 1) 0
    else if k.k = 10 then h = 3 ∧ AtC X.cd pc [(12, 0)] ∧ go (pc + 1) 0
    else if k.k = 11 then h = 1 ∧ X.env lf k.e ∧ ∃ s2 s3 lp lb ex, AtC X.cd pc ((22, pc + (1 + s2.length + 1)) :: s2 ++ (21, pc + (1 + s2.length + 1 + s3.length)) :: s3) ∧ BlkAt X d.b (pc + 1) L L lp lb ex (pc + 1 + s2.length) ∧ BlkAt X d.c (pc + (1 + s2.length + 1)) L L lp lb ex (pc + (1 + s2.length + 1 + s3.length)) ∧ (lp = true → Cb X ts true ex lb L lf) ∧ go (pc + (1 + s2.length + 1 + s3.length)) 0
    else if k.k = 12 then h = 0 ∧ X.env lf k.e ∧ ∃ s1 s2, WhS X L k.n pc s1 s2 ∧ Foot X L ts ∧ go (pc + (s1.length + 1 + s2.length + 1)) 0
    else if k.k = 13 then h = 1 ∧ X.env lf k.e ∧ ∃ p s1 s2, WhS X L k.n p s1 s2 ∧ pc = p + s1.length ∧ Foot X L ts ∧ go (p + (s1.length + 1 + s2.length + 1)) 0
    else if k.k = 14 then h = 0 ∧ X.env lf k.e ∧ ∃ p s1 s2, WhS X L k.n p s1 s2 ∧ pc = p + (s1.length + 1) + s2.length ∧ Foot X L ts ∧ go (p + (s1.length + 1 + s2.length + 1)) 0
    else if k.k = 15 then ∃ M t e s4, X.env lf k.e ∧ FoS X M k.n t e s4 ∧ Foot X M ts ∧ Cb X ts false e 0 M lf ∧ ((h = 1 ∧ L = M ++ [[], []] ∧ pc = t - 2) ∨ (h = 0 ∧ L = M ++ [[], [], []] ∧ pc = t - 1))
    else if k.k = 16 then h = 0 ∧ ∃ M t e s4, L = M ++ [[], [], []] ∧ X.env lf k.e ∧ FoS X M k.n t e s4 ∧ pc = t ∧ Foot X M ts ∧ Cb X ts false e 0 M lf
    else if k.k = 17 then h = 0 ∧ ∃ M t e s4 n lf', L = M ++ [[], [], [], d.s] ∧ lf = n :: lf' ∧ X.env lf' k.e ∧ FoS X M k.n t e s4 ∧ pc = t + 4 + s4.length ∧ Foot X M ts ∧ Cb X ts false e 0 M lf'
    else if k.k = 18 then h = 1 ∧ ∃ t e s2, X.env lf k.e ∧ InS X L k.n t e s2 ∧ pc = t - 3 ∧ Foot X L ts ∧ Cb X ts false e 0 L lf
    else if k.k = 19 then h = 0 ∧ ∃ M t e s2, L = M ++ [[], []] ∧ X.env lf k.e ∧ InS X M k.n t e s2 ∧ pc = t ∧ Foot X M ts ∧ Cb X ts false e 0 M lf
    else if k.k = 20 then h = 0 ∧ ∃ M t e s2 n n' lf', L = M ++ [[], [], X.in1 k.n, X.in2 k.n] ∧ lf = n :: n' :: lf' ∧ X.env lf' k.e ∧ InS X M k.n t e s2 ∧ pc = t + 2 + s2.length ∧ Foot X M ts ∧ Cb X ts false e 0 M lf'
    else if k.k = 21 then h = 2 ∧ AtC X.cd pc [(27, 0)]
    else if k.k = 22 then k.x + 1 ≤ h ∧ AtC X.cd pc [(26, k.x)] ∧ go (pc + 1) (h - (k.x + 1) + 2)
    else if k.k = 23 then 2 ≤ h ∧ X.env lf k.e ∧ ∃ l s2, AtC X.cd pc ((13, k.x) :: s2) ∧ Chain X.N d.next l ∧ (∀ x ∈ l, ExSZ X.N x) ∧ Items (Lay X.N X.D) ((X.f, L) :: X.r) l k.x (pc + 1) s2 ∧ go (pc + 1 + s2.length) (h - 1)
    else if k.k = 24 then 2 ≤ h ∧ AtC X.cd pc [binI d.n] ∧ opB d.n ∧ go (pc + 1) (h - 1)
    else if k.k = 25 then 1 ≤ h ∧ AtC X.cd pc [unI d.n] ∧ 1 ≤ d.n ∧ d.n ≤ 3 ∧ go (pc + 1) h
    else if k.k = 26 ∨ k.k = 27 then 1 ≤ h ∧ X.env lf k.e ∧ ∃ s2, AtC X.cd pc ((if k.k = 27 then 24 else 23, pc + (1 + s2.length)) :: s2) ∧ ExSZ X.N d.b ∧ Lay X.N X.D 1 ((X.f, L) :: X.r) d.b (pc + 1) s2 [] 0 0 ∧ go (pc + 1 + s2.length) h
    else if k.k = 28 then 2 ≤ h ∧ AtC X.cd pc [(11, 0)] ∧ go (pc + 1) (h - 1)
    else False
theorem Fwd.imp {X : FX} {R R' : Nat → Prop} (h : ∀ p, R p → R' p) {pc : Nat} : Fwd X R pc → Fwd X R' pc
  | .inl g => .inl (h _ g)
  | .inr ⟨x, a, b, g⟩ => .inr ⟨x, a, b, h _ g⟩
theorem ExitAt.imp {X : FX} {R R' : Nat → Prop} (h : ∀ p, R p → R' p) {L : List Bs} {pc : Nat} : ExitAt X R L pc → ExitAt X R' L pc
  | .inl g => .inl (h _ g)
  | .inr ⟨a, g⟩ => .inr ⟨a, h _ g⟩
/-- more variables -/
theorem Cb.mono {N : List Nd} {D : CmD} {f : Nat} {r : En} {E E' : List EnD} {lc : List Nat} {low : Nat} (hE : ∀ l e, Chn E l e → Chn E' l e) : ∀ {ts : List TkD} {br : Bool} {pc h : Nat} {L : List Bs} {lf : List Nat}, Cb ⟨N, D, f, r, E, lc, low⟩ ts br pc h L lf → Cb ⟨N, D, f, r, E', lc, low⟩ ts br pc h L lf := by
  intro ts
  induction ts with
  | nil => intro br pc h L lf g; cases br <;> exact g
  | cons k ts ih =>
    intro br pc h L lf
    cases br with
    | true =>
      unfold Cb
      exact ite_mono id (ite_mono (fun ⟨a, b, c⟩ => ⟨a, b, c.imp (X := ⟨N, D, f, r, E, lc, low⟩) fun _ => ih⟩) ih)
    | false =>
      unfold Cb
      dsimp only
      have hb : ∀ (n pc : Nat) (L : List Bs) (lf : List Nat) (L2 : List Bs), (∃ L0 lp lb ex pc', Sub0 L0 L ∧ BlkAt ⟨N, D, f, r, E, lc, low⟩ n pc L2 L0 lp lb ex pc' ∧ Fwd ⟨N, D, f, r, E, lc, low⟩ (fun p => Cb ⟨N, D, f, r, E, lc, low⟩ ts false p 0 L0 (sfx lf L L0)) pc' ∧ (lp = true → Cb ⟨N, D, f, r, E, lc, low⟩ ts true ex lb L lf)) → (∃ L0 lp lb ex pc', Sub0 L0 L ∧ BlkAt ⟨N, D, f, r, E', lc, low⟩ n pc L2 L0 lp lb ex pc' ∧ Fwd ⟨N, D, f, r, E', lc, low⟩ (fun p => Cb ⟨N, D, f, r, E', lc, low⟩ ts false p 0 L0 (sfx lf L L0)) pc' ∧ (lp = true → Cb ⟨N, D, f, r, E', lc, low⟩ ts true ex lb L lf)) :=
        fun n pc L lf L2 ⟨L0, lp, lb, ex, pc', a0, a, b, c⟩ => ⟨L0, lp, lb, ex, pc', a0, a, b.imp (X := ⟨N, D, f, r, E, lc, low⟩) fun _ => ih, fun z => ih (c z)⟩
      refine ite_mono id <| ite_mono (fun ⟨a, b, c⟩ => ⟨a, hE _ _ b, hb _ _ _ _ _ c⟩) <| ite_mono (fun ⟨a, b⟩ => ⟨hE _ _ a, b.imp (fun ⟨s, x, y⟩ => ⟨s, x, ih y⟩) (fun ⟨s, x, x2, y, z, u, v⟩ => ⟨s, x, x2, y, z, u, ih v⟩)⟩) <|
        ite_mono (fun ⟨a, b, c⟩ => ⟨a, b, c.imp (X := ⟨N, D, f, r, E, lc, low⟩) fun _ => ih⟩) <| ite_mono (fun ⟨a, b, c⟩ => ⟨a, b, ih c⟩) <|
        ite_mono (fun ⟨a, b, c, d, e, f⟩ => ⟨a, hE _ _ b, c, d, e, hb _ _ _ _ _ f⟩) <| ite_mono (fun ⟨a, b, c, c2, d, e, f⟩ => ⟨a, hE _ _ b, c, c2, d, e, hb _ _ _ _ _ f⟩) <|
        ite_mono (fun ⟨a, b, c, i, d, e, f⟩ => ⟨a, hE _ _ b, c, i, d, e, ih f⟩) <| ite_mono (fun ⟨a, b, c⟩ => ⟨a, b, ih c⟩) <|
        ite_mono (fun ⟨a, b, s2, s3, lp, lb, ex, c, d, e, f, g⟩ => ⟨a, hE _ _ b, s2, s3, lp, lb, ex, c, d, e, fun z => ih (f z), ih g⟩) <|
        ite_mono (fun ⟨a, b, s1, s2, ⟨w1, w2, w3, w4, w5⟩, d, e⟩ => ⟨a, hE _ _ b, s1, s2, ⟨w1, w2, w3, w4, w5⟩, d, ih e⟩) <| ite_mono (fun ⟨a, b, p, s1, s2, ⟨w1, w2, w3, w4, w5⟩, x, d, e⟩ => ⟨a, hE _ _ b, p, s1, s2, ⟨w1, w2, w3, w4, w5⟩, x, d, ih e⟩) <| ite_mono (fun ⟨a, b, p, s1, s2, ⟨w1, w2, w3, w4, w5⟩, x, d, e⟩ => ⟨a, hE _ _ b, p, s1, s2, ⟨w1, w2, w3, w4, w5⟩, x, d, ih e⟩) <|
        ite_mono (fun ⟨M, t, e, s4, c, ⟨w1, w2, w3, w4, w5, w6, w7⟩, d, y, z⟩ => ⟨M, t, e, s4, hE _ _ c, ⟨w1, w2, w3, w4, w5, w6, w7⟩, d, ih y, z⟩) <| ite_mono (fun ⟨a, M, t, e, s4, b, c, ⟨w1, w2, w3, w4, w5, w6, w7⟩, x, d, y⟩ => ⟨a, M, t, e, s4, b, hE _ _ c, ⟨w1, w2, w3, w4, w5, w6, w7⟩, x, d, ih y⟩) <|
        ite_mono (fun ⟨a, M, t, e, s4, n, lf', b, b2, c, ⟨w1, w2, w3, w4, w5, w6, w7⟩, x, d, y⟩ => ⟨a, M, t, e, s4, n, lf', b, b2, hE _ _ c, ⟨w1, w2, w3, w4, w5, w6, w7⟩, x, d, ih y⟩) <|
        ite_mono (fun ⟨a, t, e, s4, c, ⟨w1, w2, w3, w4, w5, w6, w7⟩, x, d, y⟩ => ⟨a, t, e, s4, hE _ _ c, ⟨w1, w2, w3, w4, w5, w6, w7⟩, x, d, ih y⟩) <| ite_mono (fun ⟨a, M, t, e, s4, b, c, ⟨w1, w2, w3, w4, w5, w6, w7⟩, x, d, y⟩ => ⟨a, M, t, e, s4, b, hE _ _ c, ⟨w1, w2, w3, w4, w5, w6, w7⟩, x, d, ih y⟩) <|
        ite_mono (fun ⟨a, M, t, e, s4, n, n', lf', b, b2, c, ⟨w1, w2, w3, w4, w5, w6, w7⟩, x, d, y⟩ => ⟨a, M, t, e, s4, n, n', lf', b, b2, hE _ _ c, ⟨w1, w2, w3, w4, w5, w6, w7⟩, x, d, ih y⟩) <|
        ite_mono id <| ite_mono (fun ⟨a, b, c⟩ => ⟨a, b, ih c⟩) <| ite_mono (fun ⟨a, b, l, s2, c, d, e, f, g⟩ => ⟨a, hE _ _ b, l, s2, c, d, e, f, ih g⟩) <| ite_mono (fun ⟨a, b, c, d⟩ => ⟨a, b, c, ih d⟩) <| ite_mono (fun ⟨a, b, c, d, e⟩ => ⟨a, b, c, d, ih e⟩) <|
        ite_mono (fun ⟨a, b, s2, c, d, e, f⟩ => ⟨a, hE _ _ b, s2, c, d, e, ih f⟩) <| ite_mono (fun ⟨a, b, c⟩ => ⟨a, b, ih c⟩) id
end Go.Proofs.Qxb6500574aGreatDoor
