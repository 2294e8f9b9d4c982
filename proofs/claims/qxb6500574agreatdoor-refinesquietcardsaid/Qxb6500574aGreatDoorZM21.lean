/-
  moon: AN EXPRESSION BEGINS: down to its first instruction. Plain; no memory, no walk.
-/
import Derived.Test.Qxb6500574aGreatDoorZM20
namespace Go.Proofs.Qxb6500574aGreatDoor
set_option linter.unusedVariables false
set_option linter.unusedSimpArgs false
theorem LayN.lay {N : List Nd} {D : CmD} {kk task : Nat} {E : En} {n p : Nat} {s : List In} {L' : List Bs} {lb ex : Nat} (h : LayN N D kk task E n p s L' lb ex) : Lay N D task E n p s L' lb ex := ⟨kk, h⟩
section
variable {N : List Nd} {root : Nat} {D : CmD} {S : Nat → Nat → Ty → Prop} {K : Cx} {m m1 : VMD} {fu s fu' s' : Nat} {M M' : MD} {P P' : List (Option Lc)} {i c : Nat} {t t' : ThD} {T T' : MTh} {f f' : FmD} {fs : List FmD} {F F' : FrIZ} {k : TkD} {tl : List TkD}
/-- the code of a call -/
theorem Cb_call {X : FX} {L : List Bs} {lf : List Nat} {e : Option Nat} {n p h kk : Nat} {sg : List In} (hy : LayN X.N X.D kk 2 ((X.f, L) :: X.r) n p sg [] 0 0) (hE : ExSZ X.N (X.N.getD n nd0).a) {l : List Nat} (hl : Chain X.N (X.N.getD n nd0).b l) (hl2 : ∀ y ∈ l, ExSZ X.N y) (ha : AtC X.cd p sg) (he : X.env lf e) (cb : Cb X tl false (p + sg.length) (h + 2) L lf) :
    Cb X (⟨2, (X.N.getD n nd0).a, 0, e⟩ :: l.map (fun x => (⟨2, x, 0, e⟩ : TkD)) ++ [⟨22, n, l.length, e⟩] ++ tl) false p h L lf ∧ ∃ k2 s1 s2, kk = k2 + 1 ∧ sg = s1 ++ s2 ∧ LayN X.N X.D k2 1 ((X.f, L) :: X.r) (X.N.getD n nd0).a p s1 [] 0 0 ∧ AtC X.cd p s1 ∧
      Cb X (l.map (fun x => (⟨2, x, 0, e⟩ : TkD)) ++ [⟨22, n, l.length, e⟩] ++ tl) false (p + s1.length) (h + 1) L lf := by
  cases kk with
  | zero => exact hy.elim
  | succ kk =>
    have hy : LayB X.N X.D (LayN X.N X.D kk) 2 X.f L X.r n p sg [] 0 0 := hy
    rcases hy with ⟨z, _⟩ | ⟨_, l', s1, s2, e1, e2, e3, e4⟩ | ⟨z, _⟩ | ⟨z, _⟩
    · cases z
    · have : l' = l := e2.uniq hl
      subst this
      subst e1
      rw [List.append_assoc] at ha
      obtain ⟨a1, a2⟩ := ha.split (.inr trivial)
      obtain ⟨a2, a3⟩ := a2.split (.inr trivial)
      have e4 := e4.imp (R' := Lay X.N X.D) (fun g => g.lay)
      have c22 : Cb X ([⟨22, n, l'.length, e⟩] ++ tl) false (p + s1.length + s2.length) (h + 1 + l'.length) L lf := by
        show Cb X (_ :: tl) false _ _ L lf
        unfold Cb
        simp (config := { decide := true }) only [if_true, if_false]
        refine ⟨by omega, a3, ?_⟩
        rw [show p + s1.length + s2.length + 1 = p + (s1 ++ s2 ++ [(26, l'.length)]).length by simp; omega, show h + 1 + l'.length - (l'.length + 1) + 2 = h + 2 by omega]
        exact cb
      have cA : Cb X (l'.map (fun x => (⟨2, x, 0, e⟩ : TkD)) ++ [⟨22, n, l'.length, e⟩] ++ tl) false (p + s1.length) (h + 1) L lf := by
        rw [List.append_assoc]
        exact Cb_args he hl2 e4 a2 c22
      refine ⟨?_, kk, s1, s2 ++ [(26, l'.length)], rfl, by rw [List.append_assoc], e3, a1, cA⟩
      show Cb X (_ :: (l'.map (fun x => (⟨2, x, 0, e⟩ : TkD)) ++ [⟨22, n, l'.length, e⟩] ++ tl)) false p h L lf
      unfold Cb
      simp (config := { decide := true }) only [if_true, if_false]
      exact ⟨he, .inl ⟨s1, ⟨a1, .inl ⟨rfl, .inr hE, e3.lay⟩⟩, cA⟩⟩
    · cases z
    · cases z
theorem Itm_call {ops : List Vl} {e : Option Nat} {n n2 h w : Nat} {l : List Nat} (hw : w ≤ h) (it : Itm ops tl (h + 2) w) : Itm ops (⟨2, n2, 0, e⟩ :: l.map (fun x => (⟨2, x, 0, e⟩ : TkD)) ++ [⟨22, n, l.length, e⟩] ++ tl) h w := by
  show Itm ops (_ :: (l.map (fun x => (⟨2, x, 0, e⟩ : TkD)) ++ [⟨22, n, l.length, e⟩] ++ tl)) h w
  unfold Itm
  simp (config := { decide := true }) only [if_true, if_false]
  rw [List.append_assoc]
  refine Itm_args ?_
  show Itm ops (_ :: tl) _ w
  unfold Itm
  simp (config := { decide := true }) only [if_true, if_false]
  rw [show h + 1 + l.length - (l.length + 1) + 2 = h + 2 by omega]
  exact it.mono (by omega) (fun _ _ => rfl)
theorem call_is (h : M.cur < M.ths.length) (n : Nat) (e : Option Nat) {l : List Nat} (hl : argsL N 3 (N.getD n nd0).b = l) : (M.st T).call N n e = M.st { T with tasks := ⟨2, (N.getD n nd0).a, 0, e⟩ :: l.map (fun x => (⟨2, x, 0, e⟩ : TkD)) ++ [⟨22, n, l.length, e⟩] ++ T.tasks } := by
  unfold MD.call
  rw [hl]
  dsimp only
  exact st_todo h _
/-- DOWN TO THE FIRST INSTRUCTION -/
theorem Op.ev_ : ∀ (kk : Nat) {M : MD} {T : MTh} {F : FrIZ} {k : TkD} {tl : List TkD} {sg : List In}, Op N root D S K m fu s M P i t T f fs F → T.tasks = k :: tl → k.k = 2 → k.x = 0 → ExSZ N k.n → LayN N D kk 1 ((gO m f, F.L) :: F.r) k.n f.pc sg [] 0 0 → AtC (D.fn (gO m f)).code f.pc sg → Chn M.envs (F.lf ++ F.lc) k.e →
    Cb ⟨N, D, gO m f, F.r, M.envs, F.lc, F.low.length⟩ tl false (f.pc + sg.length) (oO D m t f + 1) F.L F.lf → PgZ N root D i M.stack s 1 m fu M := by
  intro kk
  induction kk using Nat.strongRecOn with
  | _ kk ih =>
    intro M T F k tl sg h ht hk hx hE hy ha he cb
    cases kk with
    | zero => exact hy.elim
    | succ kk =>
      have O := hE.out
      have h3 : k.k ≠ 3 := by omega
      have W := h.rel.w i
      have it := h.it ht
      unfold Itm at it
      simp (config := { decide := true }) only [hk, if_true, if_false] at it
      have hM := h.step ht
      unfold stK at hM
      simp (config := { decide := true }) only [hk, if_true, if_false] at hM
      unfold MD.eval at hM
      rw [if_neg O.n0] at hM
      dsimp only at hM
      -- an unfolding: the new tasks, the first of them an expression
      have go : ∀ {a : Nat} {new : List TkD} {s1 : List In} {k2 : Nat}, k2 < kk + 1 → (∀ t ∈ new, t.k ≠ 3) → ExSZ N a → LayN N D k2 1 ((gO m f, F.L) :: F.r) a f.pc s1 [] 0 0 → AtC (D.fn (gO m f)).code f.pc s1 → M.step N root = M.st { T with tasks := ⟨2, a, 0, k.e⟩ :: (new ++ tl) } →
          Cb ⟨N, D, gO m f, F.r, M.envs, F.lc, F.low.length⟩ (new ++ tl) false (f.pc + s1.length) (oO D m t f + 1) F.L F.lf → Itm (t.stack.drop (f.base + (D.fn (gO m f)).nslots)) (new ++ tl) (oO D m t f + 1) (oO D m t f) → PgZ N root D i M.stack s 1 m fu M := by
        intro a new s1 k2 hk2 hnew hEa hya haa hMa cba ita
        refine PgZ.step W.done ?_
        rw [hMa]
        obtain ⟨seg, h2⟩ := h.exp ht h3 (new := ⟨2, a, 0, k.e⟩ :: new) (fun t ht => by
          rcases List.mem_cons.1 ht with rfl | ht
          · show (2 : Nat) ≠ 3; decide
          · exact hnew t ht) (by
          show Cb _ (_ :: (new ++ tl)) _ _ _ _ _
          unfold Cb
          simp (config := { decide := true }) only [if_true, if_false]
          exact ⟨he, .inl ⟨s1, ⟨haa, .inl ⟨rfl, .inr hEa, hya.lay⟩⟩, cba⟩⟩) (by
          show Itm _ (_ :: (new ++ tl)) _ _
          unfold Itm
          simp (config := { decide := true }) only [if_true, if_false]
          exact ita)
        exact ih k2 hk2 h2 (k := ⟨2, a, 0, k.e⟩) (tl := new ++ tl) rfl rfl rfl hEa hya haa he cba
      have hy : LayB N D (LayN N D kk) 1 (gO m f) F.L F.r k.n f.pc sg [] 0 0 := hy
      rcases hy with ⟨_, hy⟩ | ⟨z, _⟩ | ⟨z, _⟩ | ⟨z, _⟩
      · rcases hy with ⟨e, g⟩ | ⟨e, g⟩ | ⟨e, g⟩ | ⟨e, x, g, g2⟩ | ⟨e, x, g, g2⟩ | ⟨e, ins, g, g2⟩ | ⟨e, s1, s2, g1, g2, g3⟩ | ⟨e, s1, g1, g2⟩ | ⟨e, g1, g2⟩ | ⟨e, l, s1, g1, g2, g3⟩ | ⟨e, s1, s2, g1, g2, g3⟩ | ⟨e, s1, g1, g2⟩ | ⟨e, s1, s2, g1, g2, g3⟩
        · subst g
          have hp : plainP m i 2 0 = (.inr (), push m i [nilV]) := by unfold plainP; simp (config := { decide := true }) only [if_true, if_false]
          have e : (N.getD k.n nd0).k = 12 := by
            rcases e with e | e
            · exfalso
              obtain ⟨lo, a, b, w, k3, h3'⟩ := hE
              cases k3 with
              | zero => exact h3'.elim
              | succ k3 =>
                obtain ⟨_, _, q⟩ := h3'
                rcases q with ⟨_, q⟩ | ⟨z, _⟩
                · rcases q with ⟨z, _⟩ | ⟨z, _⟩ | ⟨z, _⟩ | ⟨z, _⟩ | ⟨z, _⟩ | ⟨z, _⟩ | ⟨z, _⟩ | ⟨z, _⟩ | ⟨z, _⟩ | ⟨z, _⟩ | ⟨z, _⟩ <;> omega
                · cases z
            · exact e
          simp (config := { decide := true }) only [e, if_true, if_false] at hM
          rw [st_push h.cl] at hM
          exact h.lf1 ht h3 ha (by decide) hp hM cb it
        · subst g
          have hp : plainP m i 3 0 = (.inr (), push m i [boolV true]) := by unfold plainP; simp (config := { decide := true }) only [if_true, if_false]
          simp (config := { decide := true }) only [e, if_true, if_false] at hM
          rw [st_push h.cl] at hM
          exact h.lf1 ht h3 ha (by decide) hp hM cb it
        · subst g
          have hp : plainP m i 4 0 = (.inr (), push m i [boolV false]) := by unfold plainP; simp (config := { decide := true }) only [if_true, if_false]
          simp (config := { decide := true }) only [e, if_true, if_false] at hM
          rw [st_push h.cl] at hM
          exact h.lf1 ht h3 ha (by decide) hp hM cb it
        · subst g
          have hp : plainP m i 1 x = (.inr (), push m i [numV (N.getD k.n nd0).n]) := by
            unfold plainP
            rw [h.rt.at_.topF]
            simp (config := { decide := true }) only [if_true, if_false]
            rw [h.cst g2]
          simp (config := { decide := true }) only [e, if_true, if_false] at hM
          rw [st_push h.cl] at hM
          exact h.lf1 ht h3 ha (by decide) hp hM cb it
        · subst g
          have hp : plainP m i 1 x = (.inr (), push m i [strV (N.getD k.n nd0).s]) := by
            unfold plainP
            rw [h.rt.at_.topF]
            simp (config := { decide := true }) only [if_true, if_false]
            rw [h.cst g2]
          simp (config := { decide := true }) only [e, if_true, if_false] at hM
          rw [st_push h.cl] at hM
          exact h.lf1 ht h3 ha (by decide) hp hM cb it
        · subst g
          simp (config := { decide := true }) only [e, if_true, if_false] at hM
          refine h.rdv ht h3 (O.k17 e) he ha g2 ?_ cb it
          rw [hM]
          have hfd : (M.st { T with tasks := tl }).find k.e (N.getD k.n nd0).s = M.find k.e (N.getD k.n nd0).s := rfl
          rw [hfd]
          cases M.find k.e (N.getD k.n nd0).s with
          | some n => exact st_push h.cl _
          | none => exact st_push h.cl _
        · subst g1
          obtain ⟨E1, E2⟩ := O.k18 e
          simp (config := { decide := true }) only [e, if_true, if_false] at hM
          rw [st_todo h.cl] at hM
          rw [List.append_assoc] at ha
          obtain ⟨a1, a2⟩ := ha.split (.inr trivial)
          obtain ⟨a2, a3⟩ := a2.split (.inr trivial)
          refine go (a := (N.getD k.n nd0).a) (new := [⟨2, (N.getD k.n nd0).b, 0, k.e⟩, ⟨28, 0, 0, none⟩]) (k2 := kk) (by omega) (by simp) E1 g2 a1 hM ?_ ?_
          · show Cb _ (_ :: _ :: tl) _ _ _ _ _
            unfold Cb
            simp (config := { decide := true }) only [if_true, if_false]
            refine ⟨he, .inl ⟨s2, ⟨a2, .inl ⟨rfl, .inr E2, g3.lay⟩⟩, ?_⟩⟩
            unfold Cb
            simp (config := { decide := true }) only [if_true, if_false]
            refine ⟨by omega, a3, ?_⟩
            rw [show f.pc + s1.length + s2.length + 1 = f.pc + (s1 ++ s2 ++ [(11, 0)]).length by simp; omega, show oO D m t f + 1 + 1 - 1 = oO D m t f + 1 by omega]
            exact cb
          · show Itm _ (_ :: _ :: tl) _ _
            unfold Itm
            simp (config := { decide := true }) only [if_true, if_false]
            unfold Itm
            simp (config := { decide := true }) only [if_true, if_false]
            rw [show oO D m t f + 1 + 1 - 1 = oO D m t f + 1 by omega]
            exact it.mono (by omega) (fun _ _ => rfl)
        · subst g1
          obtain ⟨E1, l, E2, E3, E4⟩ := O.k19 e
          simp (config := { decide := true }) only [e, if_true, if_false] at hM
          rw [st_todo h.cl, call_is h.cl _ _ (argsL_eq E2 E3)] at hM
          obtain ⟨a1, a2⟩ := ha.split (.inr trivial)
          have cb5 : Cb ⟨N, D, gO m f, F.r, M.envs, F.lc, F.low.length⟩ (⟨5, 0, 0, none⟩ :: tl) false (f.pc + s1.length) (oO D m t f + 2) F.L F.lf := by
            unfold Cb
            simp (config := { decide := true }) only [if_true, if_false]
            refine ⟨by omega, a2, ?_⟩
            rw [show f.pc + s1.length + 1 = f.pc + (s1 ++ [(25, 0)]).length by simp; omega, show oO D m t f + 2 - 1 = oO D m t f + 1 by omega]
            exact cb
          obtain ⟨_, k2, s1', s2', rfl, rfl, z1, z2, z3⟩ := Cb_call (X := ⟨N, D, gO m f, F.r, M.envs, F.lc, F.low.length⟩) (e := k.e) (h := oO D m t f) g2 E1 E2 E4 a1 he cb5
          have it5 : Itm (t.stack.drop (f.base + (D.fn (gO m f)).nslots)) (⟨5, 0, 0, none⟩ :: tl) (oO D m t f + 2) (oO D m t f) := by
            unfold Itm
            simp (config := { decide := true }) only [if_true, if_false]
            rw [show oO D m t f + 2 - 1 = oO D m t f + 1 by omega]
            exact it.mono (by omega) (fun _ _ => rfl)
          have itc := Itm_call (e := k.e) (n := k.n) (n2 := (N.getD k.n nd0).a) (l := l) (Nat.le_refl _) it5
          have itc : Itm (t.stack.drop (f.base + (D.fn (gO m f)).nslots)) (⟨2, (N.getD k.n nd0).a, 0, k.e⟩ :: (l.map (fun x => (⟨2, x, 0, k.e⟩ : TkD)) ++ [⟨22, k.n, l.length, k.e⟩] ++ (⟨5, 0, 0, none⟩ :: tl))) (oO D m t f) (oO D m t f) := itc
          unfold Itm at itc
          simp (config := { decide := true }) only [if_true, if_false] at itc
          refine go (a := (N.getD k.n nd0).a) (new := l.map (fun x => (⟨2, x, 0, k.e⟩ : TkD)) ++ [⟨22, k.n, l.length, k.e⟩] ++ [⟨5, 0, 0, none⟩]) (k2 := k2) (by omega) (fun t ht => ?_) E1 z1 z2 ?_ ?_ ?_
          · simp at ht
            rcases ht with ⟨_, _, rfl⟩ | rfl | rfl
            · show (2 : Nat) ≠ 3; decide
            · show (22 : Nat) ≠ 3; decide
            · show (5 : Nat) ≠ 3; decide
          · rw [hM]
            simp
          · simpa using z3
          · simpa using itc
        · subst g1
          simp (config := { decide := true }) only [e, if_true, if_false] at hM
          refine h.e20 ht h3 ha O.n0 hE e rfl (g2.imp fun g => g.lay) he ?_ cb it
          rw [hM]
          by_cases hg : M.clos.length ≥ 24
          · rw [if_pos hg, if_pos (by exact hg)]
          · rw [if_neg hg, if_neg (by exact hg), st_push h.cl]
            rfl
        · subst g1
          obtain ⟨l', E1, E2⟩ := O.k21 e
          have : l' = l := E1.uniq g2
          subst this
          simp (config := { decide := true }) only [e, if_true, if_false] at hM
          have htl : M.tabs.length = m.tabs.length := by rw [W.tabs]
          have g3 := g3.imp (R' := Lay N D) (fun g => g.lay)
          by_cases hg : m.tabs.length ≥ 12
          · rw [if_pos (by show M.tabs.length ≥ 12; omega)] at hM
            refine h.ptrap ha (by decide) (m1 := m) (e := 8) ?_ rfl hM
            unfold plainP
            simp (config := { decide := true }) only [if_true, if_false]
            rw [if_pos hg]
            rfl
          · rw [if_neg (by show ¬ M.tabs.length ≥ 12; omega)] at hM
            have hp : plainP m i 14 0 = (.inr (), { m with ths := m.ths.set i { t with stack := t.stack ++ [⟨4, m.tabs.length, []⟩] }, tabs := m.tabs ++ [tab0] }) := by
              unfold plainP
              simp (config := { decide := true }) only [if_true, if_false]
              rw [if_neg hg, push_is (m := { m with tabs := m.tabs ++ [tab0] }) h.hi]
              rfl
            have hr := h.rd ha (by decide) hp (t1 := { t with stack := t.stack ++ [⟨4, m.tabs.length, []⟩] }) (List.getElem?_set_self h.il) rfl
            have er : (({ m with ths := m.ths.set i { t with stack := t.stack ++ [⟨4, m.tabs.length, []⟩] }, tabs := m.tabs ++ [tab0] } : VMD).setTh i { t with stack := t.stack ++ [⟨4, m.tabs.length, []⟩], frames := fs.reverse ++ [{ f with pc := f.pc + 1 }] }) = { m with ths := m.ths.set i { t with stack := t.stack.take (t.stack.length - 0) ++ [⟨4, m.tabs.length, []⟩], frames := fs.reverse ++ [{ f with pc := f.pc + 1 }] }, tabs := m.tabs ++ [tab0], out := m.out } := by
              simp [VMD.setTh]
            have hr2 : roundP fu m i = .inl (fu, { m with ths := m.ths.set i { t with stack := t.stack.take (t.stack.length - 0) ++ [⟨4, m.tabs.length, []⟩], frames := fs.reverse ++ [{ f with pc := f.pc + 1 }] }, tabs := m.tabs ++ [tab0], out := m.out }) := by
              rw [hr]
              show Sum.inl (fu, (({ m with ths := m.ths.set i { t with stack := t.stack ++ [⟨4, m.tabs.length, []⟩] }, tabs := m.tabs ++ [tab0] } : VMD).setTh i { t with stack := t.stack ++ [⟨4, m.tabs.length, []⟩], frames := fs.reverse ++ [{ f with pc := f.pc + 1 }] })) = _
              rw [er]
            have hle := h.le
            have ho : oO D m t f = t.stack.length - (f.base + (D.fn (gO m f)).nslots) := rfl
            refine h.finN (new := if (N.getD k.n nd0).a = 0 then [] else [⟨2, (N.getD k.n nd0).a, 0, k.e⟩, ⟨23, (N.getD k.n nd0).a, 0 + 1, k.e⟩]) (n := 0) (vs := [⟨4, m.tabs.length, []⟩]) ht h3 hr2 (Nat.zero_le _) (fun t ht => ?_) ?_ ?_ ?_
            · split at ht
              · cases ht
              · rcases List.mem_cons.1 ht with rfl | ht
                · show (2 : Nat) ≠ 3; decide
                · rcases List.mem_cons.1 ht with rfl | ht
                  · show (23 : Nat) ≠ 3; decide
                  · cases ht
            · rw [hM, st_push h.cl]
              unfold MD.items
              have e1 : ({ M.st { T with tasks := tl, vals := T.vals ++ [⟨4, M.tabs.length, []⟩] } with tabs := M.tabs ++ [tab0] } : MD) = ({ M with tabs := m.tabs ++ [tab0] } : MD).st { T with tasks := tl, vals := T.vals ++ [⟨4, m.tabs.length, []⟩] } := by
                rw [W.tabs]
                rfl
              have e2 : ({ M.st { T with tasks := (if (N.getD k.n nd0).a = 0 then [] else [⟨2, (N.getD k.n nd0).a, 0, k.e⟩, ⟨23, (N.getD k.n nd0).a, 0 + 1, k.e⟩]) ++ tl, vals := T.vals.take (T.vals.length - 0) ++ [⟨4, m.tabs.length, []⟩] } with fuel := fu, tabs := m.tabs ++ [tab0], out := m.out } : MD) = ({ M with tabs := m.tabs ++ [tab0] } : MD).st { T with tasks := (if (N.getD k.n nd0).a = 0 then [] else [⟨2, (N.getD k.n nd0).a, 0, k.e⟩, ⟨23, (N.getD k.n nd0).a, 0 + 1, k.e⟩]) ++ tl, vals := T.vals ++ [⟨4, m.tabs.length, []⟩] } := by
                rw [← W.fuel, ← W.out]
                simp [MD.st]
              rw [e2]
              by_cases hn : (N.getD k.n nd0).a = 0
              · rw [if_pos hn, if_pos hn]
                exact e1
              · rw [if_neg hn, if_neg hn]
                refine (congrArg (fun Q : MD => Q.todo _) e1).trans ?_
                exact st_todo (M := { M with tabs := m.tabs ++ [tab0] }) h.cl _
            · refine Cb_items E1 E2 g3 ha.head.2 he (by simp) ?_
              rw [show f.pc + 1 + s1.length = f.pc + ((14, 0) :: s1).length by simp; omega]
              exact cb
            · refine Itm_items (by simp) ?_ (Nat.le_refl _) (itm_new (vs := [_]) h.le (Nat.zero_le _) it)
              rw [List.drop_append_of_le_length (by simp; omega), List.getD_eq_getElem?_getD, List.getElem?_append_right (by simp)]
              simp only [List.length_singleton, List.length_drop, List.length_take]
              rw [show oO D m t f - 0 + 1 - 1 - (min (t.stack.length - 0) t.stack.length - (f.base + (D.fn (gO m f)).nslots)) = 0 by omega]
              rfl
        · subst g1
          obtain ⟨E0, E1, E2⟩ := O.k22 e
          simp (config := { decide := true }) only [e, if_true, if_false] at hM
          rw [st_todo h.cl] at hM
          rw [List.append_assoc] at ha
          obtain ⟨a1, a2⟩ := ha.split (.inr trivial)
          obtain ⟨a2, a3⟩ := a2.split (.inr trivial)
          refine go (a := (N.getD k.n nd0).a) (new := [⟨2, (N.getD k.n nd0).b, 0, k.e⟩, ⟨24, k.n, 0, none⟩]) (k2 := kk) (by omega) (by simp) E1 g2 a1 hM ?_ ?_
          · show Cb _ (_ :: _ :: tl) _ _ _ _ _
            unfold Cb
            simp (config := { decide := true }) only [if_true, if_false]
            refine ⟨he, .inl ⟨s2, ⟨a2, .inl ⟨rfl, .inr E2, g3.lay⟩⟩, ?_⟩⟩
            unfold Cb
            simp (config := { decide := true }) only [if_true, if_false]
            refine ⟨by omega, a3, E0, ?_⟩
            rw [show f.pc + s1.length + s2.length + 1 = f.pc + (s1 ++ s2 ++ [binI (N.getD k.n nd0).n]).length by simp; omega, show oO D m t f + 1 + 1 - 1 = oO D m t f + 1 by omega]
            exact cb
          · show Itm _ (_ :: _ :: tl) _ _
            unfold Itm
            simp (config := { decide := true }) only [if_true, if_false]
            unfold Itm
            simp (config := { decide := true }) only [if_true, if_false]
            rw [show oO D m t f + 1 + 1 - 1 = oO D m t f + 1 by omega]
            exact it.mono (by omega) (fun _ _ => rfl)
        · subst g1
          obtain ⟨E0, E1⟩ := O.k23 e
          simp (config := { decide := true }) only [e, if_true, if_false] at hM
          rw [st_todo h.cl] at hM
          obtain ⟨a1, a2⟩ := ha.split (.inr trivial)
          refine go (a := (N.getD k.n nd0).a) (new := [⟨25, k.n, 0, none⟩]) (k2 := kk) (by omega) (by simp) E1 g2 a1 hM ?_ ?_
          · show Cb _ (_ :: tl) _ _ _ _ _
            unfold Cb
            simp (config := { decide := true }) only [if_true, if_false]
            refine ⟨by omega, a2, E0.1, E0.2, ?_⟩
            rw [show f.pc + s1.length + 1 = f.pc + (s1 ++ [unI (N.getD k.n nd0).n]).length by simp; omega]
            exact cb
          · show Itm _ (_ :: tl) _ _
            unfold Itm
            simp (config := { decide := true }) only [if_true, if_false]
            exact it.mono (by omega) (fun _ _ => rfl)
        · subst g1
          obtain ⟨E1, E2⟩ := O.k24 e
          obtain ⟨a1, a2⟩ := ha.split (.inr trivial)
          have key : ∀ kd : Nat, ((N.getD k.n nd0).k = 24 ∧ kd = 26) ∨ ((N.getD k.n nd0).k = 25 ∧ kd = 27) → M.step N root = M.st { T with tasks := ⟨2, (N.getD k.n nd0).a, 0, k.e⟩ :: (([⟨kd, k.n, 0, k.e⟩] : List TkD) ++ tl) } → PgZ N root D i M.stack s 1 m fu M := by
            intro kd hkd hM2
            refine go (a := (N.getD k.n nd0).a) (new := [⟨kd, k.n, 0, k.e⟩]) (k2 := kk) (by omega) (fun t ht => by simp at ht; subst ht; show kd ≠ 3; omega) E1 g2 a1 hM2 ?_ ?_
            · show Cb _ (_ :: tl) _ _ _ _ _
              unfold Cb
              have hc : f.pc + (s1 ++ (if (N.getD k.n nd0).k = 25 then 24 else 23, f.pc + (s1.length + 1 + s2.length)) :: s2).length = f.pc + s1.length + 1 + s2.length := by simp; omega
              rw [hc] at cb
              rcases hkd with ⟨q, rfl⟩ | ⟨q, rfl⟩
              · simp (config := { decide := true }) only [if_true, if_false]
                refine ⟨by omega, he, s2, ?_, E2, ?_, cb⟩
                · rw [if_neg (by omega), show f.pc + (s1.length + 1 + s2.length) = f.pc + s1.length + (1 + s2.length) by omega] at a2
                  exact a2
                · rw [show f.pc + (s1.length + 1) = f.pc + s1.length + 1 by omega] at g3
                  exact g3.lay
              · simp (config := { decide := true }) only [if_true, if_false]
                refine ⟨by omega, he, s2, ?_, E2, ?_, cb⟩
                · rw [if_pos q, show f.pc + (s1.length + 1 + s2.length) = f.pc + s1.length + (1 + s2.length) by omega] at a2
                  exact a2
                · rw [show f.pc + (s1.length + 1) = f.pc + s1.length + 1 by omega] at g3
                  exact g3.lay
            · show Itm _ (_ :: tl) _ _
              unfold Itm
              rcases hkd with ⟨q, rfl⟩ | ⟨q, rfl⟩ <;> simp (config := { decide := true }) only [if_true, if_false] <;> exact it.mono (by omega) (fun _ _ => rfl)
          rcases e with e | e
          · simp (config := { decide := true }) only [e, if_true, if_false] at hM
            rw [st_todo h.cl] at hM
            exact key 26 (.inl ⟨e, rfl⟩) hM
          · simp (config := { decide := true }) only [e, if_true, if_false] at hM
            rw [st_todo h.cl] at hM
            exact key 27 (.inr ⟨e, rfl⟩) hM
      · cases z
      · cases z
      · cases z
end
end Go.Proofs.Qxb6500574aGreatDoor
