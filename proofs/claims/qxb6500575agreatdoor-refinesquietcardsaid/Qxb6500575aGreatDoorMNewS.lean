/-
  prepm.New: its plain function, and the state of its loops. No walk.
-/
import Derived.Test.Qxb6500575aGreatDoorMProg
import Derived.Test.Qxb6500575aGreatDoorLawM5
import Derived.Test.Qxb6500575aGreatDoorLoadS
namespace Go.Proofs.Qxb6500575aGreatDoor
open Go Go.RowKit
set_option linter.unusedVariables false
set_option linter.unusedSimpArgs false

def ModD.chkM (m : ModD) (f : Nat) : Option (Nat × Int) × Mk := runMk (m.env f) (m.body f) 0 (m.body f) (Mk.start (m.funD f).results)
def ModD.badBodyM (m : ModD) : Nat → Nat → Option (Nat × Nat × Int)
  | _, 0 => none
  | f, k + 1 => match (m.chkM f).1 with
    | some (i, e) => some (f, i, e)
    | none => m.badBodyM (f + 1) k
def ModD.codeM (m : ModD) (f : Nat) : List Flat := if f < m.imports.length then [] else (m.chkM f).2.code
def ModD.loadM (m : ModD) : Int × Int × Int :=
  match m.badSig 0 m.nall with
  | some f => (f, -1, 5)
  | none => match m.badBodyM m.imports.length m.funcs.length with
    | some (f, i, e) => (f, i, e)
    | none => (0, 0, 0)
theorem badBodyM_at {m : ModD} : ∀ (k f i : Nat) (at_ : Nat) (e : Int), f ≤ i → i < f + k → (∀ j, f ≤ j → j < i → (m.chkM j).1 = none) → (m.chkM i).1 = some (at_, e) → m.badBodyM f k = some (i, at_, e)
  | 0, f, i, _, _, h1, h2, _, _ => by omega
  | k + 1, f, i, at_, e, h1, h2, h3, h4 => by
    unfold ModD.badBodyM
    by_cases hfi : f = i
    · subst hfi; rw [h4]
    · rw [h3 f (Nat.le_refl _) (by omega)]
      exact badBodyM_at k (f + 1) i at_ e (by omega) (by omega) (fun j hj hji => h3 j (by omega) hji) h4
theorem badBodyM_none {m : ModD} : ∀ (k f : Nat), (∀ j, f ≤ j → j < f + k → (m.chkM j).1 = none) → m.badBodyM f k = none
  | 0, _, _ => rfl
  | k + 1, f, h => by
    unfold ModD.badBodyM
    rw [h f (Nat.le_refl _) (by omega)]
    exact badBodyM_none k (f + 1) (fun j hj hjk => h j (by omega) (by omega))
/-- what New leaves behind -/
structure MNewPost (m : ModD) (w : World) (e : Ending) (w' : World) : Prop where
  fr : Fr (fun _ => False) w w'
  bad : m.loadM.2.2 ≠ 0 → e = .returned (.tuple #[.pointer none, .int .i64 m.loadM.2.2, .int .i64 m.loadM.1, .int .i64 m.loadM.2.1])
  good : m.loadM.2.2 = 0 → ∃ bp Lp srcs, e = .returned (.tuple #[.pointer (some ⟨bp, 0, none⟩), .int .i64 0, .int .i64 0, .int .i64 0]) ∧ MProg (fun k => w.heap.size ≤ k) w' bp Lp { nimp := m.imports.length, min := m.min, max := m.max, steps := 0, funs := m.sigs, codes := (List.range m.nall).map m.codeM } srcs
theorem rowMFun : IsRow Tryz.prog 118 125 (.agg #[.string ⟨#[]⟩, .string ⟨#[]⟩, .string ⟨#[]⟩, .slice none 0 0, .slice none 0 0]) 5 96 := ⟨by kernel_rfl, by kernel_rfl, rfl, by decide⟩
/-- what the walk of a body asks of the model ahead of each of its instructions -/
structure MkFit (src : List Ins) (s : Mk) (c : Ins) (c0 : Ctl) (r0 : List Ctl) : Prop where
  well : well c = true
  top : s.Top c0 r0
  els : c.op = 4 → 0 ≤ c0.at_
  st : s.st.length ≤ 500
  cs : s.cs.length ≤ 500
  code : s.code.length ≤ 500
  fit : ∀ c ∈ s.cs, c.Fit src.length
def MBodyOk (E : Env) (src : List Ins) : Prop := ∀ (k : Nat) (s : Mk) (c : Ins), stateM E src k = some s → src[k]? = some c → ∃ c0 r0, MkFit src s c c0 r0
def ModD.progAt (m : ModD) (n : Nat) (codes : List (List Flat)) : ProgD := { nimp := m.imports.length, min := m.min, max := m.max, steps := 0, funs := (List.range n).map m.funD, codes := codes }
def ModD.srcsTo (m : ModD) (n : Nat) : List (List Ins) := (List.range n).map m.body
/-- all that New owns lies below 'top' -/
structure NewS (S : Nat → Prop) (w0 : World) (bm bp : Nat) (Lm : ModL) (m : ModD) (top : Nat) (wr : World) (Lp : MPL) (p : ProgD) (srcs : List (List Ins)) : Prop where
  mod : ModRep S wr bm Lm m
  prog : MProg (fun k => w0.heap.size ≤ k ∧ k < top) wr bp Lp p srcs
  fr : Fr (fun _ => False) w0 wr
  w0T : w0.heap.size ≤ top
  topW : top ≤ wr.heap.size
section
variable {S S' : Nat → Prop} {w0 : World} {bm bp : Nat} {Lm : ModL} {m : ModD} {top : Nat} {wr wr' : World} {Lp : MPL} {p : ProgD} {srcs : List (List Ins)}
theorem NewS.keep (h : NewS S w0 bm bp Lm m top wr Lp p srcs) (hS : ∀ k, S k → k < w0.heap.size) (hf : Fr S' wr wr') (hd : ∀ k, S' k → top ≤ k) : NewS S w0 bm bp Lm m top wr' Lp p srcs :=
  { mod := h.mod.fr hf (fun k hk hk' => by have := hS k hk; have := hd k hk'; have := h.w0T; omega)
    prog := h.prog.fr hf (fun k _ hk hk' => by have := hd k hk'; omega)
    fr := h.fr.trans hf (fun j hj hk => by have := hd j hk; have := h.w0T; omega)
    w0T := h.w0T
    topW := Nat.le_trans h.topW hf.size }
theorem NewS.raise (h : NewS S w0 bm bp Lm m top wr Lp p srcs) : NewS S w0 bm bp Lm m wr.heap.size wr Lp p srcs :=
  { h with prog := h.prog.sub (fun k hk hS => ⟨hS.1, hk⟩), w0T := Nat.le_trans h.w0T h.topW, topW := Nat.le_refl _ }
theorem NewS.push (h : NewS S w0 bm bp Lm m top wr Lp p srcs) (hS : ∀ k, S k → k < w0.heap.size) (u : FunD) (sv0 : Value) (s0 : List Ins) {gg cap : Nat} {X : World}
    (m1 : Fr (fun k => (Value.slice Lp.fa p.funs.length Lp.fc).ownBlock = some k ∨ k = bp) wr X)
    (m2 : Has X bp (#[Value.int .i64 p.nimp, .int .i64 p.min, .int .i64 p.max, .int .i64 p.steps, .slice Lp.fa p.funs.length Lp.fc].setIfInBounds 4 (.slice (some ⟨gg, 0, none⟩) (p.funs.length + 1) cap)) 120)
    (m3 : X.ownsRow 0 125 5 (.slice (some ⟨gg, 0, none⟩) (p.funs.length + 1) cap) (p.funs.length + 1) ((p.funs.zip Lp.vs).flatMap mfunCells ++ mfunCells (u, (sv0, .slice none 0 0))))
    (m4 : (Value.slice Lp.fa p.funs.length Lp.fc).ownBlock = some gg ∨ wr.heap.size ≤ gg) (m5 : gg < X.heap.size)
    (hs0 : wr.ownsRow 0 67 3 sv0 s0.length (insCells s0)) (hsS : ∀ k, sv0.ownBlock = some k → w0.heap.size ≤ k) :
    NewS S w0 bm bp Lm m X.heap.size X { fa := some ⟨gg, 0, none⟩, fc := cap, vs := Lp.vs ++ [(sv0, .slice none 0 0)] } { p with funs := p.funs ++ [u], codes := p.codes ++ [[]] } (srcs ++ [s0]) := by
  have hsize := m1.size
  have hown : ∀ k, (Value.slice Lp.fa p.funs.length Lp.fc).ownBlock = some k → w0.heap.size ≤ k ∧ k < top := fun k hk => h.prog.ownF k (by rw [ownBlock_any _ _ _ p.funs.length Lp.fc]; exact hk)
  have htop := h.topW
  have hw0 := h.w0T
  have hbp := h.prog.own
  exact {
    mod := h.mod.fr m1 (fun k hk hk' => by
      have := hS k hk
      rcases hk' with hk' | rfl
      · have := (hown k hk').1; omega
      · omega)
    prog := by
      refine (h.prog.sub (S' := fun k => w0.heap.size ≤ k ∧ k < X.heap.size) (fun k _ hk => ⟨hk.1, by omega⟩)).pushFun u sv0 s0 m1 m2 m3 ?_ hs0 (fun k hk => ⟨hsS k hk, by have := owns_lt hs0 k hk; omega⟩)
      rcases m4 with m4 | m4
      · have := hown gg m4; exact ⟨this.1, m5⟩
      · exact ⟨by omega, m5⟩
    fr := h.fr.trans m1 (fun j hj hk => by
      rcases hk with hk | rfl
      · have := (hown j hk).1; omega
      · omega)
    w0T := by omega
    topW := Nat.le_refl _ }
end
/-- within a body -/
structure BodyS (S : Nat → Prop) (w0 : World) (bm bp bk f : Nat) (Lm : ModL) (m : ModD) (n : Nat) (wr : World) (Lp : MPL) (codes : List (List Flat)) (K : MkL) (s : Mk) : Prop where
  mod : ModRep S wr bm Lm m
  prog : MProg (fun k => w0.heap.size ≤ k) wr bp Lp (m.progAt n codes) (m.srcsTo n)
  k : MkRep wr bk K s
  kN : ∀ k, MkS bk K k → w0.heap.size ≤ k
  cd : codes[f]? = some s.code
  fr : Fr (fun _ => False) w0 wr
section
variable {S : Nat → Prop} {w0 : World} {bm bp bk f : Nat} {Lm : ModL} {m : ModD} {n : Nat} {wr w1 : World} {Lp : MPL} {codes : List (List Flat)} {K K' : MkL} {s s' : Mk} {g : Nat} {v : Value × Value} {c : Ins} {cv' : Value} {o : Flat}
theorem BodyS.above (h : BodyS S w0 bm bp bk f Lm m n wr Lp codes K s) (hg : Lp.fa = some ⟨g, 0, none⟩) (hv : Lp.vs[f]? = some v) : ∀ k, OneS bk g K v.2 k → w0.heap.size ≤ k := by
  rintro k (hk | rfl | hk)
  · exact h.kN k hk
  · exact h.prog.ownF _ (by rw [hg]; rfl)
  · exact h.prog.ownV f v hv k (.inr hk)
theorem BodyS.frame (h : BodyS S w0 bm bp bk f Lm m n wr Lp codes K s) (hg : Lp.fa = some ⟨g, 0, none⟩) (hv : Lp.vs[f]? = some v) (hf : Fr (OneS bk g K v.2) wr w1) : Fr (fun _ => False) w0 w1 :=
  h.fr.trans hf (fun j hj hS => by have := h.above hg hv j hS; omega)
theorem BodyS.step (h : BodyS S w0 bm bp bk f Lm m n wr Lp codes K s) (hS : ∀ k, S k → k < w0.heap.size) (hg : Lp.fa = some ⟨g, 0, none⟩) (hv : Lp.vs[f]? = some v) (hsr : (m.srcsTo n)[f]? = some (m.body f))
    (ho : OneL (oneP wr bp bk g f K Lp (m.progAt n codes) (m.body f) v c) w1 K' cv' s' o) :
    BodyS S w0 bm bp bk f Lm m n w1 { Lp with vs := Lp.vs.set f (v.1, cv') } (codes.set f s'.code) K' s' := by
  have hfr : Fr (OneS bk g K v.2) wr w1 := ho.fr
  have hab := h.above hg hv
  have hsz := h.fr.size
  have hf : f < codes.length := (List.getElem?_eq_some_iff.1 h.cd).1
  exact {
    mod := h.mod.fr hfr (fun k hk hk' => by have := hS k hk; have := hab k hk'; omega)
    prog := h.prog.fromOne h.k hg hv hsr h.cd (fun k hk => by omega) h.kN ho
    k := ho.k
    kN := fun k hk => by
      by_cases hlt : k < wr.heap.size
      · exact hab k (ho.subK k hlt hk)
      · omega
    cd := List.getElem?_set_self hf
    fr := h.frame hg hv hfr }
end
end Go.Proofs.Qxb6500575aGreatDoor
