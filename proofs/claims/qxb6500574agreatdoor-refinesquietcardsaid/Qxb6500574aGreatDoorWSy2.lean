/-
  moon: A SAYING, piece by piece: its tokens, its tree, its machine. Plain; no memory, no walk.
-/
import Derived.Test.Qxb6500574aGreatDoorWSy0
import Derived.Test.Qxb6500574aGreatDoorWSy1
import Derived.Test.Qxb6500574aGreatDoorWNu5
import Derived.Test.Qxb6500574aGreatDoorWIm2
import Derived.KernelRfl
namespace Go.Proofs.Qxb6500574aGreatDoor
set_option linter.unusedVariables false
set_option linter.unusedSimpArgs false
/-! ### tokens -/
theorem drop_len (k : Nat) (s : Bs) : (s.drop k).length ≤ s.length := by rw [List.length_drop]; omega
theorem scan_fuel : ∀ (f g p : Nat) (s : Bs), s.length < f → s.length < g → scanN f p s = scanN g p s := by
  intro f
  induction f with
  | zero => intro g p s h; omega
  | succ f ih =>
    intro g p s hf hg
    cases g with
    | zero => omega
    | succ g =>
      cases s with
      | nil => simp only [scanN]
      | cons c r =>
        simp only [List.length_cons] at hf hg
        have IH : ∀ p (k : Nat), scanN f p (r.drop k) = scanN g p (r.drop k) := fun p k => ih g p _ (by have := drop_len k r; omega) (by have := drop_len k r; omega)
        have IH0 : ∀ p, scanN f p r = scanN g p r := fun p => ih g p _ (by omega) (by omega)
        have one : ∀ (k : Nat), 1 ≤ k → ∀ p, scanN f p ((c :: r).drop k) = scanN g p ((c :: r).drop k) := fun k hk p => by
          obtain ⟨j, rfl⟩ : ∃ j, k = j + 1 := ⟨k - 1, by omega⟩
          rw [List.drop_succ_cons]
          exact IH p j
        unfold scanN
        split
        · exact IH0 _
        · split
          · rename_i h
            refine one _ ?_ _
            unfold span
            rw [List.takeWhile_cons, h.1]
            simp
          · split
            · rename_i h
              simp only
              split
              · congr 1
                refine one _ ?_ _
                unfold span
                have : isWrd c = true := by unfold isWrd; rw [h]; rfl
                rw [List.takeWhile_cons, this]
                simp
              · rfl
            · split
              · rename_i h
                simp only
                split
                · congr 1
                  refine one _ ?_ _
                  have hs : 1 ≤ span isDig (c :: r) := by
                    unfold span
                    rw [List.takeWhile_cons, h]
                    simp
                  unfold numLen
                  simp only
                  repeat' split
                  all_goals omega
                · rfl
              · split
                · simp only
                  split
                  · congr 1
                    exact IH _ _
                  · rfl
                · have hq : ∀ p (b : Prop) [Decidable b], scanN f p (if b then r.drop 1 else r) = scanN g p (if b then r.drop 1 else r) := fun p b _ => by
                    split
                    · exact IH _ _
                    · exact IH0 _
                  simp only [hq]
/-- enough steps -/
def scA (p : Nat) (s : Bs) : List Tok := scanN (s.length + 1) p s
theorem scA_eq {f p : Nat} {s : Bs} (h : s.length < f) : scanN f p s = scA p s := scan_fuel _ _ _ _ h (by omega)
theorem scanP_eq (s : Bs) : scanP s = scA 0 s := rfl
/-- a piece of a source -/
theorem scA_piece {A : Bs} {TA : Nat → List Tok} {b : Nat} (h : ∀ f p R, scanN (f + A.length) p (A ++ R) = TA p ++ scanN (f + b) (p + A.length) R) (p : Nat) (R : Bs) : scA p (A ++ R) = TA p ++ scA (p + A.length) R := by
  have h1 := h (R.length + 1) p R
  rw [scA_eq (by rw [List.length_append]; omega), scA_eq (by omega)] at h1
  exact h1
theorem scA_num {x : Nat} (hx : x < 9218868437227405312) {c : UInt8} (hc : sepC c) (q : Bs) (p : Nat) : scA p (fmtN x ++ c :: q) = ⟨3, p, [], x, 0⟩ :: scA (p + (fmtN x).length) (c :: q) := by
  have h := scan_fmt hx hc q ((fmtN x ++ c :: q).length) p
  obtain ⟨d, r, hd, _⟩ := fmt_head (fmt_form hx)
  rw [scA_eq (by omega), scA_eq (by rw [hd]; simp; omega)] at h
  exact h
/-- the tree of tokens -/
def treeT (T : List Tok) : Option (List Nd × Nat) :=
  match parN T (100 * (T.length + 20)) 9 12 [] ⟨0, 0, 0, 0, [nd0]⟩ with
  | .inl _ => none
  | .inr x => if (curT T x.2).k = 0 ∧ x.2.nodes.length ≤ 301 then some (x.2.nodes, x.1.getD 0 0) else none
theorem tree_of {src : Bs} {N : List Nd} {root : Nat} (hl : src.length ≤ 2048) (h : treeT (scanP src) = some (N, root)) : treeP src = .inr (N, root) := by
  unfold treeP
  rw [if_neg (by omega)]
  unfold treeT at h
  simp only
  cases hp : parN (scanP src) (100 * ((scanP src).length + 20)) 9 12 [] ⟨0, 0, 0, 0, [nd0]⟩ with
  | inl e => rw [hp] at h; cases h
  | inr x =>
    rw [hp] at h
    simp only at h
    split at h
    · rename_i hc
      cases h
      simp only
      rw [if_neg (by simp [hc.1]), if_neg (by omega)]
    · cases h
/-! ### the machine -/
def imC (D : CmD) : ImD := (D.fns.take D.np).foldl addF ⟨[], [], [], []⟩
theorem image_dec {src : Bs} {N : List Nd} {root : Nat} (h : treeP src = .inr (N, root)) : imageP src = .inr (layP (comP N root)) ∧ (layP (comP N root)).length ≤ 31748 ∧ decodeP (layP (comP N root)) = some (imC (comP N root)) := by
  have T := tree_shape h
  obtain ⟨h0, hl⟩ := tree_zero h
  obtain ⟨b, l, al', C, hc, hs⟩ := com_ok T h0
  have F := com_fits T.le h0 C hc hs
  obtain ⟨i1, i2⟩ := F.image T.le (com_wt T h0)
  refine ⟨?_, i1, i2⟩
  unfold imageP
  rw [h]
/-- the name of the number that is not known: no number of the language -/
def y0N : Nat := 9218868437227405313
def subN (x n : Nat) : Nat := if n = y0N then x else n
def swpN (x n : Nat) : Nat := if n = y0N then x else if n = x then y0N else n
def numsN (N : List Nd) : List Nat := N.filterMap fun d => if d.k = 15 then some d.n else none
def numsC (c : CmD) : List Nat := c.fns.flatMap fun f => f.consts.filterMap fun v => if v.t = 2 then some v.n else none
theorem swp_inj (x : Nat) : ∀ a b, swpN x a = swpN x b → a = b := by
  intro a b h
  unfold swpN at h
  repeat' split at h
  all_goals omega
theorem swp_N {x : Nat} {N : List Nd} (h : ∀ c ∈ numsN N, c ≠ x) : N.map (sgN (subN x)) = N.map (sgN (swpN x)) := by
  refine List.map_congr_left fun d hd => ?_
  unfold sgN
  split
  · rename_i hk
    have : d.n ≠ x := h d.n (List.mem_filterMap.2 ⟨d, hd, by rw [if_pos hk]⟩)
    unfold subN swpN
    rw [if_neg this]
  · rfl
theorem swp_C {x : Nat} {c : CmD} (h : ∀ q ∈ numsC c, q ≠ x) : sgC (swpN x) c = sgC (subN x) c := by
  unfold sgC
  congr 1
  refine List.map_congr_left fun f hf => ?_
  unfold sgF
  congr 1
  refine List.map_congr_left fun v hv => ?_
  unfold sgV
  split
  · rename_i hk
    have : v.n ≠ x := h v.n (List.mem_flatMap.2 ⟨f, hf, List.mem_filterMap.2 ⟨v, hv, by rw [if_pos hk]⟩⟩)
    unfold subN swpN
    rw [if_neg this]
  · rfl
theorem com_sub {x root : Nat} {N : List Nd} (h1 : ∀ c ∈ numsN N, c ≠ x) (h2 : ∀ q ∈ numsC (comP N root), q ≠ x) (h3 : x ≠ one64) : comP (N.map (sgN (subN x))) root = sgC (subN x) (comP N root) := by
  rw [swp_N h1, comP_map (swp_inj x) ?_ N root, swp_C h2]
  unfold swpN
  rw [if_neg (by decide), if_neg fun e => h3 e.symm]
/-- the run of a saying with the number's name in it, F the texts of numbers -/
def sayR (F : Nat → Bs) (T : List Tok) (x fuel : Nat) : Option (Nat × Nat × Vl × Nat × Bs × List (Bs × Nat)) :=
  match treeT T with
  | none => none
  | some t => tellR (rnds F 200 fuel (startP (loadM (imC (sgC (subN x) (comP t.1 t.2)))) 0 nilV nilV) 0 [])
/-- the numbers of a saying -/
def sayNums (T : List Tok) : List Nat := match treeT T with
  | none => []
  | some t => one64 :: (numsN t.1 ++ numsC (comP t.1 t.2))
/-- the trees with the number and with its name -/
def treeS (x : Nat) (T : List Tok) : Option (List Nd × Nat) := (treeT T).map fun t => (t.1.map (sgN (subN x)), t.2)
theorem say_runs {src : Bs} {x : Nat} {T T0 : List Tok} {fuel : Nat} {out short : Bs} {lg lg' : List (Bs × Nat)} {v : Vl} (hl : src.length ≤ 2048) (hT : scanP src = T) (ht : treeT T = treeS x T0) (hs : treeT T0 ≠ none) (hn : ∀ q ∈ sayNums T0, q ≠ x)
    (h1 : sayR fmtN T0 x (fuel + 1) = some (1, 0, nilV, 0, out, lg)) (h2 : sayR fmtN T0 x fuel = some (5, 9, v, 0, short, lg')) (g1 : LogOk lg) (g2 : LogOk lg') :
    ∃ img, imageP src = .inr img ∧ runN 201 img ((fuel + 1 : Nat) : Int) = some ⟨0, 0, 0, out, showV nilV⟩ ∧ runN 201 img (fuel : Int) = some ⟨9, 0, 0, short, [45]⟩ := by
  cases h0 : treeT T0 with
  | none => exact absurd h0 hs
  | some t =>
    obtain ⟨N, root⟩ := t
    unfold sayNums at hn
    rw [h0] at hn
    simp only [List.mem_cons, List.mem_append] at hn
    unfold treeS at ht
    rw [h0, ← hT] at ht
    have htr := tree_of hl ht
    obtain ⟨i1, i2, i3⟩ := image_dec htr
    have hc : comP (N.map (sgN (subN x))) root = sgC (subN x) (comP N root) := com_sub (fun c hc => hn c (.inr (.inl hc))) (fun q hq => hn q (.inr (.inr hq))) (fun e => hn one64 (.inl rfl) e.symm)
    unfold sayR at h1 h2
    rw [h0] at h1 h2
    simp only at h1 h2 i1 i2 i3
    rw [hc] at i1 i2 i3
    exact ⟨_, i1, run_end (by omega) i3 h1 g1, run_fuel (by omega) i3 h2 g2⟩
end Go.Proofs.Qxb6500574aGreatDoor
