/-
  moon: Qxb6500574aGreatDoorS: a name found along the chain of variables is the slot or the upvalue that the compiler chose. Plain; no memory, no walk.
-/
import Derived.Test.Qxb6500574aGreatDoorZM0
import Derived.Test.Qxb6500574aGreatDoorWCo3
namespace Go.Proofs.Qxb6500574aGreatDoor
set_option linter.unusedVariables false
set_option linter.unusedSimpArgs false
/-- the names that are seen, the newest first -/
def nmL (L : List Bs) : List Bs := (L.filter (fun s => !s.isEmpty)).reverse
def nmR (r : En) : List Bs := r.flatMap fun x => nmL x.2
/-- a chain of variables: its nodes, the innermost first -/
def Chn (E : List EnD) : List Nat → Option Nat → Prop
  | [], e => e = none
  | i :: l, e => e = some i ∧ i < E.length ∧ Chn E l (E.getD i en0).up
def nmN (E : List EnD) (l : List Nat) : List Bs := l.map fun i => (E.getD i en0).nm
/-- so many seen names lie behind slot j -/
def slotN (L : List Bs) (j : Nat) : Nat := ((L.drop (j + 1)).filter (fun s => !s.isEmpty)).length
/-- the node of upvalue x of function g -/
def upNode (D : CmD) : En → Nat → List Nat → Nat → Option Nat
  | [], _, _, _ => none
  | c :: r, g, l, x => match (D.fn g).ups[x]? with
    | none => none
    | some d => if d.1 = 1 then l[slotN c.2 d.2]? else upNode D r c.1 (l.drop (nmL c.2).length) d.2
section
variable {E E' : List EnD} {D : CmD} {s : Bs}
theorem Chn.len : ∀ {l : List Nat} {e : Option Nat}, Chn E l e → ∀ i ∈ l, i < E.length
  | [], _, _, i, h => by cases h
  | j :: l, e, h, i, hi => by
    rcases List.mem_cons.1 hi with rfl | hi
    · exact h.2.1
    · exact Chn.len h.2.2 i hi
/-- what is kept of the nodes keeps the chain -/
theorem Chn.keep (hl : E.length ≤ E'.length) (hk : ∀ i, i < E.length → (E'.getD i en0).up = (E.getD i en0).up) : ∀ {l : List Nat} {e : Option Nat}, Chn E l e → Chn E' l e
  | [], _, h => h
  | i :: l, e, h => ⟨h.1, by have := h.2.1; omega, by rw [hk i h.2.1]; exact Chn.keep hl hk h.2.2⟩
theorem nmN.keep {l : List Nat} (h : ∀ i ∈ l, i < E.length) (hk : ∀ i, i < E.length → (E'.getD i en0).nm = (E.getD i en0).nm) : nmN E' l = nmN E l := by
  unfold nmN
  exact List.map_congr_left fun i hi => hk i (h i hi)
/-- a name is found at the first node that bears it -/
theorem find_first : ∀ {l : List Nat} {e : Option Nat} {k : Nat}, Chn E l e → l.length < k → findE E s k e = l.find? (fun i => decide ((E.getD i en0).nm = s))
  | [], e, k, h, hk => by
    have h : e = none := h
    subst h
    cases k <;> rfl
  | i :: l, e, k, h, hk => by
    obtain ⟨rfl, h2, h3⟩ := h
    cases k with
    | zero => simp at hk
    | succ k =>
      unfold findE
      rw [List.find?_cons]
      by_cases hn : (E.getD i en0).nm = s
      · rw [if_pos hn, decide_eq_true hn]
      · rw [if_neg hn, find_first h3 (by simpa using hk), decide_eq_false hn]
theorem nmL_app (L M : List Bs) : nmL (L ++ M) = nmL M ++ nmL L := by simp [nmL]
theorem slotL_app (L : List Bs) (x s : Bs) : slotL (L ++ [x]) s = if x = s then some L.length else slotL L s := by
  unfold slotL
  rw [List.reverse_append]
  simp only [List.reverse_cons, List.reverse_nil, List.nil_append, List.singleton_append, List.findIdx?_cons]
  by_cases h : x = s
  · simp [h]
  · have hb : (x == s) = false := by simpa using h
    rw [if_neg h, hb]
    simp only [Bool.false_eq_true, if_false, Option.map_map]
    congr 1
    funext k
    simp only [Function.comp]
    simp
    omega
/-- the newest local of a name, among the seen names -/
theorem slot_find {s : Bs} (hs : s ≠ []) : ∀ (n : Nat) (L : List Bs), L.length = n → match slotL L s with
    | some k => k < L.length ∧ L[k]? = some s ∧ (nmL L)[slotN L k]? = some s ∧ ∀ j, j < slotN L k → (nmL L)[j]? ≠ some s
    | none => ∀ x ∈ nmL L, x ≠ s := by
  intro n
  induction n with
  | zero =>
    intro L hL
    have : L = [] := List.eq_nil_of_length_eq_zero hL
    subst this
    intro x hx
    simp [nmL] at hx
  | succ n ih =>
    intro L hL
    obtain ⟨M, x, rfl⟩ : ∃ M x, L = M ++ [x] := by
      rcases List.eq_nil_or_concat L with h | ⟨M, x, h⟩
      · rw [h] at hL; simp at hL
      · exact ⟨M, x, by simpa using h⟩
    have hM : M.length = n := by simpa using hL
    have h1 := ih M hM
    rw [slotL_app]
    by_cases hx : x = s
    · rw [if_pos hx]
      subst hx
      have hsl : slotN (M ++ [x]) M.length = 0 := by
        unfold slotN
        rw [List.drop_of_length_le (by simp)]
        rfl
      refine ⟨by simp, by simp, ?_, fun j hj => ?_⟩
      · rw [hsl, nmL_app]
        have : nmL [x] = [x] := by
          unfold nmL
          have : x.isEmpty = false := by simpa using hs
          simp [this]
        rw [this]
        rfl
      · rw [hsl] at hj; omega
    · rw [if_neg hx]
      have hcase : nmL [x] = if x = [] then [] else [x] := by
        unfold nmL
        by_cases he : x = []
        · simp [he]
        · have : x.isEmpty = false := by simpa using he
          simp [this, he]
      cases hsl : slotL M s with
      | some k =>
        rw [hsl] at h1
        obtain ⟨g1, g2, g3, g4⟩ := h1
        have hd : slotN (M ++ [x]) k = slotN M k + (nmL [x]).length := by
          unfold slotN
          rw [List.drop_append_of_le_length (by omega), List.filter_append, List.length_append]
          simp [nmL]
        refine ⟨by simp; omega, by rw [List.getElem?_append_left g1]; exact g2, ?_, fun j hj => ?_⟩
        · rw [nmL_app, hd, List.getElem?_append_right (by omega)]
          simpa using g3
        · rw [hd] at hj
          rw [nmL_app]
          by_cases hjl : j < (nmL [x]).length
          · rw [List.getElem?_append_left hjl, hcase]
            split
            · simp
            · rw [hcase] at hjl
              rename_i he
              rw [if_neg he] at hjl
              have : j = 0 := by simpa using hjl
              subst this
              simpa using hx
          · rw [List.getElem?_append_right (by omega)]
            exact g4 _ (by omega)
      | none =>
        rw [hsl] at h1
        intro y hy
        rw [nmL_app] at hy
        rcases List.mem_append.1 hy with h | h
        · rw [hcase] at h
          split at h
          · cases h
          · have : y = x := by simpa using h
            rw [this]; exact hx
        · exact h1 y h
/-- a list of nodes: the first that bears the name, by the names alone -/
theorem find_names : ∀ (l : List Nat) (A : List Bs), nmN E l = A → l.find? (fun i => decide ((E.getD i en0).nm = s)) = (A.findIdx? (fun x => x == s)).bind (fun j => l[j]?)
  | [], A, h => by
    have : A = [] := by rw [← h]; rfl
    rw [this]; rfl
  | i :: l, A, h => by
    rw [← h]
    have ih := find_names l (nmN E l) rfl
    rw [List.find?_cons]
    show _ = (((E.getD i en0).nm :: nmN E l).findIdx? (fun x => x == s)).bind _
    rw [List.findIdx?_cons]
    by_cases hn : (E.getD i en0).nm = s
    · have hb : ((E.getD i en0).nm == s) = true := by simpa using hn
      rw [decide_eq_true hn, hb]
      rfl
    · have hb : ((E.getD i en0).nm == s) = false := by simpa using hn
      rw [decide_eq_false hn, hb]
      simp only [Bool.false_eq_true, if_false]
      rw [ih]
      cases (nmN E l).findIdx? (fun x => x == s) <;> simp
theorem findIdx_at {A : List Bs} {k : Nat} (h : A[k]? = some s) (g : ∀ j, j < k → A[j]? ≠ some s) : A.findIdx? (fun x => x == s) = some k := by
  rw [List.findIdx?_eq_some_iff_getElem]
  obtain ⟨h1, h2⟩ := List.getElem?_eq_some_iff.1 h
  refine ⟨h1, by simpa using h2, fun j hj => ?_⟩
  have := g j hj
  rw [List.getElem?_eq_getElem (by omega)] at this
  simpa using this
theorem findIdx_no {A : List Bs} (g : ∀ x ∈ A, x ≠ s) : A.findIdx? (fun x => x == s) = none := by
  rw [List.findIdx?_eq_none_iff]
  intro x hx
  simpa using g x hx
theorem findIdx_right {A B : List Bs} (g : ∀ x ∈ A, x ≠ s) : (A ++ B).findIdx? (fun x => x == s) = (B.findIdx? (fun x => x == s)).map (fun j => A.length + j) := by
  rw [List.findIdx?_append, findIdx_no g]
  simp only [Option.none_or]
  congr 1
  funext j
  omega
/-- the upvalue that the compiler chose is the variable that is found -/
theorem up_find (hs : s ≠ []) : ∀ (r : En) (g : Nat) (L0 : List Bs) (l : List Nat) (o : Option Nat), UpR D ((g, L0) :: r) s o → nmN E l = nmR r →
    match o with
    | none => ∀ x ∈ nmR r, x ≠ s
    | some j => ∃ k i, (nmR r).findIdx? (fun x => x == s) = some k ∧ l[k]? = some i ∧ upNode D r g l j = some i := by
  intro r
  induction r with
  | nil =>
    intro g L0 l o h hl
    have h : o = none := h
    subst h
    intro x hx
    simp [nmR] at hx
  | cons c r ih =>
    intro g L0 l o h hl
    have h : match slotL c.2 s with
      | some k => ∃ i, o = some i ∧ (D.fn g).ups[i]? = some (1, k)
      | none => (o = none ∧ UpR D (c :: r) s none) ∨ (∃ j i, UpR D (c :: r) s (some j) ∧ o = some i ∧ (D.fn g).ups[i]? = some (0, j)) := h
    have hn : nmR (c :: r) = nmL c.2 ++ nmR r := by simp [nmR]
    have S := slot_find hs _ c.2 rfl
    have hll : l.length = (nmL c.2).length + (nmR r).length := by
      have := congrArg List.length hl
      rw [hn] at this
      simpa [nmN] using this
    have hdrop : nmN E (l.drop (nmL c.2).length) = nmR r := by
      have := congrArg (List.drop (nmL c.2).length) hl
      rw [hn] at this
      simpa [nmN, List.map_drop] using this
    cases hsl : slotL c.2 s with
    | some k =>
      rw [hsl] at h S
      obtain ⟨i, rfl, hu⟩ := h
      obtain ⟨s1, s2, s3, s4⟩ := S
      have hk : slotN c.2 k < (nmL c.2).length := (List.getElem?_eq_some_iff.1 s3).1
      refine ⟨slotN c.2 k, l[slotN c.2 k]'(by omega), ?_, List.getElem?_eq_getElem (by omega), ?_⟩
      · rw [hn]
        refine findIdx_at (by rw [List.getElem?_append_left hk]; exact s3) (fun j hj => ?_)
        rw [List.getElem?_append_left (by omega)]
        exact s4 j hj
      · unfold upNode
        rw [hu]
        simp only [if_true]
        exact List.getElem?_eq_getElem (by omega)
    | none =>
      rw [hsl] at h S
      rcases h with ⟨rfl, hq⟩ | ⟨j, i, hq, rfl, hu⟩
      · have := ih c.1 c.2 _ none hq hdrop
        intro x hx
        rw [hn] at hx
        rcases List.mem_append.1 hx with hx | hx
        · exact S x hx
        · exact this x hx
      · obtain ⟨k, n, k1, k2, k3⟩ := ih c.1 c.2 _ (some j) hq hdrop
        refine ⟨(nmL c.2).length + k, n, ?_, ?_, ?_⟩
        · rw [hn, findIdx_right S, k1]
          rfl
        · rw [List.getElem?_drop] at k2
          exact k2
        · unfold upNode
          rw [hu]
          have h10 : ¬ ((0 : Nat) = 1) := by decide
          simp only [h10, if_false]
          exact k3
end
end Go.Proofs.Qxb6500574aGreatDoor
