/-
  moon: THE IMAGE IS READ BACK. Plain; no memory, no walk.
-/
import Derived.Test.Qxb6500574aGreatDoorWWt2
namespace Go.Proofs.Qxb6500574aGreatDoor
set_option linter.unusedVariables false
set_option linter.unusedSimpArgs false
theorem byteN_nat (x : Nat) : (byteN x).toNat = x % 256 := by
  unfold byteN
  rw [UInt8.toNat_ofNat']
  omega
theorem rdTake_app (w r : Bs) {n : Nat} (h : w.length = n) : rdTake n (w ++ r) = some (w, r) := by
  unfold rdTake
  rw [if_neg (by rw [List.length_append]; omega), ← h]
  simp
theorem u16_put {x : Nat} (h : x < 65536) : u16N (put16 x) = x := by
  unfold u16N put16
  simp only [List.getD_cons_zero, List.getD_cons_succ]
  rw [byteN_nat, byteN_nat]
  omega
theorem le_put : ∀ (k x : Nat), x < 256 ^ k → leN ((List.range k).map fun i => byteN (x / 256 ^ i)) = x := by
  intro k
  induction k with
  | zero => intro x h; simp at h; subst h; rfl
  | succ k ih =>
    intro x h
    rw [List.range_succ_eq_map]
    simp only [List.map_cons, List.map_map, leN]
    have e : ((fun i => byteN (x / 256 ^ i)) ∘ Nat.succ) = fun i => byteN (x / 256 / 256 ^ i) := by
      funext i
      simp only [Function.comp]
      rw [Nat.pow_succ, Nat.mul_comm, Nat.div_div_eq_div_mul]
    rw [e, ih (x / 256) (by rw [Nat.pow_succ] at h; omega), byteN_nat]
    simp
    omega
theorem put64_len (x : Nat) : (put64 x).length = 8 := by simp [put64]
theorem const_back {v : Vl} (h : v.ok) (r : Bs) : constP (layC v ++ r) = some (v, r) := by
  rcases h with ⟨e, h1, h2⟩ | ⟨e, h1⟩
  · rw [e]
    have : layC (numV v.n) = 1 :: put64 v.n := rfl
    rw [this, List.cons_append]
    unfold constP
    simp only [if_true]
    rw [rdTake_app _ _ (put64_len _)]
    simp only
    have e2 : leN (put64 v.n) = v.n := le_put 8 v.n (by omega)
    rw [e2, if_neg (by rw [h2]; simp)]
  · rw [e]
    have : layC (strV v.s) = 2 :: byteN v.s.length :: v.s := rfl
    rw [this, List.cons_append, List.cons_append]
    unfold constP
    have hb : (byteN v.s.length).toNat = v.s.length := by rw [byteN_nat]; omega
    simp only [show ¬ ((2 : UInt8) = 1) by decide, if_false, if_true]
    rw [hb, if_neg (by omega), rdTake_app _ _ rfl]
theorem consts_back : ∀ (l : List Vl) (ks : List Vl) (r : Bs), (∀ v ∈ l, v.ok) → constsP l.length ks (l.flatMap layC ++ r) = some (ks ++ l, r) := by
  intro l
  induction l with
  | nil => intro ks r _; simp [constsP]
  | cons v l ih =>
    intro ks r h
    simp only [List.length_cons, List.flatMap_cons, List.append_assoc, constsP]
    rw [const_back (h v (by simp))]
    simp only
    rw [ih _ _ fun x hx => h x (by simp [hx])]
    simp
theorem descs_back : ∀ (l ds : List (Nat × Nat)) (r : Bs), (∀ d ∈ l, d.1 ≤ 1 ∧ d.2 < 256) → descsP l.length ds (l.flatMap (fun d => [byteN d.1, byteN d.2]) ++ r) = some (ds ++ l, r) := by
  intro l
  induction l with
  | nil => intro ds r _; simp [descsP]
  | cons d l ih =>
    intro ds r h
    obtain ⟨h1, h2⟩ := h d (by simp)
    simp only [List.length_cons, List.flatMap_cons, List.append_assoc, descsP]
    rw [rdTake_app [byteN d.1, byteN d.2] _ (n := 2) rfl]
    simp only [List.getD_cons_zero, List.getD_cons_succ]
    rw [byteN_nat, byteN_nat, if_neg (by omega), Nat.mod_eq_of_lt h2, Nat.mod_eq_of_lt (by omega : d.1 < 256), ih _ _ fun x hx => h x (by simp [hx])]
    simp
theorem code_back : ∀ (l cs : List (Nat × Nat)) (r : Bs), (∀ i ∈ l, i.1 < 256 ∧ i.2 < 65536) → codeP l.length cs (l.flatMap (fun i => byteN i.1 :: put16 i.2) ++ r) = some (cs ++ l, r) := by
  intro l
  induction l with
  | nil => intro cs r _; simp [codeP]
  | cons i l ih =>
    intro cs r h
    obtain ⟨h1, h2⟩ := h i (by simp)
    simp only [List.length_cons, List.flatMap_cons, List.append_assoc, codeP]
    rw [rdTake_app (byteN i.1 :: put16 i.2) _ (n := 3) rfl]
    simp only [List.getD_cons_zero, List.drop_succ_cons, List.drop_zero]
    rw [byteN_nat, u16_put h2, Nat.mod_eq_of_lt h1, ih _ _ fun x hx => h x (by simp [hx])]
    simp
/-- one function more in the machine's text -/
def addF (im : ImD) (f : FnD) : ImD := ⟨im.protos ++ [⟨f.np, f.nslots, im.descs.length, f.ups.length, im.consts.length, f.consts.length, im.code.length, f.code.length⟩], im.descs ++ f.ups, im.consts ++ f.consts, im.code ++ f.code⟩
structure FnR1 (f : FnD) : Prop where
  np : f.np ≤ 3
  npn : f.np ≤ f.nslots
  ns : f.nslots ≤ 12
  ul : f.ups.length < 256
  us : ∀ d ∈ f.ups, d.1 ≤ 1 ∧ d.2 < 256
  kl : f.consts.length < 65536
  ks : ∀ v ∈ f.consts, v.ok
  cl : f.code.length < 65536
  cs : ∀ i ∈ f.code, i.1 < 256 ∧ i.2 < 65536
theorem proto_back {f : FnD} (h : FnR1 f) (im : ImD) (r : Bs) : protoP im (layF f ++ r) = some (addF im f, r) := by
  have h1 := h.np; have h2 := h.npn; have h3 := h.ns; have h4 := h.ul
  unfold protoP layF
  simp only [List.append_assoc]
  rw [rdTake_app [byteN f.np, byteN f.nslots, byteN f.ups.length] _ (n := 3) rfl]
  simp only [List.getD_cons_zero, List.getD_cons_succ, byteN_nat]
  rw [Nat.mod_eq_of_lt (by omega), Nat.mod_eq_of_lt (by omega), Nat.mod_eq_of_lt (by omega), if_neg (by omega), descs_back _ _ _ h.us]
  simp only
  rw [rdTake_app (put16 f.consts.length) _ (n := 2) rfl]
  simp only [u16_put h.kl]
  rw [consts_back _ _ _ h.ks]
  simp only
  rw [rdTake_app (put16 f.code.length) _ (n := 2) rfl]
  simp only [u16_put h.cl]
  rw [code_back _ _ _ h.cs]
  rfl
theorem protos_back : ∀ (l : List FnD) (im : ImD) (r : Bs), (∀ f ∈ l, FnR1 f) → protosP l.length im (l.flatMap layF ++ r) = some (l.foldl addF im, r) := by
  intro l
  induction l with
  | nil => intro im r _; simp [protosP]
  | cons f l ih =>
    intro im r h
    simp only [List.length_cons, List.flatMap_cons, List.append_assoc, protosP, List.foldl_cons]
    rw [proto_back (h f (by simp))]
    simp only
    exact ih _ _ fun x hx => h x (by simp [hx])
/-- where the functions lie -/
theorem fold_pre : ∀ (l : List FnD) (im : ImD), im.descs <+: (l.foldl addF im).descs ∧ im.consts <+: (l.foldl addF im).consts ∧ im.code <+: (l.foldl addF im).code ∧ im.protos <+: (l.foldl addF im).protos ∧ (l.foldl addF im).protos.length = im.protos.length + l.length := by
  intro l
  induction l with
  | nil => intro im; exact ⟨List.prefix_refl _, List.prefix_refl _, List.prefix_refl _, List.prefix_refl _, rfl⟩
  | cons f l ih =>
    intro im
    obtain ⟨h1, h2, h3, h4, h5⟩ := ih (addF im f)
    refine ⟨(List.prefix_append _ _).trans h1, (List.prefix_append _ _).trans h2, (List.prefix_append _ _).trans h3, (List.prefix_append _ _).trans h4, ?_⟩
    rw [List.foldl_cons, h5]
    simp [addF]
    omega
theorem cut_pre {α : Type} {a b l : List α} (h : a ++ b <+: l) : (l.drop a.length).take b.length = b := by
  obtain ⟨t, rfl⟩ := h
  rw [List.append_assoc, List.drop_left, List.take_left]
theorem fold_at : ∀ (l : List FnD) (im : ImD) (p : Nat) (f : FnD), l[p]? = some f → ∃ q, (l.foldl addF im).protos[im.protos.length + p]? = some q ∧ q.np = f.np ∧ q.ns = f.nslots ∧ q.nup = f.ups.length ∧
    ((l.foldl addF im).descs.drop q.up).take q.nup = f.ups ∧ ((l.foldl addF im).consts.drop q.k).take q.nk = f.consts ∧ ((l.foldl addF im).code.drop q.code).take q.nc = f.code := by
  intro l
  induction l with
  | nil => intro im p f h; simp at h
  | cons g l ih =>
    intro im p f h
    cases p with
    | zero =>
      simp only [List.getElem?_cons_zero, Option.some.injEq] at h
      subst h
      obtain ⟨h1, h2, h3, h4, h5⟩ := fold_pre l (addF im g)
      refine ⟨⟨g.np, g.nslots, im.descs.length, g.ups.length, im.consts.length, g.consts.length, im.code.length, g.code.length⟩, ?_, rfl, rfl, rfl, cut_pre h1, cut_pre h2, cut_pre h3⟩
      refine pre_at h4 ?_
      simp [addF]
    | succ p =>
      simp only [List.getElem?_cons_succ] at h
      obtain ⟨q, h1, h2⟩ := ih (addF im g) p f h
      refine ⟨q, ?_, h2⟩
      rw [← h1]
      congr 1
      simp [addF]
      omega
end Go.Proofs.Qxb6500574aGreatDoor
