/-
  co: what the driver's walk leans on: plain laws, and the frame of its steps. No walk.
-/
import Derived.Test.Qxb6500574aGreatDoorVExec
namespace Go.Proofs.Qxb6500574aGreatDoor
open Go Go.RowKit
set_option linter.unusedVariables false
set_option linter.unusedSimpArgs false
section
variable {K : Cx} {m : VMD} {i : Nat} {t : ThD}
/-- all threads sleep: the stacks are low -/
theorem Slp.low (S : Slp K m) : Low m := by
  intro y u hu
  have T := S.vi.th y u hu
  by_cases hf : u.frames = []
  · rw [T.em hf]
    exact Nat.zero_le _
  · obtain ⟨fm, hfm⟩ := last_some hf
    have rm := (S.sl y u hu).2 fm hfm
    have := T.fr.stackLe hfm (by omega) S.vi.ns12
    omega
/-- what an Exec of thread i comes to -/
structure CoStep (K : Cx) (m : VMD) (i : Nat) (t : ThD) (fu : Nat) (ev : EvD) (fu1 : Nat) (m1 : VMD) (K1 : Cx) : Prop where
  le : K.le K1
  ful : fu1 ≤ fu
  k1 : 1 ≤ ev.k
  k5 : ev.k ≤ 5
  bs : busy m1 = busy m + (if t.st = 1 then 1 else 0)
  slp : ev.k ≠ 5 → Slp K1 m1 ∧ VOk K1 ev.v
  r4 : ev.k = 4 → fu1 < fu ∧ (∃ t2, m1.ths[i]? = some t2 ∧ t2.st = 3) ∧ ev.th ≠ i ∧ ∃ u, m1.ths[ev.th]? = some u ∧ (u.st = 1 ∨ u.st = 2)
theorem co_step (S : Slp K m) (hi : m.ths[i]? = some t) (hst : t.st = 1 ∨ t.st = 2 ∨ t.st = 3) {a b : Vl} (ha : VOk K a) (hb : VOk K b) {n fu : Nat} {r : EvD × Nat × VMD} (hr : roundsP n fu (startP m i a b) i = some r) : ∃ K1, CoStep K m i t fu r.1 r.2.1 r.2.2 K1 := by
  have il := (List.getElem?_eq_some_iff.1 hi).1
  obtain ⟨t1, f1, A, rm, R1⟩ := start_ok S hi hst ha hb
  obtain ⟨k, ev, fu1, m1, e1, hle, ⟨K1, t2, l1, V1, U1, R2, hi2, hs2, hk1, hk2, hok, h4, h5⟩, hlt4⟩ := rounds_ok fu _ A rm rfl
  have := roundsP_det hr e1
  subst this
  have R : Rest m m1 i := R1.trans il R2
  have hb1 := R.busy hi hi2 hs2
  have others : ∀ (j : Nat) (u : ThD), j ≠ i → m1.ths[j]? = some u → u.st ≠ 4 ∧ Room K1 2 u := by
    intro j u hj hu
    by_cases hjl : j < m.ths.length
    · have hu0 := List.getElem?_eq_getElem hjl
      obtain ⟨u', b1, b2, b3, b4⟩ := R.old j _ hj hu0
      rw [hu] at b1
      cases b1
      obtain ⟨c1, c2⟩ := S.sl j _ hu0
      exact ⟨by rw [b2]; exact c1, c2.le l1 (S.vi.clos hu0) b3 b4⟩
    · have h1 := R.new j u (by omega) hu
      exact ⟨by omega, room_nil ((V1.th j u hu).al.2 (.inl h1))⟩
  refine ⟨K1, l1, hle, hk1, hk2, hb1, fun hk => ⟨⟨V1, U1, fun j u hu => ?_⟩, (hok hk).1⟩, fun hk => ?_⟩
  · by_cases hj : j = i
    · subst hj
      rw [hi2] at hu
      cases hu
      exact ⟨(hok hk).2.1, (hok hk).2.2.1⟩
    · exact others j u hj hu
  · obtain ⟨s3, hne, u, hu, hus⟩ := h4 hk
    exact ⟨hlt4 hk, ⟨t2, hi2, s3⟩, hne, u, hu, hus⟩
theorem busy_le (V : VI K m) : busy m ≤ 5 := by
  have h1 : busy m ≤ m.ths.length := List.countP_le_length
  have h2 := V.kh
  have h3 := V.hn
  omega
/-- what co.run answers of a plain answer -/
theorem co_post (S : Slp K m) (hi : m.ths[i]? = some t) (hst : t.st = 1 ∨ t.st = 2 ∨ t.st = 3) {a b : Vl} (ha : VOk K a) (hb : VOk K b) {n fu s : Nat} {r : BackD × Nat × VMD × Nat} (hr : coP n i a b fu m s = some r) : CoPost K m i s r := by
  obtain ⟨n2, r2, h2, P⟩ := co_ok fu (s := s) S hi hst ha hb
  rw [coP_det hr h2]
  exact P
end
/-- a step of the driver: what bears no label stays, but the driver's own block -/
structure CSt (bc : Nat) (w : World) (A : VL) (w' : World) (A' : VL) : Prop where
  fr : Fr (fun k => A.o k ≠ 0 ∨ k = bc) w w'
  ext : ∀ k, k < w.heap.size → A'.o k = A.o k
  hi : Ow w A.o → Ow w' A'.o
  b : A'.b = A.b
  bn : A'.bn = A.bn
section
variable {bc : Nat} {w w1 w2 : World} {A A1 A2 : VL}
theorem CSt.of (h : VSt isVM w A w1 A1) : CSt bc w A w1 A1 := ⟨h.st.fr.weaken (fun _ _ x => .inl x), h.st.ext, h.st.hi, h.b, h.bn⟩
theorem CSt.refl (w : World) (A : VL) : CSt bc w A w A := ⟨Fr.refl _ _, fun _ _ => rfl, fun h => h, rfl, rfl⟩
theorem CSt.trans (h : CSt bc w A w1 A1) (k : CSt bc w1 A1 w2 A2) : CSt bc w A w2 A2 :=
  ⟨h.fr.trans k.fr (fun j hj e => by rw [h.ext j hj] at e; exact e), fun j hj => (k.ext j (Nat.lt_of_lt_of_le hj h.fr.size)).trans (h.ext j hj), fun o => k.hi (h.hi o), k.b.trans h.b, k.bn.trans h.bn⟩
theorem CSt.fresh (hf : Fr (fun _ => False) w w1) : CSt bc w A w1 A := CSt.of (VSt.fresh hf)
theorem CSt.keep (h : CSt bc w A w1 A1) {b : Nat} {cs : Array Value} {T : TypeId} (hb : Has w b cs T) (h0 : A.o b = 0) (hn : b ≠ bc) : Has w1 b cs T ∧ A1.o b = 0 :=
  ⟨hb.fr h.fr (fun x => by rcases x with x | x; exact x h0; exact hn x), (h.ext b hb.lt).trans h0⟩
/-- a cell of the driver's block, or of a block of the call's own -/
theorem CSt.set (h : CSt bc w A w1 A1) {p : Addr} (hp : p.block = bc ∨ w.heap.size ≤ p.block) (u : Value) : CSt bc w A (w1.setCell p u) A1 :=
  ⟨h.fr.setCell (by rcases hp with hp | hp; exact .inl (.inr hp); exact .inr hp) u, h.ext, fun o k hk => h.hi o k (by simpa [World.setCell] using hk), h.b, h.bn⟩
end
end Go.Proofs.Qxb6500574aGreatDoor
