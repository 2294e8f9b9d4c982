/-
  THE WALK of table: Set.
-/
import Derived.Test.Qxb6500574aGreatDoorVMigW
import Derived.Test.Qxb6500574aGreatDoorVGet
import Derived.Test.Qxb6500574aGreatDoorRegApp
namespace Go.Proofs.Qxb6500574aGreatDoor
open Go Go.RowKit
set_option linter.unusedVariables false
set_option linter.unusedSimpArgs false

theorem rowEnt : IsRow Tryz.prog 242 259 (.agg #[.int .i64 0, .int .u64 0, sv [], .int .i64 0, .int .u64 0, sv []]) 6 64 := ⟨by kernel_rfl, by kernel_rfl, rfl, by decide⟩
/-- what Set leans on -/
structure SetP (w : World) (o : Nat → Nat) (bt bn : Nat) (s : Sl) (n : Nat) (xs : List (TabD × TbL)) (h g : Nat) (t : TabD) (l : TbL) (k v : Vl) : Prop where
  r : TabsRep w o bt bn s n xs
  hx : xs[h]? = some (t, l)
  hg : s.a = some ⟨g, 0, none⟩
  hf : TFit t
  hn : h < n
  hn12 : n ≤ 12
  hO : Ow w o
  hk : wellV k = true
  hv : wellV v = true
  hkn : k.t = 2 → k.n < 18446744073709551616
/-- behind Set: the table turned -/
def SetR (w : World) (o : Nat → Nat) (bt bn : Nat) (s : Sl) (n : Nat) (xs : List (TabD × TbL)) (h : Nat) (t : TabD) (w' : World) : Prop := ∃ o' l', TabsRep w' o' bt bn s n (xs.set h (t, l')) ∧ Stp (isB h) w o w' o'
section
variable {w : World} {o : Nat → Nat} {bt bn n h g : Nat} {s : Sl} {xs : List (TabD × TbL)} {t : TabD} {l : TbL} {k v : Vl}
set_option maxRecDepth 100000
set_option maxHeartbeats 1000000
theorem TFit.app (hf : TFit t) (h32 : t.order.length < 32) (e : Vl × Vl) (he : isNilV e.2 = false) : TFit { t with order := t.order ++ [e] } :=
  ⟨by simp; omega, hf.al, fun p hp => by have := hf.ap p hp; simp; omega, fun x hx => by have := hf.np x hx; simp; omega, hf.nb, by have := hf.sm; simp; omega, fun x hx => by
    obtain ⟨y, h1, h2⟩ := hf.nk x hx
    exact ⟨y, by rw [List.getElem?_append_left (List.getElem?_eq_some_iff.1 h1).1]; exact h1, h2⟩, fun x hx => by have := hf.sp x hx; simp; omega, fun x hx => by have := hf.rp x hx; simp; omega, by rw [List.countP_append]; simp [he]; exact hf.dd⟩
theorem TFit.appArr (hf : TFit t) (h32 : t.order.length < 32) (e : Vl × Vl) (he : isNilV e.2 = false) : TFit { t with order := t.order ++ [e], arr := t.arr ++ [t.order.length] } := by
  have h1 := hf.app h32 e he
  have hs := hf.sm
  refine ⟨h1.ol, by simp; omega, fun p hp => ?_, h1.np, h1.nb, by simp; omega, h1.nk, h1.sp, h1.rp, h1.dd⟩
  simp at hp ⊢
  rcases hp with hp | hp
  · have := hf.ap p hp; omega
  · omega
theorem find_order (o2 : List (Vl × Vl)) (k : Vl) (i : Int) : ({ t with order := o2 } : TabD).find k i = t.find k i := rfl
theorem find_none_arr {i0 : Int} (h : t.find k i0 = none) : ¬ (1 ≤ i0 ∧ i0 ≤ t.arr.length) := by
  intro hi
  unfold TabD.find at h
  rw [if_pos hi] at h
  have := List.getElem?_eq_none_iff.1 h
  omega
theorem set_nil (P : SetP w o bt bn s n xs h g t l k v) (h0 : k.t = 0) :
    Calls Tryz.prog 82 #[.pointer (some ⟨bt, 0, none⟩), .int .i64 h, k.val, v.val] w fun e w' => e = .returned (.int .i64 5) ∧ Fr (fun _ => False) w w' := by
  obtain ⟨g', ga, gcap, glab, gl, gc, gf⟩ := P.r.at P.hx
  rw [P.hg] at ga
  cases ga
  have hb := well_bounds P.hk P.hkn
  have b0 := P.r.here.has.cell 0
  have b1 := P.r.here.has.cell 1
  have b2 := P.r.here.has.cell 2
  simp only [List.getElem?_toArray, List.getElem?_cons_zero, List.getElem?_cons_succ, Sl.v, P.hg] at b0 b1 b2
  have hbt := P.r.here.has.lt
  have hxl := (List.getElem?_eq_some_iff.1 P.hx).1
  have hx12 : n ≤ xs.length := P.r.le
  have hn := P.hn
  have hn12 := P.hn12
  have hW : ∀ W, Calls Tryz.prog 108 #[.agg #[.int .i64 k.t, .int .u64 k.n, sv k.s]] W fun e w' => e = .returned (.bool true) ∧ Fr (fun _ => False) W w' := fun W => by have := well_any (w := W) k; rw [P.hk] at this; exact this
  have hW2 : ∀ W, Calls Tryz.prog 108 #[.agg #[.int .i64 v.t, .int .u64 v.n, sv v.s]] W fun e w' => e = .returned (.bool true) ∧ Fr (fun _ => False) W w' := fun W => by have := well_any (w := W) v; rw [P.hv] at this; exact this
  have hNil : ∀ W, Calls Tryz.prog 138 #[.agg #[.int .i64 v.t, .int .u64 v.n, sv v.s]] W fun e w' => e = .returned (.bool (isNilV v)) ∧ Fr (fun _ => False) W w' := fun W => isNil_any v
  have hO1 : ∀ W, Fr (fun _ => False) w W → Calls Tryz.prog 135 #[.pointer (some ⟨bt, 0, none⟩), .agg #[.int .i64 k.t, .int .u64 k.n, sv k.s]] W fun e w' => e = .returned (oneRes k) ∧ Fr (fun _ => False) W w' := fun W hW => one_any (hW.cell b0) (Nat.lt_of_lt_of_le hbt hW.size) k
  have hk' : 0 ≤ (oneV k).1.t ∧ (oneV k).1.t ≤ 7 ∧ (oneV k).1.n < 18446744073709551616 := ⟨by rw [oneV_t]; exact hb.1, by rw [oneV_t]; exact hb.2.1, Nat.lt_of_le_of_lt (oneV_n k) hb.2.2⟩
  have hF : ∀ W, Fr (fun _ => False) w W → Calls Tryz.prog 136 #[.pointer (some ⟨g, h * 6, none⟩), (oneV k).1.val, .int .i64 (oneV k).2] W fun e w' => e = .returned (.int .i64 (findI (t.find (oneV k).1 (oneV k).2))) ∧ Fr (fun _ => False) W w' := fun W hW => find_any (P.r.st (Stp.fresh (fun _ => False) o hW) (fun _ _ x => x)) P.hx P.hg P.hf _ hk' _
  unfold oneRes at hO1
  have HP : Hid (SetP w o bt bn s n xs h g t l k v) := P
  have HK' : Hid (0 ≤ (oneV k).1.t ∧ (oneV k).1.t ≤ 7 ∧ (oneV k).1.n < 18446744073709551616) := hk'
  have HB : Hid (0 ≤ k.t ∧ k.t ≤ 7 ∧ k.n < 18446744073709551616) := hb
  have c0 := gc 0 (by omega)
  have c1 := gc 1 (by omega)
  simp only [tbCells, List.getElem?_cons_zero, List.getElem?_cons_succ, Sl.v] at c0 c1
  rw [Nat.add_zero] at c0
  have hal := P.hf.al
  have hol := P.hf.ol
  have hh1 : ¬ ((h : Int) < 0) := by omega
  have hh2 : ¬ ((n : Int) ≤ (h : Int)) := by omega
  obtain ⟨N, HN⟩ : ∃ N : Nat, Hid (xs.length = N) := ⟨_, rfl⟩
  rw [HN.out] at b1 gcap hxl hx12
  clear P hb hk' gc gf
  obtain ⟨k', HKK⟩ : ∃ k', Hid ((oneV k).1 = k') := ⟨_, rfl⟩
  obtain ⟨i', HII⟩ : ∃ i', Hid ((oneV k).2 = i') := ⟨_, rfl⟩
  rw [HKK.out] at hO1 hF HK'
  rw [HII.out] at hO1 hF
  obtain ⟨kt, HKT⟩ : ∃ kt, Hid (k.t = kt) := ⟨_, rfl⟩
  obtain ⟨kn, HKN⟩ : ∃ kn, Hid (k.n = kn) := ⟨_, rfl⟩
  obtain ⟨ks, HKS⟩ : ∃ ks, Hid (k.s = ks) := ⟨_, rfl⟩
  obtain ⟨vt, HVT⟩ : ∃ vt, Hid (v.t = vt) := ⟨_, rfl⟩
  obtain ⟨vn, HVN⟩ : ∃ vn, Hid (v.n = vn) := ⟨_, rfl⟩
  obtain ⟨vs, HVS⟩ : ∃ vs, Hid (v.s = vs) := ⟨_, rfl⟩
  simp only [HKT.out, HKN.out, HKS.out, HVT.out, HVN.out, HVS.out] at hW hW2 hNil hO1 h0
  show Calls _ _ #[_, _, .agg #[.int .i64 k.t, .int .u64 k.n, sv k.s], .agg #[.int .i64 v.t, .int .u64 v.n, sv v.s]] _ _
  rw [HKT.out, HKN.out, HKS.out, HVT.out, HVN.out, HVS.out]
  subst h0
  go_enter Tryz.func82, Tryz.ntmps82
  go_wp2_with fail
  refine (hW _).mono ?_
  rintro e w1 ⟨rfl, hw1⟩
  have f1 : Fr (fun _ => False) w w1 := (((Fr.refl _ _).alloc _).alloc _).trans hw1 (fun _ _ x => x)
  have k1 : Has w1 w.heap.size #[.int .i64 0, .int .u64 kn, sv ks] 68 := ((Has.new _ _ _).alloc _).fr hw1 (fun x => x)
  have v1 : Has w1 (w.heap.size + 1) #[.int .i64 vt, .int .u64 vn, sv vs] 68 := (Has.newC _ _ _ (by simp)).fr hw1 (fun x => x)
  obtain ⟨v10, v11, v12⟩ := Has.cells3 (v := ⟨vt, vn, vs⟩) v1
  have z1 := v1.lt
  clear hw1
  go_wp2_with fail
  refine (hW2 _).mono ?_
  rintro e w2 ⟨rfl, hw2⟩
  have f2 : Fr (fun _ => False) w w2 := f1.trans hw2 (fun _ _ x => x)
  have k2 := k1.fr hw2 (fun x => x)
  have v2 := v1.fr hw2 (fun x => x)
  obtain ⟨k20, k21, k22⟩ := Has.cells3 (v := ⟨0, kn, ks⟩) k2
  have b0' := f2.cell b0
  have b1' := f2.cell b1
  have hbt2 : bt < w2.heap.size := Nat.lt_of_lt_of_le hbt f2.size
  have z2 := v2.lt
  clear hw2 k1 v1 v10 v11 v12 z1 f1 hW hW2
  go_wp2_with fail
  go_ret
  exact ⟨rfl, f2⟩
theorem set_nan (P : SetP w o bt bn s n xs h g t l k v) (h2 : k.t = 2) (hnan : isNan k.n = true) :
    Calls Tryz.prog 82 #[.pointer (some ⟨bt, 0, none⟩), .int .i64 h, k.val, v.val] w fun e w' => e = .returned (.int .i64 6) ∧ Fr (fun _ => False) w w' := by
  obtain ⟨g', ga, gcap, glab, gl, gc, gf⟩ := P.r.at P.hx
  rw [P.hg] at ga
  cases ga
  have hb := well_bounds P.hk P.hkn
  have b0 := P.r.here.has.cell 0
  have b1 := P.r.here.has.cell 1
  have b2 := P.r.here.has.cell 2
  simp only [List.getElem?_toArray, List.getElem?_cons_zero, List.getElem?_cons_succ, Sl.v, P.hg] at b0 b1 b2
  have hbt := P.r.here.has.lt
  have hxl := (List.getElem?_eq_some_iff.1 P.hx).1
  have hx12 : n ≤ xs.length := P.r.le
  have hn := P.hn
  have hn12 := P.hn12
  have hW : ∀ W, Calls Tryz.prog 108 #[.agg #[.int .i64 k.t, .int .u64 k.n, sv k.s]] W fun e w' => e = .returned (.bool true) ∧ Fr (fun _ => False) W w' := fun W => by have := well_any (w := W) k; rw [P.hk] at this; exact this
  have hW2 : ∀ W, Calls Tryz.prog 108 #[.agg #[.int .i64 v.t, .int .u64 v.n, sv v.s]] W fun e w' => e = .returned (.bool true) ∧ Fr (fun _ => False) W w' := fun W => by have := well_any (w := W) v; rw [P.hv] at this; exact this
  have hNil : ∀ W, Calls Tryz.prog 138 #[.agg #[.int .i64 v.t, .int .u64 v.n, sv v.s]] W fun e w' => e = .returned (.bool (isNilV v)) ∧ Fr (fun _ => False) W w' := fun W => isNil_any v
  have hO1 : ∀ W, Fr (fun _ => False) w W → Calls Tryz.prog 135 #[.pointer (some ⟨bt, 0, none⟩), .agg #[.int .i64 k.t, .int .u64 k.n, sv k.s]] W fun e w' => e = .returned (oneRes k) ∧ Fr (fun _ => False) W w' := fun W hW => one_any (hW.cell b0) (Nat.lt_of_lt_of_le hbt hW.size) k
  have hk' : 0 ≤ (oneV k).1.t ∧ (oneV k).1.t ≤ 7 ∧ (oneV k).1.n < 18446744073709551616 := ⟨by rw [oneV_t]; exact hb.1, by rw [oneV_t]; exact hb.2.1, Nat.lt_of_le_of_lt (oneV_n k) hb.2.2⟩
  have hF : ∀ W, Fr (fun _ => False) w W → Calls Tryz.prog 136 #[.pointer (some ⟨g, h * 6, none⟩), (oneV k).1.val, .int .i64 (oneV k).2] W fun e w' => e = .returned (.int .i64 (findI (t.find (oneV k).1 (oneV k).2))) ∧ Fr (fun _ => False) W w' := fun W hW => find_any (P.r.st (Stp.fresh (fun _ => False) o hW) (fun _ _ x => x)) P.hx P.hg P.hf _ hk' _
  unfold oneRes at hO1
  have HP : Hid (SetP w o bt bn s n xs h g t l k v) := P
  have HK' : Hid (0 ≤ (oneV k).1.t ∧ (oneV k).1.t ≤ 7 ∧ (oneV k).1.n < 18446744073709551616) := hk'
  have HB : Hid (0 ≤ k.t ∧ k.t ≤ 7 ∧ k.n < 18446744073709551616) := hb
  have c0 := gc 0 (by omega)
  have c1 := gc 1 (by omega)
  simp only [tbCells, List.getElem?_cons_zero, List.getElem?_cons_succ, Sl.v] at c0 c1
  rw [Nat.add_zero] at c0
  have hal := P.hf.al
  have hol := P.hf.ol
  have hh1 : ¬ ((h : Int) < 0) := by omega
  have hh2 : ¬ ((n : Int) ≤ (h : Int)) := by omega
  obtain ⟨N, HN⟩ : ∃ N : Nat, Hid (xs.length = N) := ⟨_, rfl⟩
  rw [HN.out] at b1 gcap hxl hx12
  have hC : ∀ W, Calls Tryz.prog 134 #[.pointer (some ⟨bn, 0, none⟩), .int .i64 2, .int .u64 k.n, .int .u64 k.n] W fun e w' => e = .returned (.bool true) ∧ w' = W := fun W => by have := cmp_any (w := W) (.pointer (some ⟨bn, 0, none⟩)) 2 k.n k.n; rw [show cmpN 2 k.n k.n = true from hnan] at this; exact this
  clear P hb hk' gc gf
  obtain ⟨k', HKK⟩ : ∃ k', Hid ((oneV k).1 = k') := ⟨_, rfl⟩
  obtain ⟨i', HII⟩ : ∃ i', Hid ((oneV k).2 = i') := ⟨_, rfl⟩
  rw [HKK.out] at hO1 hF HK'
  rw [HII.out] at hO1 hF
  obtain ⟨kt, HKT⟩ : ∃ kt, Hid (k.t = kt) := ⟨_, rfl⟩
  obtain ⟨kn, HKN⟩ : ∃ kn, Hid (k.n = kn) := ⟨_, rfl⟩
  obtain ⟨ks, HKS⟩ : ∃ ks, Hid (k.s = ks) := ⟨_, rfl⟩
  obtain ⟨vt, HVT⟩ : ∃ vt, Hid (v.t = vt) := ⟨_, rfl⟩
  obtain ⟨vn, HVN⟩ : ∃ vn, Hid (v.n = vn) := ⟨_, rfl⟩
  obtain ⟨vs, HVS⟩ : ∃ vs, Hid (v.s = vs) := ⟨_, rfl⟩
  simp only [HKT.out, HKN.out, HKS.out, HVT.out, HVN.out, HVS.out] at hW hW2 hNil hO1 h2 hnan hC
  show Calls _ _ #[_, _, .agg #[.int .i64 k.t, .int .u64 k.n, sv k.s], .agg #[.int .i64 v.t, .int .u64 v.n, sv v.s]] _ _
  rw [HKT.out, HKN.out, HKS.out, HVT.out, HVN.out, HVS.out]
  subst h2
  go_enter Tryz.func82, Tryz.ntmps82
  go_wp2_with fail
  refine (hW _).mono ?_
  rintro e w1 ⟨rfl, hw1⟩
  have f1 : Fr (fun _ => False) w w1 := (((Fr.refl _ _).alloc _).alloc _).trans hw1 (fun _ _ x => x)
  have k1 : Has w1 w.heap.size #[.int .i64 2, .int .u64 kn, sv ks] 68 := ((Has.new _ _ _).alloc _).fr hw1 (fun x => x)
  have v1 : Has w1 (w.heap.size + 1) #[.int .i64 vt, .int .u64 vn, sv vs] 68 := (Has.newC _ _ _ (by simp)).fr hw1 (fun x => x)
  obtain ⟨v10, v11, v12⟩ := Has.cells3 (v := ⟨vt, vn, vs⟩) v1
  have z1 := v1.lt
  clear hw1
  go_wp2_with fail
  refine (hW2 _).mono ?_
  rintro e w2 ⟨rfl, hw2⟩
  have f2 : Fr (fun _ => False) w w2 := f1.trans hw2 (fun _ _ x => x)
  have k2 := k1.fr hw2 (fun x => x)
  have v2 := v1.fr hw2 (fun x => x)
  obtain ⟨k20, k21, k22⟩ := Has.cells3 (v := ⟨2, kn, ks⟩) k2
  have b0' := f2.cell b0
  have b1' := f2.cell b1
  have hbt2 : bt < w2.heap.size := Nat.lt_of_lt_of_le hbt f2.size
  have z2 := v2.lt
  clear hw2 k1 v1 v10 v11 v12 z1 f1 hW hW2
  go_wp2_with fail
  refine wp_region_Y 12 1 14 (by kernel_rfl) (by kernel_rfl) (fun _ _ _ _ _ h => h) ?_
  simp only [List.take_succ_cons, List.take_zero, List.drop_succ_cons, List.drop_zero]
  repeat go_big_quiet_step (fail)
  refine wpQuiet_nil ?_
  go_wp2_with fail
  refine (hC _).mono ?_
  rintro e w9 ⟨rfl, rfl⟩
  go_wp2_with fail
  repeat go_big_quiet_step (fail)
  refine wpQuiet_nil ?_
  go_wp2_with fail
  go_ret
  exact ⟨rfl, f2.drew⟩
theorem set_num_turn (P : SetP w o bt bn s n xs h g t l k v) (h2 : k.t = 2) (hnan : isNan k.n = false) {p : Nat} (hq : t.find (oneV k).1 (oneV k).2 = some p) :
    Calls Tryz.prog 82 #[.pointer (some ⟨bt, 0, none⟩), .int .i64 h, k.val, v.val] w fun e w' => e = .returned (.int .i64 (t.put k v).1) ∧ SetR w o bt bn s n xs h (t.put k v).2 w' := by
  have hput : t.put k v = (0, t.turn p v) := by
    simp [TabD.put, P.hk, P.hv, h2, hnan, hq]
  rw [hput]
  clear hput
  obtain ⟨g', ga, gcap, glab, gl, gc, gf⟩ := P.r.at P.hx
  rw [P.hg] at ga
  cases ga
  have hb := well_bounds P.hk P.hkn
  have b0 := P.r.here.has.cell 0
  have b1 := P.r.here.has.cell 1
  have b2 := P.r.here.has.cell 2
  simp only [List.getElem?_toArray, List.getElem?_cons_zero, List.getElem?_cons_succ, Sl.v, P.hg] at b0 b1 b2
  have hbt := P.r.here.has.lt
  have hxl := (List.getElem?_eq_some_iff.1 P.hx).1
  have hx12 : n ≤ xs.length := P.r.le
  have hn := P.hn
  have hn12 := P.hn12
  have hW : ∀ W, Calls Tryz.prog 108 #[.agg #[.int .i64 k.t, .int .u64 k.n, sv k.s]] W fun e w' => e = .returned (.bool true) ∧ Fr (fun _ => False) W w' := fun W => by have := well_any (w := W) k; rw [P.hk] at this; exact this
  have hW2 : ∀ W, Calls Tryz.prog 108 #[.agg #[.int .i64 v.t, .int .u64 v.n, sv v.s]] W fun e w' => e = .returned (.bool true) ∧ Fr (fun _ => False) W w' := fun W => by have := well_any (w := W) v; rw [P.hv] at this; exact this
  have hNil : ∀ W, Calls Tryz.prog 138 #[.agg #[.int .i64 v.t, .int .u64 v.n, sv v.s]] W fun e w' => e = .returned (.bool (isNilV v)) ∧ Fr (fun _ => False) W w' := fun W => isNil_any v
  have hO1 : ∀ W, Fr (fun _ => False) w W → Calls Tryz.prog 135 #[.pointer (some ⟨bt, 0, none⟩), .agg #[.int .i64 k.t, .int .u64 k.n, sv k.s]] W fun e w' => e = .returned (oneRes k) ∧ Fr (fun _ => False) W w' := fun W hW => one_any (hW.cell b0) (Nat.lt_of_lt_of_le hbt hW.size) k
  have hk' : 0 ≤ (oneV k).1.t ∧ (oneV k).1.t ≤ 7 ∧ (oneV k).1.n < 18446744073709551616 := ⟨by rw [oneV_t]; exact hb.1, by rw [oneV_t]; exact hb.2.1, Nat.lt_of_le_of_lt (oneV_n k) hb.2.2⟩
  have hF : ∀ W, Fr (fun _ => False) w W → Calls Tryz.prog 136 #[.pointer (some ⟨g, h * 6, none⟩), (oneV k).1.val, .int .i64 (oneV k).2] W fun e w' => e = .returned (.int .i64 (findI (t.find (oneV k).1 (oneV k).2))) ∧ Fr (fun _ => False) W w' := fun W hW => find_any (P.r.st (Stp.fresh (fun _ => False) o hW) (fun _ _ x => x)) P.hx P.hg P.hf _ hk' _
  unfold oneRes at hO1
  have HP : Hid (SetP w o bt bn s n xs h g t l k v) := P
  have HK' : Hid (0 ≤ (oneV k).1.t ∧ (oneV k).1.t ≤ 7 ∧ (oneV k).1.n < 18446744073709551616) := hk'
  have HB : Hid (0 ≤ k.t ∧ k.t ≤ 7 ∧ k.n < 18446744073709551616) := hb
  have c0 := gc 0 (by omega)
  have c1 := gc 1 (by omega)
  simp only [tbCells, List.getElem?_cons_zero, List.getElem?_cons_succ, Sl.v] at c0 c1
  rw [Nat.add_zero] at c0
  have hal := P.hf.al
  have hol := P.hf.ol
  have hh1 : ¬ ((h : Int) < 0) := by omega
  have hh2 : ¬ ((n : Int) ≤ (h : Int)) := by omega
  obtain ⟨N, HN⟩ : ∃ N : Nat, Hid (xs.length = N) := ⟨_, rfl⟩
  rw [HN.out] at b1 gcap hxl hx12
  have hC : ∀ W, Calls Tryz.prog 134 #[.pointer (some ⟨bn, 0, none⟩), .int .i64 2, .int .u64 k.n, .int .u64 k.n] W fun e w' => e = .returned (.bool false) ∧ w' = W := fun W => by have := cmp_any (w := W) (.pointer (some ⟨bn, 0, none⟩)) 2 k.n k.n; rw [show cmpN 2 k.n k.n = false from hnan] at this; exact this
  have hp : p < t.order.length := P.hf.find hq
  rw [hq] at hF
  simp only [findI] at hF
  have hT : ∀ W, Fr (fun _ => False) w W → Calls Tryz.prog 137 #[.pointer (some ⟨g, h * 6, none⟩), .int .i64 p, .agg #[.int .i64 v.t, .int .u64 v.n, sv v.s]] W fun e w' => e = .returned (.tuple #[]) ∧ TabsRep w' o bt bn s n (xs.set h (t.turn p v, l)) ∧ Stp (isB h) W o w' o := fun W hW => turn_any (P.r.st (Stp.fresh (fun _ => False) o hW) (fun _ _ x => x)) P.hx P.hg P.hf P.hn hp v
  have HTT : Hid (t.turn p v = t.turn p v) := rfl
  generalize t.turn p v = tt at hT ⊢
  clear HTT
  clear hq
  clear P hb hk' gc gf
  obtain ⟨k', HKK⟩ : ∃ k', Hid ((oneV k).1 = k') := ⟨_, rfl⟩
  obtain ⟨i', HII⟩ : ∃ i', Hid ((oneV k).2 = i') := ⟨_, rfl⟩
  rw [HKK.out] at hO1 hF HK'
  rw [HII.out] at hO1 hF
  obtain ⟨kt, HKT⟩ : ∃ kt, Hid (k.t = kt) := ⟨_, rfl⟩
  obtain ⟨kn, HKN⟩ : ∃ kn, Hid (k.n = kn) := ⟨_, rfl⟩
  obtain ⟨ks, HKS⟩ : ∃ ks, Hid (k.s = ks) := ⟨_, rfl⟩
  obtain ⟨vt, HVT⟩ : ∃ vt, Hid (v.t = vt) := ⟨_, rfl⟩
  obtain ⟨vn, HVN⟩ : ∃ vn, Hid (v.n = vn) := ⟨_, rfl⟩
  obtain ⟨vs, HVS⟩ : ∃ vs, Hid (v.s = vs) := ⟨_, rfl⟩
  simp only [HKT.out, HKN.out, HKS.out, HVT.out, HVN.out, HVS.out] at hW hW2 hNil hO1 h2 hnan hC hT
  show Calls _ _ #[_, _, .agg #[.int .i64 k.t, .int .u64 k.n, sv k.s], .agg #[.int .i64 v.t, .int .u64 v.n, sv v.s]] _ _
  rw [HKT.out, HKN.out, HKS.out, HVT.out, HVN.out, HVS.out]
  subst h2
  go_enter Tryz.func82, Tryz.ntmps82
  go_wp2_with fail
  refine (hW _).mono ?_
  rintro e w1 ⟨rfl, hw1⟩
  have f1 : Fr (fun _ => False) w w1 := (((Fr.refl _ _).alloc _).alloc _).trans hw1 (fun _ _ x => x)
  have k1 : Has w1 w.heap.size #[.int .i64 2, .int .u64 kn, sv ks] 68 := ((Has.new _ _ _).alloc _).fr hw1 (fun x => x)
  have v1 : Has w1 (w.heap.size + 1) #[.int .i64 vt, .int .u64 vn, sv vs] 68 := (Has.newC _ _ _ (by simp)).fr hw1 (fun x => x)
  obtain ⟨v10, v11, v12⟩ := Has.cells3 (v := ⟨vt, vn, vs⟩) v1
  have z1 := v1.lt
  clear hw1
  go_wp2_with fail
  refine (hW2 _).mono ?_
  rintro e w2 ⟨rfl, hw2⟩
  have f2 : Fr (fun _ => False) w w2 := f1.trans hw2 (fun _ _ x => x)
  have k2 := k1.fr hw2 (fun x => x)
  have v2 := v1.fr hw2 (fun x => x)
  obtain ⟨k20, k21, k22⟩ := Has.cells3 (v := ⟨2, kn, ks⟩) k2
  have b0' := f2.cell b0
  have b1' := f2.cell b1
  have hbt2 : bt < w2.heap.size := Nat.lt_of_lt_of_le hbt f2.size
  have z2 := v2.lt
  clear hw2 k1 v1 v10 v11 v12 z1 f1 hW hW2
  go_wp2_with fail
  refine wp_region_Y 12 1 14 (by kernel_rfl) (by kernel_rfl) (fun _ _ _ _ _ h => h) ?_
  simp only [List.take_succ_cons, List.take_zero, List.drop_succ_cons, List.drop_zero]
  repeat go_big_quiet_step (fail)
  refine wpQuiet_nil ?_
  go_wp2_with fail
  refine (hC _).mono ?_
  rintro e w9 ⟨rfl, rfl⟩
  go_wp2_with fail
  repeat go_big_quiet_step (fail)
  refine wpQuiet_nil ?_
  have fd := f2.drew
  have kd := k2.drew
  have vd := v2.drew
  go_wp2_with fail
  refine (hO1 _ fd).mono ?_
  rintro e w3 ⟨rfl, hw3⟩
  have f3 : Fr (fun _ => False) w w3 := fd.trans hw3 (fun _ _ x => x)
  have k3 := kd.fr hw3 (fun x => x)
  have v3 := vd.fr hw3 (fun x => x)
  obtain ⟨k30, k31, k32⟩ := k3.frz3
  obtain ⟨k33, k34, k35⟩ := Has.cells3 (v := ⟨2, kn, ks⟩) k3
  have z3 := k3.lt
  have y3 := v3.lt
  clear hw3 b0' b1' k2 v2 kd vd z2 k20 k21 k22
  go_wp2_with fail
  refine (hF _ (((f3.setCell (p := ⟨w.heap.size, 0, none⟩) (.inr (Nat.le_refl _)) _).setCell (p := ⟨w.heap.size, 1, none⟩) (.inr (Nat.le_refl _)) _).setCell (p := ⟨w.heap.size, 2, none⟩) (.inr (Nat.le_refl _)) _)).mono ?_
  rintro e w4 ⟨rfl, hw4⟩
  have f4 : Fr (fun _ => False) w w4 := (((f3.setCell (p := ⟨w.heap.size, 0, none⟩) (.inr (Nat.le_refl _)) _).setCell (p := ⟨w.heap.size, 1, none⟩) (.inr (Nat.le_refl _)) _).setCell (p := ⟨w.heap.size, 2, none⟩) (.inr (Nat.le_refl _)) _).trans hw4 (fun _ _ x => x)
  have k4 := (k3.put3 (.int .i64 k'.t) (.int .u64 k'.n) (sv k'.s)).fr hw4 (fun x => x)
  have v4 := (((v3.other (p := ⟨w.heap.size, 0, none⟩) (by simp) (.int .i64 k'.t)).other (p := ⟨w.heap.size, 1, none⟩) (by simp) (.int .u64 k'.n)).other (p := ⟨w.heap.size, 2, none⟩) (by simp) (sv k'.s)).fr hw4 (fun x => x)
  obtain ⟨v40, v41, v42⟩ := Has.cells3 (v := ⟨vt, vn, vs⟩) v4
  obtain ⟨k43, k44, k45⟩ := Has.cells3 (v := k') k4
  have z4 := v4.lt
  clear hw4 k3 v3 k30 k31 k32 k33 k34 k35 z3 y3
  go_wp2_with fail
  refine (hT _ f4).mono ?_
  rintro e w5 ⟨rfl, R5, S5⟩
  have HR5 : Hid (TabsRep w5 o bt bn s n (xs.set h (tt, l))) := R5
  have HS5 : Hid (Stp (isB h) w4 o w5 o) := S5
  clear R5 S5
  go_wp2_with fail
  go_ret
  exact ⟨rfl, o, l, HR5.out, (Stp.fresh _ _ f4).trans HS5.out⟩
theorem set_num_nil (P : SetP w o bt bn s n xs h g t l k v) (h2 : k.t = 2) (hnan : isNan k.n = false) (hq : t.find (oneV k).1 (oneV k).2 = none) (hnil : isNilV v = true) :
    Calls Tryz.prog 82 #[.pointer (some ⟨bt, 0, none⟩), .int .i64 h, k.val, v.val] w fun e w' => e = .returned (.int .i64 (t.put k v).1) ∧ SetR w o bt bn s n xs h (t.put k v).2 w' := by
  have hput : t.put k v = (0, t) := by
    simp [TabD.put, P.hk, P.hv, h2, hnan, hq, hnil]
  rw [hput]
  clear hput
  obtain ⟨g', ga, gcap, glab, gl, gc, gf⟩ := P.r.at P.hx
  rw [P.hg] at ga
  cases ga
  have hb := well_bounds P.hk P.hkn
  have b0 := P.r.here.has.cell 0
  have b1 := P.r.here.has.cell 1
  have b2 := P.r.here.has.cell 2
  simp only [List.getElem?_toArray, List.getElem?_cons_zero, List.getElem?_cons_succ, Sl.v, P.hg] at b0 b1 b2
  have hbt := P.r.here.has.lt
  have hxl := (List.getElem?_eq_some_iff.1 P.hx).1
  have hx12 : n ≤ xs.length := P.r.le
  have hn := P.hn
  have hn12 := P.hn12
  have hW : ∀ W, Calls Tryz.prog 108 #[.agg #[.int .i64 k.t, .int .u64 k.n, sv k.s]] W fun e w' => e = .returned (.bool true) ∧ Fr (fun _ => False) W w' := fun W => by have := well_any (w := W) k; rw [P.hk] at this; exact this
  have hW2 : ∀ W, Calls Tryz.prog 108 #[.agg #[.int .i64 v.t, .int .u64 v.n, sv v.s]] W fun e w' => e = .returned (.bool true) ∧ Fr (fun _ => False) W w' := fun W => by have := well_any (w := W) v; rw [P.hv] at this; exact this
  have hNil : ∀ W, Calls Tryz.prog 138 #[.agg #[.int .i64 v.t, .int .u64 v.n, sv v.s]] W fun e w' => e = .returned (.bool (isNilV v)) ∧ Fr (fun _ => False) W w' := fun W => isNil_any v
  have hO1 : ∀ W, Fr (fun _ => False) w W → Calls Tryz.prog 135 #[.pointer (some ⟨bt, 0, none⟩), .agg #[.int .i64 k.t, .int .u64 k.n, sv k.s]] W fun e w' => e = .returned (oneRes k) ∧ Fr (fun _ => False) W w' := fun W hW => one_any (hW.cell b0) (Nat.lt_of_lt_of_le hbt hW.size) k
  have hk' : 0 ≤ (oneV k).1.t ∧ (oneV k).1.t ≤ 7 ∧ (oneV k).1.n < 18446744073709551616 := ⟨by rw [oneV_t]; exact hb.1, by rw [oneV_t]; exact hb.2.1, Nat.lt_of_le_of_lt (oneV_n k) hb.2.2⟩
  have hF : ∀ W, Fr (fun _ => False) w W → Calls Tryz.prog 136 #[.pointer (some ⟨g, h * 6, none⟩), (oneV k).1.val, .int .i64 (oneV k).2] W fun e w' => e = .returned (.int .i64 (findI (t.find (oneV k).1 (oneV k).2))) ∧ Fr (fun _ => False) W w' := fun W hW => find_any (P.r.st (Stp.fresh (fun _ => False) o hW) (fun _ _ x => x)) P.hx P.hg P.hf _ hk' _
  unfold oneRes at hO1
  have HP : Hid (SetP w o bt bn s n xs h g t l k v) := P
  have HK' : Hid (0 ≤ (oneV k).1.t ∧ (oneV k).1.t ≤ 7 ∧ (oneV k).1.n < 18446744073709551616) := hk'
  have HB : Hid (0 ≤ k.t ∧ k.t ≤ 7 ∧ k.n < 18446744073709551616) := hb
  have c0 := gc 0 (by omega)
  have c1 := gc 1 (by omega)
  simp only [tbCells, List.getElem?_cons_zero, List.getElem?_cons_succ, Sl.v] at c0 c1
  rw [Nat.add_zero] at c0
  have hal := P.hf.al
  have hol := P.hf.ol
  have hh1 : ¬ ((h : Int) < 0) := by omega
  have hh2 : ¬ ((n : Int) ≤ (h : Int)) := by omega
  obtain ⟨N, HN⟩ : ∃ N : Nat, Hid (xs.length = N) := ⟨_, rfl⟩
  rw [HN.out] at b1 gcap hxl hx12
  have hC : ∀ W, Calls Tryz.prog 134 #[.pointer (some ⟨bn, 0, none⟩), .int .i64 2, .int .u64 k.n, .int .u64 k.n] W fun e w' => e = .returned (.bool false) ∧ w' = W := fun W => by have := cmp_any (w := W) (.pointer (some ⟨bn, 0, none⟩)) 2 k.n k.n; rw [show cmpN 2 k.n k.n = false from hnan] at this; exact this
  rw [hq] at hF
  simp only [findI] at hF
  rw [hnil] at hNil
  clear hq hnil
  clear P hb hk' gc gf
  obtain ⟨k', HKK⟩ : ∃ k', Hid ((oneV k).1 = k') := ⟨_, rfl⟩
  obtain ⟨i', HII⟩ : ∃ i', Hid ((oneV k).2 = i') := ⟨_, rfl⟩
  rw [HKK.out] at hO1 hF HK'
  rw [HII.out] at hO1 hF
  obtain ⟨kt, HKT⟩ : ∃ kt, Hid (k.t = kt) := ⟨_, rfl⟩
  obtain ⟨kn, HKN⟩ : ∃ kn, Hid (k.n = kn) := ⟨_, rfl⟩
  obtain ⟨ks, HKS⟩ : ∃ ks, Hid (k.s = ks) := ⟨_, rfl⟩
  obtain ⟨vt, HVT⟩ : ∃ vt, Hid (v.t = vt) := ⟨_, rfl⟩
  obtain ⟨vn, HVN⟩ : ∃ vn, Hid (v.n = vn) := ⟨_, rfl⟩
  obtain ⟨vs, HVS⟩ : ∃ vs, Hid (v.s = vs) := ⟨_, rfl⟩
  simp only [HKT.out, HKN.out, HKS.out, HVT.out, HVN.out, HVS.out] at hW hW2 hNil hO1 h2 hnan hC
  show Calls _ _ #[_, _, .agg #[.int .i64 k.t, .int .u64 k.n, sv k.s], .agg #[.int .i64 v.t, .int .u64 v.n, sv v.s]] _ _
  rw [HKT.out, HKN.out, HKS.out, HVT.out, HVN.out, HVS.out]
  subst h2
  go_enter Tryz.func82, Tryz.ntmps82
  go_wp2_with fail
  refine (hW _).mono ?_
  rintro e w1 ⟨rfl, hw1⟩
  have f1 : Fr (fun _ => False) w w1 := (((Fr.refl _ _).alloc _).alloc _).trans hw1 (fun _ _ x => x)
  have k1 : Has w1 w.heap.size #[.int .i64 2, .int .u64 kn, sv ks] 68 := ((Has.new _ _ _).alloc _).fr hw1 (fun x => x)
  have v1 : Has w1 (w.heap.size + 1) #[.int .i64 vt, .int .u64 vn, sv vs] 68 := (Has.newC _ _ _ (by simp)).fr hw1 (fun x => x)
  obtain ⟨v10, v11, v12⟩ := Has.cells3 (v := ⟨vt, vn, vs⟩) v1
  have z1 := v1.lt
  clear hw1
  go_wp2_with fail
  refine (hW2 _).mono ?_
  rintro e w2 ⟨rfl, hw2⟩
  have f2 : Fr (fun _ => False) w w2 := f1.trans hw2 (fun _ _ x => x)
  have k2 := k1.fr hw2 (fun x => x)
  have v2 := v1.fr hw2 (fun x => x)
  obtain ⟨k20, k21, k22⟩ := Has.cells3 (v := ⟨2, kn, ks⟩) k2
  have b0' := f2.cell b0
  have b1' := f2.cell b1
  have hbt2 : bt < w2.heap.size := Nat.lt_of_lt_of_le hbt f2.size
  have z2 := v2.lt
  clear hw2 k1 v1 v10 v11 v12 z1 f1 hW hW2
  go_wp2_with fail
  refine wp_region_Y 12 1 14 (by kernel_rfl) (by kernel_rfl) (fun _ _ _ _ _ h => h) ?_
  simp only [List.take_succ_cons, List.take_zero, List.drop_succ_cons, List.drop_zero]
  repeat go_big_quiet_step (fail)
  refine wpQuiet_nil ?_
  go_wp2_with fail
  refine (hC _).mono ?_
  rintro e w9 ⟨rfl, rfl⟩
  go_wp2_with fail
  repeat go_big_quiet_step (fail)
  refine wpQuiet_nil ?_
  have fd := f2.drew
  have kd := k2.drew
  have vd := v2.drew
  go_wp2_with fail
  refine (hO1 _ fd).mono ?_
  rintro e w3 ⟨rfl, hw3⟩
  have f3 : Fr (fun _ => False) w w3 := fd.trans hw3 (fun _ _ x => x)
  have k3 := kd.fr hw3 (fun x => x)
  have v3 := vd.fr hw3 (fun x => x)
  obtain ⟨k30, k31, k32⟩ := k3.frz3
  obtain ⟨k33, k34, k35⟩ := Has.cells3 (v := ⟨2, kn, ks⟩) k3
  have z3 := k3.lt
  have y3 := v3.lt
  clear hw3 b0' b1' k2 v2 kd vd z2 k20 k21 k22
  go_wp2_with fail
  refine (hF _ (((f3.setCell (p := ⟨w.heap.size, 0, none⟩) (.inr (Nat.le_refl _)) _).setCell (p := ⟨w.heap.size, 1, none⟩) (.inr (Nat.le_refl _)) _).setCell (p := ⟨w.heap.size, 2, none⟩) (.inr (Nat.le_refl _)) _)).mono ?_
  rintro e w4 ⟨rfl, hw4⟩
  have f4 : Fr (fun _ => False) w w4 := (((f3.setCell (p := ⟨w.heap.size, 0, none⟩) (.inr (Nat.le_refl _)) _).setCell (p := ⟨w.heap.size, 1, none⟩) (.inr (Nat.le_refl _)) _).setCell (p := ⟨w.heap.size, 2, none⟩) (.inr (Nat.le_refl _)) _).trans hw4 (fun _ _ x => x)
  have k4 := (k3.put3 (.int .i64 k'.t) (.int .u64 k'.n) (sv k'.s)).fr hw4 (fun x => x)
  have v4 := (((v3.other (p := ⟨w.heap.size, 0, none⟩) (by simp) (.int .i64 k'.t)).other (p := ⟨w.heap.size, 1, none⟩) (by simp) (.int .u64 k'.n)).other (p := ⟨w.heap.size, 2, none⟩) (by simp) (sv k'.s)).fr hw4 (fun x => x)
  obtain ⟨v40, v41, v42⟩ := Has.cells3 (v := ⟨vt, vn, vs⟩) v4
  obtain ⟨k43, k44, k45⟩ := Has.cells3 (v := k') k4
  have z4 := v4.lt
  clear hw4 k3 v3 k30 k31 k32 k33 k34 k35 z3 y3
  go_wp2_with fail
  refine (hNil _).mono ?_
  rintro e w5 ⟨rfl, hw5⟩
  have f5 : Fr (fun _ => False) w w5 := f4.trans hw5 (fun _ _ x => x)
  have k5 := k4.fr hw5 (fun x => x)
  have v5 := v4.fr hw5 (fun x => x)
  have r5 := HP.out.r.st (Stp.fresh (fun _ => False) o f5) (fun _ _ x => x)
  have d0 := f5.cell c0
  have d1 := f5.cell c1
  have hgl5 : g < w5.heap.size := Nat.lt_of_lt_of_le gl f5.size
  go_wp2_with fail
  go_ret
  refine ⟨rfl, o, l, ?_, Stp.fresh _ _ f5⟩
  rw [set_same HP.out.hx]
  exact r5
theorem set_num_full (P : SetP w o bt bn s n xs h g t l k v) (h2 : k.t = 2) (hnan : isNan k.n = false) (hq : t.find (oneV k).1 (oneV k).2 = none) (hnil : isNilV v = false) (h32 : ¬ t.order.length < 32) :
    Calls Tryz.prog 82 #[.pointer (some ⟨bt, 0, none⟩), .int .i64 h, k.val, v.val] w fun e w' => e = .returned (.int .i64 (t.put k v).1) ∧ SetR w o bt bn s n xs h (t.put k v).2 w' := by
  have hput : t.put k v = (8, t) := by
    simp [TabD.put, P.hk, P.hv, h2, hnan, hq, hnil, show t.order.length ≥ 32 by omega]
  rw [hput]
  clear hput
  obtain ⟨g', ga, gcap, glab, gl, gc, gf⟩ := P.r.at P.hx
  rw [P.hg] at ga
  cases ga
  have hb := well_bounds P.hk P.hkn
  have b0 := P.r.here.has.cell 0
  have b1 := P.r.here.has.cell 1
  have b2 := P.r.here.has.cell 2
  simp only [List.getElem?_toArray, List.getElem?_cons_zero, List.getElem?_cons_succ, Sl.v, P.hg] at b0 b1 b2
  have hbt := P.r.here.has.lt
  have hxl := (List.getElem?_eq_some_iff.1 P.hx).1
  have hx12 : n ≤ xs.length := P.r.le
  have hn := P.hn
  have hn12 := P.hn12
  have hW : ∀ W, Calls Tryz.prog 108 #[.agg #[.int .i64 k.t, .int .u64 k.n, sv k.s]] W fun e w' => e = .returned (.bool true) ∧ Fr (fun _ => False) W w' := fun W => by have := well_any (w := W) k; rw [P.hk] at this; exact this
  have hW2 : ∀ W, Calls Tryz.prog 108 #[.agg #[.int .i64 v.t, .int .u64 v.n, sv v.s]] W fun e w' => e = .returned (.bool true) ∧ Fr (fun _ => False) W w' := fun W => by have := well_any (w := W) v; rw [P.hv] at this; exact this
  have hNil : ∀ W, Calls Tryz.prog 138 #[.agg #[.int .i64 v.t, .int .u64 v.n, sv v.s]] W fun e w' => e = .returned (.bool (isNilV v)) ∧ Fr (fun _ => False) W w' := fun W => isNil_any v
  have hO1 : ∀ W, Fr (fun _ => False) w W → Calls Tryz.prog 135 #[.pointer (some ⟨bt, 0, none⟩), .agg #[.int .i64 k.t, .int .u64 k.n, sv k.s]] W fun e w' => e = .returned (oneRes k) ∧ Fr (fun _ => False) W w' := fun W hW => one_any (hW.cell b0) (Nat.lt_of_lt_of_le hbt hW.size) k
  have hk' : 0 ≤ (oneV k).1.t ∧ (oneV k).1.t ≤ 7 ∧ (oneV k).1.n < 18446744073709551616 := ⟨by rw [oneV_t]; exact hb.1, by rw [oneV_t]; exact hb.2.1, Nat.lt_of_le_of_lt (oneV_n k) hb.2.2⟩
  have hF : ∀ W, Fr (fun _ => False) w W → Calls Tryz.prog 136 #[.pointer (some ⟨g, h * 6, none⟩), (oneV k).1.val, .int .i64 (oneV k).2] W fun e w' => e = .returned (.int .i64 (findI (t.find (oneV k).1 (oneV k).2))) ∧ Fr (fun _ => False) W w' := fun W hW => find_any (P.r.st (Stp.fresh (fun _ => False) o hW) (fun _ _ x => x)) P.hx P.hg P.hf _ hk' _
  unfold oneRes at hO1
  have HP : Hid (SetP w o bt bn s n xs h g t l k v) := P
  have HK' : Hid (0 ≤ (oneV k).1.t ∧ (oneV k).1.t ≤ 7 ∧ (oneV k).1.n < 18446744073709551616) := hk'
  have HB : Hid (0 ≤ k.t ∧ k.t ≤ 7 ∧ k.n < 18446744073709551616) := hb
  have c0 := gc 0 (by omega)
  have c1 := gc 1 (by omega)
  simp only [tbCells, List.getElem?_cons_zero, List.getElem?_cons_succ, Sl.v] at c0 c1
  rw [Nat.add_zero] at c0
  have hal := P.hf.al
  have hol := P.hf.ol
  have hh1 : ¬ ((h : Int) < 0) := by omega
  have hh2 : ¬ ((n : Int) ≤ (h : Int)) := by omega
  obtain ⟨N, HN⟩ : ∃ N : Nat, Hid (xs.length = N) := ⟨_, rfl⟩
  rw [HN.out] at b1 gcap hxl hx12
  have hC : ∀ W, Calls Tryz.prog 134 #[.pointer (some ⟨bn, 0, none⟩), .int .i64 2, .int .u64 k.n, .int .u64 k.n] W fun e w' => e = .returned (.bool false) ∧ w' = W := fun W => by have := cmp_any (w := W) (.pointer (some ⟨bn, 0, none⟩)) 2 k.n k.n; rw [show cmpN 2 k.n k.n = false from hnan] at this; exact this
  rw [hq] at hF
  simp only [findI] at hF
  rw [hnil] at hNil
  clear hq hnil
  clear P hb hk' gc gf
  obtain ⟨k', HKK⟩ : ∃ k', Hid ((oneV k).1 = k') := ⟨_, rfl⟩
  obtain ⟨i', HII⟩ : ∃ i', Hid ((oneV k).2 = i') := ⟨_, rfl⟩
  rw [HKK.out] at hO1 hF HK'
  rw [HII.out] at hO1 hF
  obtain ⟨kt, HKT⟩ : ∃ kt, Hid (k.t = kt) := ⟨_, rfl⟩
  obtain ⟨kn, HKN⟩ : ∃ kn, Hid (k.n = kn) := ⟨_, rfl⟩
  obtain ⟨ks, HKS⟩ : ∃ ks, Hid (k.s = ks) := ⟨_, rfl⟩
  obtain ⟨vt, HVT⟩ : ∃ vt, Hid (v.t = vt) := ⟨_, rfl⟩
  obtain ⟨vn, HVN⟩ : ∃ vn, Hid (v.n = vn) := ⟨_, rfl⟩
  obtain ⟨vs, HVS⟩ : ∃ vs, Hid (v.s = vs) := ⟨_, rfl⟩
  simp only [HKT.out, HKN.out, HKS.out, HVT.out, HVN.out, HVS.out] at hW hW2 hNil hO1 h2 hnan hC
  show Calls _ _ #[_, _, .agg #[.int .i64 k.t, .int .u64 k.n, sv k.s], .agg #[.int .i64 v.t, .int .u64 v.n, sv v.s]] _ _
  rw [HKT.out, HKN.out, HKS.out, HVT.out, HVN.out, HVS.out]
  subst h2
  go_enter Tryz.func82, Tryz.ntmps82
  go_wp2_with fail
  refine (hW _).mono ?_
  rintro e w1 ⟨rfl, hw1⟩
  have f1 : Fr (fun _ => False) w w1 := (((Fr.refl _ _).alloc _).alloc _).trans hw1 (fun _ _ x => x)
  have k1 : Has w1 w.heap.size #[.int .i64 2, .int .u64 kn, sv ks] 68 := ((Has.new _ _ _).alloc _).fr hw1 (fun x => x)
  have v1 : Has w1 (w.heap.size + 1) #[.int .i64 vt, .int .u64 vn, sv vs] 68 := (Has.newC _ _ _ (by simp)).fr hw1 (fun x => x)
  obtain ⟨v10, v11, v12⟩ := Has.cells3 (v := ⟨vt, vn, vs⟩) v1
  have z1 := v1.lt
  clear hw1
  go_wp2_with fail
  refine (hW2 _).mono ?_
  rintro e w2 ⟨rfl, hw2⟩
  have f2 : Fr (fun _ => False) w w2 := f1.trans hw2 (fun _ _ x => x)
  have k2 := k1.fr hw2 (fun x => x)
  have v2 := v1.fr hw2 (fun x => x)
  obtain ⟨k20, k21, k22⟩ := Has.cells3 (v := ⟨2, kn, ks⟩) k2
  have b0' := f2.cell b0
  have b1' := f2.cell b1
  have hbt2 : bt < w2.heap.size := Nat.lt_of_lt_of_le hbt f2.size
  have z2 := v2.lt
  clear hw2 k1 v1 v10 v11 v12 z1 f1 hW hW2
  go_wp2_with fail
  refine wp_region_Y 12 1 14 (by kernel_rfl) (by kernel_rfl) (fun _ _ _ _ _ h => h) ?_
  simp only [List.take_succ_cons, List.take_zero, List.drop_succ_cons, List.drop_zero]
  repeat go_big_quiet_step (fail)
  refine wpQuiet_nil ?_
  go_wp2_with fail
  refine (hC _).mono ?_
  rintro e w9 ⟨rfl, rfl⟩
  go_wp2_with fail
  repeat go_big_quiet_step (fail)
  refine wpQuiet_nil ?_
  have fd := f2.drew
  have kd := k2.drew
  have vd := v2.drew
  go_wp2_with fail
  refine (hO1 _ fd).mono ?_
  rintro e w3 ⟨rfl, hw3⟩
  have f3 : Fr (fun _ => False) w w3 := fd.trans hw3 (fun _ _ x => x)
  have k3 := kd.fr hw3 (fun x => x)
  have v3 := vd.fr hw3 (fun x => x)
  obtain ⟨k30, k31, k32⟩ := k3.frz3
  obtain ⟨k33, k34, k35⟩ := Has.cells3 (v := ⟨2, kn, ks⟩) k3
  have z3 := k3.lt
  have y3 := v3.lt
  clear hw3 b0' b1' k2 v2 kd vd z2 k20 k21 k22
  go_wp2_with fail
  refine (hF _ (((f3.setCell (p := ⟨w.heap.size, 0, none⟩) (.inr (Nat.le_refl _)) _).setCell (p := ⟨w.heap.size, 1, none⟩) (.inr (Nat.le_refl _)) _).setCell (p := ⟨w.heap.size, 2, none⟩) (.inr (Nat.le_refl _)) _)).mono ?_
  rintro e w4 ⟨rfl, hw4⟩
  have f4 : Fr (fun _ => False) w w4 := (((f3.setCell (p := ⟨w.heap.size, 0, none⟩) (.inr (Nat.le_refl _)) _).setCell (p := ⟨w.heap.size, 1, none⟩) (.inr (Nat.le_refl _)) _).setCell (p := ⟨w.heap.size, 2, none⟩) (.inr (Nat.le_refl _)) _).trans hw4 (fun _ _ x => x)
  have k4 := (k3.put3 (.int .i64 k'.t) (.int .u64 k'.n) (sv k'.s)).fr hw4 (fun x => x)
  have v4 := (((v3.other (p := ⟨w.heap.size, 0, none⟩) (by simp) (.int .i64 k'.t)).other (p := ⟨w.heap.size, 1, none⟩) (by simp) (.int .u64 k'.n)).other (p := ⟨w.heap.size, 2, none⟩) (by simp) (sv k'.s)).fr hw4 (fun x => x)
  obtain ⟨v40, v41, v42⟩ := Has.cells3 (v := ⟨vt, vn, vs⟩) v4
  obtain ⟨k43, k44, k45⟩ := Has.cells3 (v := k') k4
  have z4 := v4.lt
  clear hw4 k3 v3 k30 k31 k32 k33 k34 k35 z3 y3
  go_wp2_with fail
  refine (hNil _).mono ?_
  rintro e w5 ⟨rfl, hw5⟩
  have f5 : Fr (fun _ => False) w w5 := f4.trans hw5 (fun _ _ x => x)
  have k5 := k4.fr hw5 (fun x => x)
  have v5 := v4.fr hw5 (fun x => x)
  have r5 := HP.out.r.st (Stp.fresh (fun _ => False) o f5) (fun _ _ x => x)
  have d0 := f5.cell c0
  have d1 := f5.cell c1
  have hgl5 : g < w5.heap.size := Nat.lt_of_lt_of_le gl f5.size
  have h33 : (32 : Int) ≤ (t.order.length : Int) := by omega
  go_wp2_with fail
  go_ret
  refine ⟨rfl, o, l, ?_, Stp.fresh _ _ f5⟩
  rw [set_same HP.out.hx]
  exact r5
theorem set_num_index (P : SetP w o bt bn s n xs h g t l k v) (h2 : k.t = 2) (hnan : isNan k.n = false) (hq : t.find (oneV k).1 (oneV k).2 = none) (hnil : isNilV v = false) (h32 : t.order.length < 32) (hne : (oneV k).2 ≠ t.arr.length + 1) :
    Calls Tryz.prog 82 #[.pointer (some ⟨bt, 0, none⟩), .int .i64 h, k.val, v.val] w fun e w' => e = .returned (.int .i64 (t.put k v).1) ∧ SetR w o bt bn s n xs h (t.put k v).2 w' := by
  have hput : t.put k v = (0, ({ t with order := t.order ++ [((oneV k).1, v)] } : TabD).index (oneV k).1 t.order.length) := by
    simp [TabD.put, P.hk, P.hv, h2, hnan, hq, hnil, show ¬ t.order.length ≥ 32 by omega, hne]
  rw [hput]
  clear hput
  obtain ⟨g', ga, gcap, glab, gl, gc, gf⟩ := P.r.at P.hx
  rw [P.hg] at ga
  cases ga
  have hb := well_bounds P.hk P.hkn
  have b0 := P.r.here.has.cell 0
  have b1 := P.r.here.has.cell 1
  have b2 := P.r.here.has.cell 2
  simp only [List.getElem?_toArray, List.getElem?_cons_zero, List.getElem?_cons_succ, Sl.v, P.hg] at b0 b1 b2
  have hbt := P.r.here.has.lt
  have hxl := (List.getElem?_eq_some_iff.1 P.hx).1
  have hx12 : n ≤ xs.length := P.r.le
  have hn := P.hn
  have hn12 := P.hn12
  have hW : ∀ W, Calls Tryz.prog 108 #[.agg #[.int .i64 k.t, .int .u64 k.n, sv k.s]] W fun e w' => e = .returned (.bool true) ∧ Fr (fun _ => False) W w' := fun W => by have := well_any (w := W) k; rw [P.hk] at this; exact this
  have hW2 : ∀ W, Calls Tryz.prog 108 #[.agg #[.int .i64 v.t, .int .u64 v.n, sv v.s]] W fun e w' => e = .returned (.bool true) ∧ Fr (fun _ => False) W w' := fun W => by have := well_any (w := W) v; rw [P.hv] at this; exact this
  have hNil : ∀ W, Calls Tryz.prog 138 #[.agg #[.int .i64 v.t, .int .u64 v.n, sv v.s]] W fun e w' => e = .returned (.bool (isNilV v)) ∧ Fr (fun _ => False) W w' := fun W => isNil_any v
  have hO1 : ∀ W, Fr (fun _ => False) w W → Calls Tryz.prog 135 #[.pointer (some ⟨bt, 0, none⟩), .agg #[.int .i64 k.t, .int .u64 k.n, sv k.s]] W fun e w' => e = .returned (oneRes k) ∧ Fr (fun _ => False) W w' := fun W hW => one_any (hW.cell b0) (Nat.lt_of_lt_of_le hbt hW.size) k
  have hk' : 0 ≤ (oneV k).1.t ∧ (oneV k).1.t ≤ 7 ∧ (oneV k).1.n < 18446744073709551616 := ⟨by rw [oneV_t]; exact hb.1, by rw [oneV_t]; exact hb.2.1, Nat.lt_of_le_of_lt (oneV_n k) hb.2.2⟩
  have hF : ∀ W, Fr (fun _ => False) w W → Calls Tryz.prog 136 #[.pointer (some ⟨g, h * 6, none⟩), (oneV k).1.val, .int .i64 (oneV k).2] W fun e w' => e = .returned (.int .i64 (findI (t.find (oneV k).1 (oneV k).2))) ∧ Fr (fun _ => False) W w' := fun W hW => find_any (P.r.st (Stp.fresh (fun _ => False) o hW) (fun _ _ x => x)) P.hx P.hg P.hf _ hk' _
  unfold oneRes at hO1
  have HP : Hid (SetP w o bt bn s n xs h g t l k v) := P
  have HK' : Hid (0 ≤ (oneV k).1.t ∧ (oneV k).1.t ≤ 7 ∧ (oneV k).1.n < 18446744073709551616) := hk'
  have HB : Hid (0 ≤ k.t ∧ k.t ≤ 7 ∧ k.n < 18446744073709551616) := hb
  have c0 := gc 0 (by omega)
  have c1 := gc 1 (by omega)
  simp only [tbCells, List.getElem?_cons_zero, List.getElem?_cons_succ, Sl.v] at c0 c1
  rw [Nat.add_zero] at c0
  have hal := P.hf.al
  have hol := P.hf.ol
  have hh1 : ¬ ((h : Int) < 0) := by omega
  have hh2 : ¬ ((n : Int) ≤ (h : Int)) := by omega
  obtain ⟨N, HN⟩ : ∃ N : Nat, Hid (xs.length = N) := ⟨_, rfl⟩
  rw [HN.out] at b1 gcap hxl hx12
  have hC : ∀ W, Calls Tryz.prog 134 #[.pointer (some ⟨bn, 0, none⟩), .int .i64 2, .int .u64 k.n, .int .u64 k.n] W fun e w' => e = .returned (.bool false) ∧ w' = W := fun W => by have := cmp_any (w := W) (.pointer (some ⟨bn, 0, none⟩)) 2 k.n k.n; rw [show cmpN 2 k.n k.n = false from hnan] at this; exact this
  rw [hq] at hF
  simp only [findI] at hF
  rw [hnil] at hNil
  have HQ : Hid (t.find (oneV k).1 (oneV k).2 = none) := hq
  have HNIL : Hid (isNilV v = false) := hnil
  have HNE : Hid ((oneV k).2 ≠ t.arr.length + 1) := hne
  obtain ⟨tz, HTZ⟩ : ∃ tz : TabD, Hid (({ t with order := t.order ++ [((oneV k).1, v)] } : TabD).index (oneV k).1 t.order.length = tz) := ⟨_, rfl⟩
  rw [HTZ.out]
  clear hq hnil hne
  clear P hb hk' gc gf
  obtain ⟨k', HKK⟩ : ∃ k', Hid ((oneV k).1 = k') := ⟨_, rfl⟩
  obtain ⟨i', HII⟩ : ∃ i', Hid ((oneV k).2 = i') := ⟨_, rfl⟩
  rw [HKK.out] at hO1 hF HK'
  rw [HII.out] at hO1 hF
  obtain ⟨kt, HKT⟩ : ∃ kt, Hid (k.t = kt) := ⟨_, rfl⟩
  obtain ⟨kn, HKN⟩ : ∃ kn, Hid (k.n = kn) := ⟨_, rfl⟩
  obtain ⟨ks, HKS⟩ : ∃ ks, Hid (k.s = ks) := ⟨_, rfl⟩
  obtain ⟨vt, HVT⟩ : ∃ vt, Hid (v.t = vt) := ⟨_, rfl⟩
  obtain ⟨vn, HVN⟩ : ∃ vn, Hid (v.n = vn) := ⟨_, rfl⟩
  obtain ⟨vs, HVS⟩ : ∃ vs, Hid (v.s = vs) := ⟨_, rfl⟩
  simp only [HKT.out, HKN.out, HKS.out, HVT.out, HVN.out, HVS.out] at hW hW2 hNil hO1 h2 hnan hC
  show Calls _ _ #[_, _, .agg #[.int .i64 k.t, .int .u64 k.n, sv k.s], .agg #[.int .i64 v.t, .int .u64 v.n, sv v.s]] _ _
  rw [HKT.out, HKN.out, HKS.out, HVT.out, HVN.out, HVS.out]
  subst h2
  go_enter Tryz.func82, Tryz.ntmps82
  go_wp2_with fail
  refine (hW _).mono ?_
  rintro e w1 ⟨rfl, hw1⟩
  have f1 : Fr (fun _ => False) w w1 := (((Fr.refl _ _).alloc _).alloc _).trans hw1 (fun _ _ x => x)
  have k1 : Has w1 w.heap.size #[.int .i64 2, .int .u64 kn, sv ks] 68 := ((Has.new _ _ _).alloc _).fr hw1 (fun x => x)
  have v1 : Has w1 (w.heap.size + 1) #[.int .i64 vt, .int .u64 vn, sv vs] 68 := (Has.newC _ _ _ (by simp)).fr hw1 (fun x => x)
  obtain ⟨v10, v11, v12⟩ := Has.cells3 (v := ⟨vt, vn, vs⟩) v1
  have z1 := v1.lt
  clear hw1
  go_wp2_with fail
  refine (hW2 _).mono ?_
  rintro e w2 ⟨rfl, hw2⟩
  have f2 : Fr (fun _ => False) w w2 := f1.trans hw2 (fun _ _ x => x)
  have k2 := k1.fr hw2 (fun x => x)
  have v2 := v1.fr hw2 (fun x => x)
  obtain ⟨k20, k21, k22⟩ := Has.cells3 (v := ⟨2, kn, ks⟩) k2
  have b0' := f2.cell b0
  have b1' := f2.cell b1
  have hbt2 : bt < w2.heap.size := Nat.lt_of_lt_of_le hbt f2.size
  have z2 := v2.lt
  clear hw2 k1 v1 v10 v11 v12 z1 f1 hW hW2
  go_wp2_with fail
  refine wp_region_Y 12 1 14 (by kernel_rfl) (by kernel_rfl) (fun _ _ _ _ _ h => h) ?_
  simp only [List.take_succ_cons, List.take_zero, List.drop_succ_cons, List.drop_zero]
  repeat go_big_quiet_step (fail)
  refine wpQuiet_nil ?_
  go_wp2_with fail
  refine (hC _).mono ?_
  rintro e w9 ⟨rfl, rfl⟩
  go_wp2_with fail
  repeat go_big_quiet_step (fail)
  refine wpQuiet_nil ?_
  have fd := f2.drew
  have kd := k2.drew
  have vd := v2.drew
  go_wp2_with fail
  refine (hO1 _ fd).mono ?_
  rintro e w3 ⟨rfl, hw3⟩
  have f3 : Fr (fun _ => False) w w3 := fd.trans hw3 (fun _ _ x => x)
  have k3 := kd.fr hw3 (fun x => x)
  have v3 := vd.fr hw3 (fun x => x)
  obtain ⟨k30, k31, k32⟩ := k3.frz3
  obtain ⟨k33, k34, k35⟩ := Has.cells3 (v := ⟨2, kn, ks⟩) k3
  have z3 := k3.lt
  have y3 := v3.lt
  clear hw3 b0' b1' k2 v2 kd vd z2 k20 k21 k22
  go_wp2_with fail
  refine (hF _ (((f3.setCell (p := ⟨w.heap.size, 0, none⟩) (.inr (Nat.le_refl _)) _).setCell (p := ⟨w.heap.size, 1, none⟩) (.inr (Nat.le_refl _)) _).setCell (p := ⟨w.heap.size, 2, none⟩) (.inr (Nat.le_refl _)) _)).mono ?_
  rintro e w4 ⟨rfl, hw4⟩
  have f4 : Fr (fun _ => False) w w4 := (((f3.setCell (p := ⟨w.heap.size, 0, none⟩) (.inr (Nat.le_refl _)) _).setCell (p := ⟨w.heap.size, 1, none⟩) (.inr (Nat.le_refl _)) _).setCell (p := ⟨w.heap.size, 2, none⟩) (.inr (Nat.le_refl _)) _).trans hw4 (fun _ _ x => x)
  have k4 := (k3.put3 (.int .i64 k'.t) (.int .u64 k'.n) (sv k'.s)).fr hw4 (fun x => x)
  have v4 := (((v3.other (p := ⟨w.heap.size, 0, none⟩) (by simp) (.int .i64 k'.t)).other (p := ⟨w.heap.size, 1, none⟩) (by simp) (.int .u64 k'.n)).other (p := ⟨w.heap.size, 2, none⟩) (by simp) (sv k'.s)).fr hw4 (fun x => x)
  obtain ⟨v40, v41, v42⟩ := Has.cells3 (v := ⟨vt, vn, vs⟩) v4
  obtain ⟨k43, k44, k45⟩ := Has.cells3 (v := k') k4
  have z4 := v4.lt
  clear hw4 k3 v3 k30 k31 k32 k33 k34 k35 z3 y3
  go_wp2_with fail
  refine (hNil _).mono ?_
  rintro e w5 ⟨rfl, hw5⟩
  have f5 : Fr (fun _ => False) w w5 := f4.trans hw5 (fun _ _ x => x)
  have k5 := k4.fr hw5 (fun x => x)
  have v5 := v4.fr hw5 (fun x => x)
  have r5 := HP.out.r.st (Stp.fresh (fun _ => False) o f5) (fun _ _ x => x)
  have d0 := f5.cell c0
  have d1 := f5.cell c1
  have hgl5 : g < w5.heap.size := Nat.lt_of_lt_of_le gl f5.size
  have h33 : ¬ (32 : Int) ≤ (t.order.length : Int) := by omega
  have HR5 : Hid (TabsRep w5 o bt bn s n xs) := r5
  have hrow := (r5.one h _ HP.out.hx).ord.own
  have HROW : Hid (w5.ownsRow 0 259 6 (l.ord.v t.order.length) t.order.length (t.order.flatMap eCells)) := hrow
  have hO5 : Ow w5 o := fun j hj => HP.out.hO j (Nat.le_trans f5.size hj)
  have HO5 : Hid (Ow w5 o) := hO5
  obtain ⟨M, HM⟩ : ∃ M : Nat, Hid (t.order.length = M) := ⟨_, rfl⟩
  obtain ⟨K, HKK2⟩ : ∃ K : Nat, Hid (t.arr.length = K) := ⟨_, rfl⟩
  have hK32 : K ≤ 32 := by rw [← HKK2.out]; exact hal
  have hM32 : M < 32 := by rw [← HM.out]; exact h32
  have d0' := d0
  have d1' := d1
  rw [HM.out] at d0' h33
  rw [HKK2.out] at d1'
  obtain ⟨k50, k51, k52⟩ := Has.cells3 (v := k') k5
  obtain ⟨v50, v51, v52⟩ := Has.cells3 (v := ⟨vt, vn, vs⟩) v5
  have z5 := v5.lt
  have y5 := k5.lt
  have hownlt : ∀ j, (l.ord.v t.order.length).ownBlock = some j → j < w.heap.size := fun j hj => (HP.out.r.one h _ HP.out.hx).ord.lt (by rw [ownBlock_any _ _ _ t.order.length l.ord.c]; exact hj)
  clear hw5 k4 v4 f4 v40 v41 v42 k43 k44 k45 z4 r5 hrow hO5 d0 d1 hNil c0 c1
  go_wp2_with fail
  refine wp_region_app rowEnt 8 (by kernel_rfl) (by kernel_rfl) (fun _ _ _ _ _ h => h) _ _ _ rfl (.tmp 89) (.tmp 86) 90 91 rfl rfl rfl rfl rfl rfl (l.ord.v t.order.length) t.order.length _ HROW.out (.agg #[.int .i64 k'.t, .int .u64 k'.n, sv k'.s, .int .i64 vt, .int .u64 vn, sv vs]) rfl (by decide) (by simp [Value.cells, Value.oneCell']) (by omega) ?_
  intro g4 cap w6 q1 q2 q3 q4
  have hvv : (⟨vt, vn, vs⟩ : Vl) = v := by rw [← HVT.out, ← HVN.out, ← HVS.out]
  obtain ⟨u1, u2, u3, u4, u5⟩ := HR5.out.appOrd HP.out.hx HP.out.hg HP.out.hn ((Fr.refl _ _).alloc _) (k', ⟨vt, vn, vs⟩) (by simpa [eCells, vCells, Value.cells] using q1) q2 (by
    rcases q3 with q3 | q3
    · exact .inl q3
    · right; rw [q3]; simp) q4
  rw [hvv] at u4
  have k6 : Has w6 w.heap.size _ _ := (k5.alloc _).fr q2 (fun hk => by have := hownlt _ hk; omega)
  have v6 : Has w6 (w.heap.size + 1) _ _ := (v5.alloc _).fr q2 (fun hk => by have := hownlt _ hk; omega)
  obtain ⟨k60, k61, k62⟩ := Has.cells3 (v := k') k6
  obtain ⟨v60, v61, v62⟩ := Has.cells3 (v := ⟨vt, vn, vs⟩) v6
  have z6 := v6.lt
  have y6 := k6.lt
  have e0 := u1 0 (by omega)
  have e1 := u1 1 (by omega)
  simp only [tbCells, List.getElem?_cons_zero, List.getElem?_cons_succ, Sl.v] at e0 e1
  rw [Nat.add_zero] at e0 u4 u5
  have e0f := u2 (h * 6)
  have e1f := u2 (h * 6 + 1)
  have hgk : g ≠ w.heap.size := by omega
  have hgv : g ≠ w.heap.size + 1 := by omega
  rw [HM.out] at e0 ⊢
  rw [HKK2.out] at e1
  rw [HM.out] at u4 u5
  have hxl' : h < xs.length := by rw [HN.out]; exact hxl
  have x7 : (xs.set h (({ t with order := t.order ++ [(k', v)] } : TabD), { l with ord := ⟨some ⟨g4, 0, none⟩, cap⟩ }))[h]? = some (({ t with order := t.order ++ [(k', v)] } : TabD), { l with ord := ⟨some ⟨g4, 0, none⟩, cap⟩ }) := List.getElem?_set_self hxl'
  have hIx : Calls Tryz.prog 139 #[.pointer (some ⟨g, h * 6, none⟩), k'.val, .int .i32 M] (w6.setCell ⟨g, h * 6, none⟩ (.slice (some ⟨g4, 0, none⟩) (M + 1) cap)) fun e w' => e = .returned (.tuple #[]) ∧ TabsRep w' (upd o g4 (100 + 5 * h)) bt bn s n (xs.set h (tz, { l with ord := ⟨some ⟨g4, 0, none⟩, cap⟩ })) ∧ Stp (isB h) (w6.setCell ⟨g, h * 6, none⟩ (.slice (some ⟨g4, 0, none⟩) (M + 1) cap)) (upd o g4 (100 + 5 * h)) w' (upd o g4 (100 + 5 * h)) := by
    have hq' : t.find k' i' = none := by rw [← HKK.out, ← HII.out]; exact HQ.out
    have := index_any u4 x7 HP.out.hg HP.out.hn k' HK'.out M (i := i') (by rw [find_order]; exact hq') (find_none_arr hq')
    rw [List.set_set] at this
    rw [← HTZ.out, HKK.out, HM.out]
    exact this
  have HIX : Hid (Calls _ _ _ _ _) := hIx
  have S7 : Hid (Stp (isB h) w o (w6.setCell ⟨g, h * 6, none⟩ (.slice (some ⟨g4, 0, none⟩) (M + 1) cap)) (upd o g4 (100 + 5 * h))) := (Stp.fresh _ _ f5).trans u5
  have hne' : (i' != (K : Int) + 1) = true := by rw [bne_iff_ne, ← HII.out, ← HKK2.out]; exact HNE.out
  clear hIx u1 u2 u4 u5 x7 q1 q2 q3 q4 k6 v6 hownlt
  simp only [List.take_succ_cons, List.take_zero]
  repeat go_big_quiet_step (fail)
  refine wpQuiet_nil ⟨rfl, rfl, by simp, rfl, ?_⟩
  go_wp2_with fail
  refine HIX.out.mono ?_
  rintro e w8 ⟨rfl, R8, S8⟩
  have HR8 : Hid (SetR w o bt bn s n xs h tz w8) := ⟨_, _, R8, S7.out.trans S8⟩
  clear R8 S8 HIX
  go_wp2_with fail
  go_ret
  exact ⟨rfl, HR8.out⟩
theorem set_num_arr (P : SetP w o bt bn s n xs h g t l k v) (h2 : k.t = 2) (hnan : isNan k.n = false) (hq : t.find (oneV k).1 (oneV k).2 = none) (hnil : isNilV v = false) (h32 : t.order.length < 32) (hne : (oneV k).2 = t.arr.length + 1) :
    Calls Tryz.prog 82 #[.pointer (some ⟨bt, 0, none⟩), .int .i64 h, k.val, v.val] w fun e w' => e = .returned (.int .i64 (t.put k v).1) ∧ SetR w o bt bn s n xs h (t.put k v).2 w' := by
  have hput : t.put k v = (0, ({ t with order := t.order ++ [((oneV k).1, v)], arr := t.arr ++ [t.order.length] } : TabD).migrate) := by
    have hq9 := hq
    rw [hne] at hq9
    simp [TabD.put, P.hk, P.hv, h2, hnan, hq9, hnil, show ¬ t.order.length ≥ 32 by omega, hne]
  rw [hput]
  clear hput
  obtain ⟨g', ga, gcap, glab, gl, gc, gf⟩ := P.r.at P.hx
  rw [P.hg] at ga
  cases ga
  have hb := well_bounds P.hk P.hkn
  have b0 := P.r.here.has.cell 0
  have b1 := P.r.here.has.cell 1
  have b2 := P.r.here.has.cell 2
  simp only [List.getElem?_toArray, List.getElem?_cons_zero, List.getElem?_cons_succ, Sl.v, P.hg] at b0 b1 b2
  have hbt := P.r.here.has.lt
  have hxl := (List.getElem?_eq_some_iff.1 P.hx).1
  have hx12 : n ≤ xs.length := P.r.le
  have hn := P.hn
  have hn12 := P.hn12
  have hW : ∀ W, Calls Tryz.prog 108 #[.agg #[.int .i64 k.t, .int .u64 k.n, sv k.s]] W fun e w' => e = .returned (.bool true) ∧ Fr (fun _ => False) W w' := fun W => by have := well_any (w := W) k; rw [P.hk] at this; exact this
  have hW2 : ∀ W, Calls Tryz.prog 108 #[.agg #[.int .i64 v.t, .int .u64 v.n, sv v.s]] W fun e w' => e = .returned (.bool true) ∧ Fr (fun _ => False) W w' := fun W => by have := well_any (w := W) v; rw [P.hv] at this; exact this
  have hNil : ∀ W, Calls Tryz.prog 138 #[.agg #[.int .i64 v.t, .int .u64 v.n, sv v.s]] W fun e w' => e = .returned (.bool (isNilV v)) ∧ Fr (fun _ => False) W w' := fun W => isNil_any v
  have hO1 : ∀ W, Fr (fun _ => False) w W → Calls Tryz.prog 135 #[.pointer (some ⟨bt, 0, none⟩), .agg #[.int .i64 k.t, .int .u64 k.n, sv k.s]] W fun e w' => e = .returned (oneRes k) ∧ Fr (fun _ => False) W w' := fun W hW => one_any (hW.cell b0) (Nat.lt_of_lt_of_le hbt hW.size) k
  have hk' : 0 ≤ (oneV k).1.t ∧ (oneV k).1.t ≤ 7 ∧ (oneV k).1.n < 18446744073709551616 := ⟨by rw [oneV_t]; exact hb.1, by rw [oneV_t]; exact hb.2.1, Nat.lt_of_le_of_lt (oneV_n k) hb.2.2⟩
  have hF : ∀ W, Fr (fun _ => False) w W → Calls Tryz.prog 136 #[.pointer (some ⟨g, h * 6, none⟩), (oneV k).1.val, .int .i64 (oneV k).2] W fun e w' => e = .returned (.int .i64 (findI (t.find (oneV k).1 (oneV k).2))) ∧ Fr (fun _ => False) W w' := fun W hW => find_any (P.r.st (Stp.fresh (fun _ => False) o hW) (fun _ _ x => x)) P.hx P.hg P.hf _ hk' _
  unfold oneRes at hO1
  have HP : Hid (SetP w o bt bn s n xs h g t l k v) := P
  have HK' : Hid (0 ≤ (oneV k).1.t ∧ (oneV k).1.t ≤ 7 ∧ (oneV k).1.n < 18446744073709551616) := hk'
  have HB : Hid (0 ≤ k.t ∧ k.t ≤ 7 ∧ k.n < 18446744073709551616) := hb
  have c0 := gc 0 (by omega)
  have c1 := gc 1 (by omega)
  simp only [tbCells, List.getElem?_cons_zero, List.getElem?_cons_succ, Sl.v] at c0 c1
  rw [Nat.add_zero] at c0
  have hal := P.hf.al
  have hol := P.hf.ol
  have hh1 : ¬ ((h : Int) < 0) := by omega
  have hh2 : ¬ ((n : Int) ≤ (h : Int)) := by omega
  obtain ⟨N, HN⟩ : ∃ N : Nat, Hid (xs.length = N) := ⟨_, rfl⟩
  rw [HN.out] at b1 gcap hxl hx12
  have hC : ∀ W, Calls Tryz.prog 134 #[.pointer (some ⟨bn, 0, none⟩), .int .i64 2, .int .u64 k.n, .int .u64 k.n] W fun e w' => e = .returned (.bool false) ∧ w' = W := fun W => by have := cmp_any (w := W) (.pointer (some ⟨bn, 0, none⟩)) 2 k.n k.n; rw [show cmpN 2 k.n k.n = false from hnan] at this; exact this
  rw [hq] at hF
  simp only [findI] at hF
  rw [hnil] at hNil
  have HQ : Hid (t.find (oneV k).1 (oneV k).2 = none) := hq
  have HNIL : Hid (isNilV v = false) := hnil
  have HNE : Hid ((oneV k).2 = t.arr.length + 1) := hne
  obtain ⟨tz, HTZ⟩ : ∃ tz : TabD, Hid (({ t with order := t.order ++ [((oneV k).1, v)], arr := t.arr ++ [t.order.length] } : TabD).migrate = tz) := ⟨_, rfl⟩
  rw [HTZ.out]
  clear hq hnil hne
  clear P hb hk' gc gf
  obtain ⟨k', HKK⟩ : ∃ k', Hid ((oneV k).1 = k') := ⟨_, rfl⟩
  obtain ⟨i', HII⟩ : ∃ i', Hid ((oneV k).2 = i') := ⟨_, rfl⟩
  rw [HKK.out] at hO1 hF HK'
  rw [HII.out] at hO1 hF
  obtain ⟨kt, HKT⟩ : ∃ kt, Hid (k.t = kt) := ⟨_, rfl⟩
  obtain ⟨kn, HKN⟩ : ∃ kn, Hid (k.n = kn) := ⟨_, rfl⟩
  obtain ⟨ks, HKS⟩ : ∃ ks, Hid (k.s = ks) := ⟨_, rfl⟩
  obtain ⟨vt, HVT⟩ : ∃ vt, Hid (v.t = vt) := ⟨_, rfl⟩
  obtain ⟨vn, HVN⟩ : ∃ vn, Hid (v.n = vn) := ⟨_, rfl⟩
  obtain ⟨vs, HVS⟩ : ∃ vs, Hid (v.s = vs) := ⟨_, rfl⟩
  simp only [HKT.out, HKN.out, HKS.out, HVT.out, HVN.out, HVS.out] at hW hW2 hNil hO1 h2 hnan hC
  show Calls _ _ #[_, _, .agg #[.int .i64 k.t, .int .u64 k.n, sv k.s], .agg #[.int .i64 v.t, .int .u64 v.n, sv v.s]] _ _
  rw [HKT.out, HKN.out, HKS.out, HVT.out, HVN.out, HVS.out]
  subst h2
  go_enter Tryz.func82, Tryz.ntmps82
  go_wp2_with fail
  refine (hW _).mono ?_
  rintro e w1 ⟨rfl, hw1⟩
  have f1 : Fr (fun _ => False) w w1 := (((Fr.refl _ _).alloc _).alloc _).trans hw1 (fun _ _ x => x)
  have k1 : Has w1 w.heap.size #[.int .i64 2, .int .u64 kn, sv ks] 68 := ((Has.new _ _ _).alloc _).fr hw1 (fun x => x)
  have v1 : Has w1 (w.heap.size + 1) #[.int .i64 vt, .int .u64 vn, sv vs] 68 := (Has.newC _ _ _ (by simp)).fr hw1 (fun x => x)
  obtain ⟨v10, v11, v12⟩ := Has.cells3 (v := ⟨vt, vn, vs⟩) v1
  have z1 := v1.lt
  clear hw1
  go_wp2_with fail
  refine (hW2 _).mono ?_
  rintro e w2 ⟨rfl, hw2⟩
  have f2 : Fr (fun _ => False) w w2 := f1.trans hw2 (fun _ _ x => x)
  have k2 := k1.fr hw2 (fun x => x)
  have v2 := v1.fr hw2 (fun x => x)
  obtain ⟨k20, k21, k22⟩ := Has.cells3 (v := ⟨2, kn, ks⟩) k2
  have b0' := f2.cell b0
  have b1' := f2.cell b1
  have hbt2 : bt < w2.heap.size := Nat.lt_of_lt_of_le hbt f2.size
  have z2 := v2.lt
  clear hw2 k1 v1 v10 v11 v12 z1 f1 hW hW2
  go_wp2_with fail
  refine wp_region_Y 12 1 14 (by kernel_rfl) (by kernel_rfl) (fun _ _ _ _ _ h => h) ?_
  simp only [List.take_succ_cons, List.take_zero, List.drop_succ_cons, List.drop_zero]
  repeat go_big_quiet_step (fail)
  refine wpQuiet_nil ?_
  go_wp2_with fail
  refine (hC _).mono ?_
  rintro e w9 ⟨rfl, rfl⟩
  go_wp2_with fail
  repeat go_big_quiet_step (fail)
  refine wpQuiet_nil ?_
  have fd := f2.drew
  have kd := k2.drew
  have vd := v2.drew
  go_wp2_with fail
  refine (hO1 _ fd).mono ?_
  rintro e w3 ⟨rfl, hw3⟩
  have f3 : Fr (fun _ => False) w w3 := fd.trans hw3 (fun _ _ x => x)
  have k3 := kd.fr hw3 (fun x => x)
  have v3 := vd.fr hw3 (fun x => x)
  obtain ⟨k30, k31, k32⟩ := k3.frz3
  obtain ⟨k33, k34, k35⟩ := Has.cells3 (v := ⟨2, kn, ks⟩) k3
  have z3 := k3.lt
  have y3 := v3.lt
  clear hw3 b0' b1' k2 v2 kd vd z2 k20 k21 k22
  go_wp2_with fail
  refine (hF _ (((f3.setCell (p := ⟨w.heap.size, 0, none⟩) (.inr (Nat.le_refl _)) _).setCell (p := ⟨w.heap.size, 1, none⟩) (.inr (Nat.le_refl _)) _).setCell (p := ⟨w.heap.size, 2, none⟩) (.inr (Nat.le_refl _)) _)).mono ?_
  rintro e w4 ⟨rfl, hw4⟩
  have f4 : Fr (fun _ => False) w w4 := (((f3.setCell (p := ⟨w.heap.size, 0, none⟩) (.inr (Nat.le_refl _)) _).setCell (p := ⟨w.heap.size, 1, none⟩) (.inr (Nat.le_refl _)) _).setCell (p := ⟨w.heap.size, 2, none⟩) (.inr (Nat.le_refl _)) _).trans hw4 (fun _ _ x => x)
  have k4 := (k3.put3 (.int .i64 k'.t) (.int .u64 k'.n) (sv k'.s)).fr hw4 (fun x => x)
  have v4 := (((v3.other (p := ⟨w.heap.size, 0, none⟩) (by simp) (.int .i64 k'.t)).other (p := ⟨w.heap.size, 1, none⟩) (by simp) (.int .u64 k'.n)).other (p := ⟨w.heap.size, 2, none⟩) (by simp) (sv k'.s)).fr hw4 (fun x => x)
  obtain ⟨v40, v41, v42⟩ := Has.cells3 (v := ⟨vt, vn, vs⟩) v4
  obtain ⟨k43, k44, k45⟩ := Has.cells3 (v := k') k4
  have z4 := v4.lt
  clear hw4 k3 v3 k30 k31 k32 k33 k34 k35 z3 y3
  go_wp2_with fail
  refine (hNil _).mono ?_
  rintro e w5 ⟨rfl, hw5⟩
  have f5 : Fr (fun _ => False) w w5 := f4.trans hw5 (fun _ _ x => x)
  have k5 := k4.fr hw5 (fun x => x)
  have v5 := v4.fr hw5 (fun x => x)
  have r5 := HP.out.r.st (Stp.fresh (fun _ => False) o f5) (fun _ _ x => x)
  have d0 := f5.cell c0
  have d1 := f5.cell c1
  have hgl5 : g < w5.heap.size := Nat.lt_of_lt_of_le gl f5.size
  have h33 : ¬ (32 : Int) ≤ (t.order.length : Int) := by omega
  have HR5 : Hid (TabsRep w5 o bt bn s n xs) := r5
  have hrow := (r5.one h _ HP.out.hx).ord.own
  have HROW : Hid (w5.ownsRow 0 259 6 (l.ord.v t.order.length) t.order.length (t.order.flatMap eCells)) := hrow
  have hO5 : Ow w5 o := fun j hj => HP.out.hO j (Nat.le_trans f5.size hj)
  have HO5 : Hid (Ow w5 o) := hO5
  obtain ⟨M, HM⟩ : ∃ M : Nat, Hid (t.order.length = M) := ⟨_, rfl⟩
  obtain ⟨K, HKK2⟩ : ∃ K : Nat, Hid (t.arr.length = K) := ⟨_, rfl⟩
  have hK32 : K ≤ 32 := by rw [← HKK2.out]; exact hal
  have hM32 : M < 32 := by rw [← HM.out]; exact h32
  have d0' := d0
  have d1' := d1
  rw [HM.out] at d0' h33
  rw [HKK2.out] at d1'
  obtain ⟨k50, k51, k52⟩ := Has.cells3 (v := k') k5
  obtain ⟨v50, v51, v52⟩ := Has.cells3 (v := ⟨vt, vn, vs⟩) v5
  have z5 := v5.lt
  have y5 := k5.lt
  have hownlt : ∀ j, (l.ord.v t.order.length).ownBlock = some j → j < w.heap.size := fun j hj => (HP.out.r.one h _ HP.out.hx).ord.lt (by rw [ownBlock_any _ _ _ t.order.length l.ord.c]; exact hj)
  clear hw5 k4 v4 f4 v40 v41 v42 k43 k44 k45 z4 r5 hrow hO5 d0 d1 hNil c0 c1
  go_wp2_with fail
  refine wp_region_app rowEnt 8 (by kernel_rfl) (by kernel_rfl) (fun _ _ _ _ _ h => h) _ _ _ rfl (.tmp 89) (.tmp 86) 90 91 rfl rfl rfl rfl rfl rfl (l.ord.v t.order.length) t.order.length _ HROW.out (.agg #[.int .i64 k'.t, .int .u64 k'.n, sv k'.s, .int .i64 vt, .int .u64 vn, sv vs]) rfl (by decide) (by simp [Value.cells, Value.oneCell']) (by omega) ?_
  intro g4 cap w6 q1 q2 q3 q4
  have hvv : (⟨vt, vn, vs⟩ : Vl) = v := by rw [← HVT.out, ← HVN.out, ← HVS.out]
  obtain ⟨u1, u2, u3, u4, u5⟩ := HR5.out.appOrd HP.out.hx HP.out.hg HP.out.hn ((Fr.refl _ _).alloc _) (k', ⟨vt, vn, vs⟩) (by simpa [eCells, vCells, Value.cells] using q1) q2 (by
    rcases q3 with q3 | q3
    · exact .inl q3
    · right; rw [q3]; simp) q4
  rw [hvv] at u4
  have k6 : Has w6 w.heap.size _ _ := (k5.alloc _).fr q2 (fun hk => by have := hownlt _ hk; omega)
  have v6 : Has w6 (w.heap.size + 1) _ _ := (v5.alloc _).fr q2 (fun hk => by have := hownlt _ hk; omega)
  obtain ⟨k60, k61, k62⟩ := Has.cells3 (v := k') k6
  obtain ⟨v60, v61, v62⟩ := Has.cells3 (v := ⟨vt, vn, vs⟩) v6
  have z6 := v6.lt
  have y6 := k6.lt
  have e0 := u1 0 (by omega)
  have e1 := u1 1 (by omega)
  simp only [tbCells, List.getElem?_cons_zero, List.getElem?_cons_succ, Sl.v] at e0 e1
  rw [Nat.add_zero] at e0 u4 u5
  have e0f := u2 (h * 6)
  have e1f := u2 (h * 6 + 1)
  have hgk : g ≠ w.heap.size := by omega
  have hgv : g ≠ w.heap.size + 1 := by omega
  rw [HM.out] at e0 ⊢
  rw [HKK2.out] at e1
  rw [HM.out] at u4 u5
  have hxl' : h < xs.length := by rw [HN.out]; exact hxl
  have x7 : (xs.set h (({ t with order := t.order ++ [(k', v)] } : TabD), { l with ord := ⟨some ⟨g4, 0, none⟩, cap⟩ }))[h]? = some (({ t with order := t.order ++ [(k', v)] } : TabD), { l with ord := ⟨some ⟨g4, 0, none⟩, cap⟩ }) := List.getElem?_set_self hxl'
  have x7' := x7
  have r7 := u4
  have O7 : Ow (w6.setCell ⟨g, h * 6, none⟩ (.slice (some ⟨g4, 0, none⟩) (M + 1) cap)) (upd o g4 (100 + 5 * h)) := u5.hi HO5.out
  have hrow7 := (r7.one h _ x7).arr.own
  have HROW7 : Hid ((w6.setCell ⟨g, h * 6, none⟩ (.slice (some ⟨g4, 0, none⟩) (M + 1) cap)).ownsRow 0 21 1 (l.arr.v t.arr.length) t.arr.length (t.arr.flatMap aCells)) := hrow7
  have HR7 : Hid (TabsRep (w6.setCell ⟨g, h * 6, none⟩ (.slice (some ⟨g4, 0, none⟩) (M + 1) cap)) (upd o g4 (100 + 5 * h)) bt bn s n (xs.set h (({ t with order := t.order ++ [(k', v)] } : TabD), { l with ord := ⟨some ⟨g4, 0, none⟩, cap⟩ }))) := r7
  have HX7 : Hid ((xs.set h (({ t with order := t.order ++ [(k', v)] } : TabD), { l with ord := ⟨some ⟨g4, 0, none⟩, cap⟩ }))[h]? = some (({ t with order := t.order ++ [(k', v)] } : TabD), { l with ord := ⟨some ⟨g4, 0, none⟩, cap⟩ })) := x7
  have HO7 : Hid (Ow (w6.setCell ⟨g, h * 6, none⟩ (.slice (some ⟨g4, 0, none⟩) (M + 1) cap)) (upd o g4 (100 + 5 * h))) := O7
  have S7 : Hid (Stp (isB h) w o (w6.setCell ⟨g, h * 6, none⟩ (.slice (some ⟨g4, 0, none⟩) (M + 1) cap)) (upd o g4 (100 + 5 * h))) := (Stp.fresh _ _ f5).trans u5
  have hne' : i' = (K : Int) + 1 := by rw [← HII.out, ← HKK2.out]; exact HNE.out
  subst hne'
  clear u1 u2 u4 u5 x7 x7' r7 O7 hrow7 q1 q2 q3 q4 k6 v6 hownlt
  simp only [List.take_succ_cons, List.take_zero]
  repeat go_big_quiet_step (fail)
  refine wpQuiet_nil ⟨rfl, rfl, by simp, rfl, ?_⟩
  go_wp2_with (at_builtin; go_must (refine wpList_app rowI32 _ rfl (.tmp 117) (.tmp 119) rfl (l.arr.v t.arr.length) t.arr.length (t.arr.flatMap aCells) (by rw [HKK2.out]; rfl) (owns_alloc HROW7.out _) _ [.int .i32 M] rfl (Has.newSet _ _ _ _ _) rfl ?one ?bd ?go))
  case one => simp [Value.oneCell']
  case bd => rw [HKK2.out]; omega
  case go =>
    intro g8 cap8 w8 q1 q2 q3 q4
    obtain ⟨u1, u2, u3, u4, u5⟩ := HR7.out.appArr HX7.out HP.out.hg HP.out.hn ((Fr.refl _ _).alloc _) M q1 q2 (by
      rcases q3 with q3 | q3
      · exact .inl q3
      · right; rw [q3]; simp) q4
    rw [List.set_set] at u4
    have v1 := u1 1 (by omega)
    simp only [tbCells, List.getElem?_cons_succ, List.getElem?_cons_zero, Sl.v] at v1
    have v1f := u2 (h * 6 + 1)
    have hf8 : TFit ({ t with order := t.order ++ [(k', v)], arr := t.arr ++ [M] } : TabD) := by
      have := HP.out.hf.appArr h32 (k', v) HNIL.out
      rw [HM.out] at this
      exact this
    have x8 : (xs.set h (({ t with order := t.order ++ [(k', v)], arr := t.arr ++ [M] } : TabD), ({ l with ord := ⟨some ⟨g4, 0, none⟩, cap⟩, arr := ⟨some ⟨g8, 0, none⟩, cap8⟩ } : TbL)))[h]? = some (({ t with order := t.order ++ [(k', v)], arr := t.arr ++ [M] } : TabD), ({ l with ord := ⟨some ⟨g4, 0, none⟩, cap⟩, arr := ⟨some ⟨g8, 0, none⟩, cap8⟩ } : TbL)) := List.getElem?_set_self hxl'
    have hMg := migrate_any u4 x8 HP.out.hg HP.out.hn hf8 (u5.hi HO7.out)
    rw [HKK2.out] at hMg v1 u5 ⊢
    have HMG : Hid (Calls _ _ _ _ _) := hMg
    have S8 : Hid (Stp _ _ _ _ _) := S7.out.trans u5
    clear q1 q2 q3 q4 u1 u2 u4 u5 hMg x8 hf8
    go_wp2_with fail
    refine HMG.out.mono ?_
    rintro e w9 ⟨rfl, o9, l9, R9, S9⟩
    rw [List.set_set] at R9
    have HR9 : Hid (SetR w o bt bn s n xs h tz w9) := ⟨o9, l9, by rw [← HTZ.out, HKK.out, HM.out]; exact R9, S8.out.trans S9⟩
    clear R9 S9 HMG
    go_wp2_with fail
    go_ret
    exact ⟨rfl, HR9.out⟩
theorem set_oth_turn (P : SetP w o bt bn s n xs h g t l k v) (h0 : k.t ≠ 0) (h2 : k.t ≠ 2) {p : Nat} (hq : t.find (oneV k).1 (oneV k).2 = some p) :
    Calls Tryz.prog 82 #[.pointer (some ⟨bt, 0, none⟩), .int .i64 h, k.val, v.val] w fun e w' => e = .returned (.int .i64 (t.put k v).1) ∧ SetR w o bt bn s n xs h (t.put k v).2 w' := by
  have hput : t.put k v = (0, t.turn p v) := by
    simp [TabD.put, P.hk, P.hv, h0, h2, hq]
  rw [hput]
  clear hput
  obtain ⟨g', ga, gcap, glab, gl, gc, gf⟩ := P.r.at P.hx
  rw [P.hg] at ga
  cases ga
  have hb := well_bounds P.hk P.hkn
  have b0 := P.r.here.has.cell 0
  have b1 := P.r.here.has.cell 1
  have b2 := P.r.here.has.cell 2
  simp only [List.getElem?_toArray, List.getElem?_cons_zero, List.getElem?_cons_succ, Sl.v, P.hg] at b0 b1 b2
  have hbt := P.r.here.has.lt
  have hxl := (List.getElem?_eq_some_iff.1 P.hx).1
  have hx12 : n ≤ xs.length := P.r.le
  have hn := P.hn
  have hn12 := P.hn12
  have hW : ∀ W, Calls Tryz.prog 108 #[.agg #[.int .i64 k.t, .int .u64 k.n, sv k.s]] W fun e w' => e = .returned (.bool true) ∧ Fr (fun _ => False) W w' := fun W => by have := well_any (w := W) k; rw [P.hk] at this; exact this
  have hW2 : ∀ W, Calls Tryz.prog 108 #[.agg #[.int .i64 v.t, .int .u64 v.n, sv v.s]] W fun e w' => e = .returned (.bool true) ∧ Fr (fun _ => False) W w' := fun W => by have := well_any (w := W) v; rw [P.hv] at this; exact this
  have hNil : ∀ W, Calls Tryz.prog 138 #[.agg #[.int .i64 v.t, .int .u64 v.n, sv v.s]] W fun e w' => e = .returned (.bool (isNilV v)) ∧ Fr (fun _ => False) W w' := fun W => isNil_any v
  have hO1 : ∀ W, Fr (fun _ => False) w W → Calls Tryz.prog 135 #[.pointer (some ⟨bt, 0, none⟩), .agg #[.int .i64 k.t, .int .u64 k.n, sv k.s]] W fun e w' => e = .returned (oneRes k) ∧ Fr (fun _ => False) W w' := fun W hW => one_any (hW.cell b0) (Nat.lt_of_lt_of_le hbt hW.size) k
  have hk' : 0 ≤ (oneV k).1.t ∧ (oneV k).1.t ≤ 7 ∧ (oneV k).1.n < 18446744073709551616 := ⟨by rw [oneV_t]; exact hb.1, by rw [oneV_t]; exact hb.2.1, Nat.lt_of_le_of_lt (oneV_n k) hb.2.2⟩
  have hF : ∀ W, Fr (fun _ => False) w W → Calls Tryz.prog 136 #[.pointer (some ⟨g, h * 6, none⟩), (oneV k).1.val, .int .i64 (oneV k).2] W fun e w' => e = .returned (.int .i64 (findI (t.find (oneV k).1 (oneV k).2))) ∧ Fr (fun _ => False) W w' := fun W hW => find_any (P.r.st (Stp.fresh (fun _ => False) o hW) (fun _ _ x => x)) P.hx P.hg P.hf _ hk' _
  unfold oneRes at hO1
  have HP : Hid (SetP w o bt bn s n xs h g t l k v) := P
  have HK' : Hid (0 ≤ (oneV k).1.t ∧ (oneV k).1.t ≤ 7 ∧ (oneV k).1.n < 18446744073709551616) := hk'
  have HB : Hid (0 ≤ k.t ∧ k.t ≤ 7 ∧ k.n < 18446744073709551616) := hb
  have c0 := gc 0 (by omega)
  have c1 := gc 1 (by omega)
  simp only [tbCells, List.getElem?_cons_zero, List.getElem?_cons_succ, Sl.v] at c0 c1
  rw [Nat.add_zero] at c0
  have hal := P.hf.al
  have hol := P.hf.ol
  have hh1 : ¬ ((h : Int) < 0) := by omega
  have hh2 : ¬ ((n : Int) ≤ (h : Int)) := by omega
  obtain ⟨N, HN⟩ : ∃ N : Nat, Hid (xs.length = N) := ⟨_, rfl⟩
  rw [HN.out] at b1 gcap hxl hx12
  have hc0 : (k.t == 0) = false := by simpa using h0
  have hc2 : (k.t == 2) = false := by simpa using h2
  have hp : p < t.order.length := P.hf.find hq
  rw [hq] at hF
  simp only [findI] at hF
  have hT : ∀ W, Fr (fun _ => False) w W → Calls Tryz.prog 137 #[.pointer (some ⟨g, h * 6, none⟩), .int .i64 p, .agg #[.int .i64 v.t, .int .u64 v.n, sv v.s]] W fun e w' => e = .returned (.tuple #[]) ∧ TabsRep w' o bt bn s n (xs.set h (t.turn p v, l)) ∧ Stp (isB h) W o w' o := fun W hW => turn_any (P.r.st (Stp.fresh (fun _ => False) o hW) (fun _ _ x => x)) P.hx P.hg P.hf P.hn hp v
  have HTT : Hid (t.turn p v = t.turn p v) := rfl
  generalize t.turn p v = tt at hT ⊢
  clear HTT
  clear hq h0 h2
  clear P hb hk' gc gf
  obtain ⟨k', HKK⟩ : ∃ k', Hid ((oneV k).1 = k') := ⟨_, rfl⟩
  obtain ⟨i', HII⟩ : ∃ i', Hid ((oneV k).2 = i') := ⟨_, rfl⟩
  rw [HKK.out] at hO1 hF HK'
  rw [HII.out] at hO1 hF
  obtain ⟨kt, HKT⟩ : ∃ kt, Hid (k.t = kt) := ⟨_, rfl⟩
  obtain ⟨kn, HKN⟩ : ∃ kn, Hid (k.n = kn) := ⟨_, rfl⟩
  obtain ⟨ks, HKS⟩ : ∃ ks, Hid (k.s = ks) := ⟨_, rfl⟩
  obtain ⟨vt, HVT⟩ : ∃ vt, Hid (v.t = vt) := ⟨_, rfl⟩
  obtain ⟨vn, HVN⟩ : ∃ vn, Hid (v.n = vn) := ⟨_, rfl⟩
  obtain ⟨vs, HVS⟩ : ∃ vs, Hid (v.s = vs) := ⟨_, rfl⟩
  simp only [HKT.out, HKN.out, HKS.out, HVT.out, HVN.out, HVS.out] at hW hW2 hNil hO1 hc0 hc2 hT
  show Calls _ _ #[_, _, .agg #[.int .i64 k.t, .int .u64 k.n, sv k.s], .agg #[.int .i64 v.t, .int .u64 v.n, sv v.s]] _ _
  rw [HKT.out, HKN.out, HKS.out, HVT.out, HVN.out, HVS.out]
  skip
  go_enter Tryz.func82, Tryz.ntmps82
  go_wp2_with fail
  refine (hW _).mono ?_
  rintro e w1 ⟨rfl, hw1⟩
  have f1 : Fr (fun _ => False) w w1 := (((Fr.refl _ _).alloc _).alloc _).trans hw1 (fun _ _ x => x)
  have k1 : Has w1 w.heap.size #[.int .i64 kt, .int .u64 kn, sv ks] 68 := ((Has.new _ _ _).alloc _).fr hw1 (fun x => x)
  have v1 : Has w1 (w.heap.size + 1) #[.int .i64 vt, .int .u64 vn, sv vs] 68 := (Has.newC _ _ _ (by simp)).fr hw1 (fun x => x)
  obtain ⟨v10, v11, v12⟩ := Has.cells3 (v := ⟨vt, vn, vs⟩) v1
  have z1 := v1.lt
  clear hw1
  go_wp2_with fail
  refine (hW2 _).mono ?_
  rintro e w2 ⟨rfl, hw2⟩
  have f2 : Fr (fun _ => False) w w2 := f1.trans hw2 (fun _ _ x => x)
  have k2 := k1.fr hw2 (fun x => x)
  have v2 := v1.fr hw2 (fun x => x)
  obtain ⟨k20, k21, k22⟩ := Has.cells3 (v := ⟨kt, kn, ks⟩) k2
  have b0' := f2.cell b0
  have b1' := f2.cell b1
  have hbt2 : bt < w2.heap.size := Nat.lt_of_lt_of_le hbt f2.size
  have z2 := v2.lt
  clear hw2 k1 v1 v10 v11 v12 z1 f1 hW hW2
  go_wp2_with fail
  refine wp_region_Y 12 1 14 (by kernel_rfl) (by kernel_rfl) (fun _ _ _ _ _ h => h) ?_
  simp only [List.take_succ_cons, List.take_zero, List.drop_succ_cons, List.drop_zero]
  repeat go_big_quiet_step (fail)
  refine wpQuiet_nil ?_
  go_wp2_with fail
  repeat go_big_quiet_step (fail)
  refine wpQuiet_nil ?_
  have fd := f2.drew
  have kd := k2.drew
  have vd := v2.drew
  go_wp2_with fail
  refine (hO1 _ fd).mono ?_
  rintro e w3 ⟨rfl, hw3⟩
  have f3 : Fr (fun _ => False) w w3 := fd.trans hw3 (fun _ _ x => x)
  have k3 := kd.fr hw3 (fun x => x)
  have v3 := vd.fr hw3 (fun x => x)
  obtain ⟨k30, k31, k32⟩ := k3.frz3
  obtain ⟨k33, k34, k35⟩ := Has.cells3 (v := ⟨kt, kn, ks⟩) k3
  have z3 := k3.lt
  have y3 := v3.lt
  clear hw3 b0' b1' k2 v2 kd vd z2 k20 k21 k22
  go_wp2_with fail
  refine (hF _ (((f3.setCell (p := ⟨w.heap.size, 0, none⟩) (.inr (Nat.le_refl _)) _).setCell (p := ⟨w.heap.size, 1, none⟩) (.inr (Nat.le_refl _)) _).setCell (p := ⟨w.heap.size, 2, none⟩) (.inr (Nat.le_refl _)) _)).mono ?_
  rintro e w4 ⟨rfl, hw4⟩
  have f4 : Fr (fun _ => False) w w4 := (((f3.setCell (p := ⟨w.heap.size, 0, none⟩) (.inr (Nat.le_refl _)) _).setCell (p := ⟨w.heap.size, 1, none⟩) (.inr (Nat.le_refl _)) _).setCell (p := ⟨w.heap.size, 2, none⟩) (.inr (Nat.le_refl _)) _).trans hw4 (fun _ _ x => x)
  have k4 := (k3.put3 (.int .i64 k'.t) (.int .u64 k'.n) (sv k'.s)).fr hw4 (fun x => x)
  have v4 := (((v3.other (p := ⟨w.heap.size, 0, none⟩) (by simp) (.int .i64 k'.t)).other (p := ⟨w.heap.size, 1, none⟩) (by simp) (.int .u64 k'.n)).other (p := ⟨w.heap.size, 2, none⟩) (by simp) (sv k'.s)).fr hw4 (fun x => x)
  obtain ⟨v40, v41, v42⟩ := Has.cells3 (v := ⟨vt, vn, vs⟩) v4
  obtain ⟨k43, k44, k45⟩ := Has.cells3 (v := k') k4
  have z4 := v4.lt
  clear hw4 k3 v3 k30 k31 k32 k33 k34 k35 z3 y3
  go_wp2_with fail
  refine (hT _ f4).mono ?_
  rintro e w5 ⟨rfl, R5, S5⟩
  have HR5 : Hid (TabsRep w5 o bt bn s n (xs.set h (tt, l))) := R5
  have HS5 : Hid (Stp (isB h) w4 o w5 o) := S5
  clear R5 S5
  go_wp2_with fail
  go_ret
  exact ⟨rfl, o, l, HR5.out, (Stp.fresh _ _ f4).trans HS5.out⟩
theorem set_oth_nil (P : SetP w o bt bn s n xs h g t l k v) (h0 : k.t ≠ 0) (h2 : k.t ≠ 2) (hq : t.find (oneV k).1 (oneV k).2 = none) (hnil : isNilV v = true) :
    Calls Tryz.prog 82 #[.pointer (some ⟨bt, 0, none⟩), .int .i64 h, k.val, v.val] w fun e w' => e = .returned (.int .i64 (t.put k v).1) ∧ SetR w o bt bn s n xs h (t.put k v).2 w' := by
  have hput : t.put k v = (0, t) := by
    simp [TabD.put, P.hk, P.hv, h0, h2, hq, hnil]
  rw [hput]
  clear hput
  obtain ⟨g', ga, gcap, glab, gl, gc, gf⟩ := P.r.at P.hx
  rw [P.hg] at ga
  cases ga
  have hb := well_bounds P.hk P.hkn
  have b0 := P.r.here.has.cell 0
  have b1 := P.r.here.has.cell 1
  have b2 := P.r.here.has.cell 2
  simp only [List.getElem?_toArray, List.getElem?_cons_zero, List.getElem?_cons_succ, Sl.v, P.hg] at b0 b1 b2
  have hbt := P.r.here.has.lt
  have hxl := (List.getElem?_eq_some_iff.1 P.hx).1
  have hx12 : n ≤ xs.length := P.r.le
  have hn := P.hn
  have hn12 := P.hn12
  have hW : ∀ W, Calls Tryz.prog 108 #[.agg #[.int .i64 k.t, .int .u64 k.n, sv k.s]] W fun e w' => e = .returned (.bool true) ∧ Fr (fun _ => False) W w' := fun W => by have := well_any (w := W) k; rw [P.hk] at this; exact this
  have hW2 : ∀ W, Calls Tryz.prog 108 #[.agg #[.int .i64 v.t, .int .u64 v.n, sv v.s]] W fun e w' => e = .returned (.bool true) ∧ Fr (fun _ => False) W w' := fun W => by have := well_any (w := W) v; rw [P.hv] at this; exact this
  have hNil : ∀ W, Calls Tryz.prog 138 #[.agg #[.int .i64 v.t, .int .u64 v.n, sv v.s]] W fun e w' => e = .returned (.bool (isNilV v)) ∧ Fr (fun _ => False) W w' := fun W => isNil_any v
  have hO1 : ∀ W, Fr (fun _ => False) w W → Calls Tryz.prog 135 #[.pointer (some ⟨bt, 0, none⟩), .agg #[.int .i64 k.t, .int .u64 k.n, sv k.s]] W fun e w' => e = .returned (oneRes k) ∧ Fr (fun _ => False) W w' := fun W hW => one_any (hW.cell b0) (Nat.lt_of_lt_of_le hbt hW.size) k
  have hk' : 0 ≤ (oneV k).1.t ∧ (oneV k).1.t ≤ 7 ∧ (oneV k).1.n < 18446744073709551616 := ⟨by rw [oneV_t]; exact hb.1, by rw [oneV_t]; exact hb.2.1, Nat.lt_of_le_of_lt (oneV_n k) hb.2.2⟩
  have hF : ∀ W, Fr (fun _ => False) w W → Calls Tryz.prog 136 #[.pointer (some ⟨g, h * 6, none⟩), (oneV k).1.val, .int .i64 (oneV k).2] W fun e w' => e = .returned (.int .i64 (findI (t.find (oneV k).1 (oneV k).2))) ∧ Fr (fun _ => False) W w' := fun W hW => find_any (P.r.st (Stp.fresh (fun _ => False) o hW) (fun _ _ x => x)) P.hx P.hg P.hf _ hk' _
  unfold oneRes at hO1
  have HP : Hid (SetP w o bt bn s n xs h g t l k v) := P
  have HK' : Hid (0 ≤ (oneV k).1.t ∧ (oneV k).1.t ≤ 7 ∧ (oneV k).1.n < 18446744073709551616) := hk'
  have HB : Hid (0 ≤ k.t ∧ k.t ≤ 7 ∧ k.n < 18446744073709551616) := hb
  have c0 := gc 0 (by omega)
  have c1 := gc 1 (by omega)
  simp only [tbCells, List.getElem?_cons_zero, List.getElem?_cons_succ, Sl.v] at c0 c1
  rw [Nat.add_zero] at c0
  have hal := P.hf.al
  have hol := P.hf.ol
  have hh1 : ¬ ((h : Int) < 0) := by omega
  have hh2 : ¬ ((n : Int) ≤ (h : Int)) := by omega
  obtain ⟨N, HN⟩ : ∃ N : Nat, Hid (xs.length = N) := ⟨_, rfl⟩
  rw [HN.out] at b1 gcap hxl hx12
  have hc0 : (k.t == 0) = false := by simpa using h0
  have hc2 : (k.t == 2) = false := by simpa using h2
  rw [hq] at hF
  simp only [findI] at hF
  rw [hnil] at hNil
  clear hq hnil h0 h2
  clear P hb hk' gc gf
  obtain ⟨k', HKK⟩ : ∃ k', Hid ((oneV k).1 = k') := ⟨_, rfl⟩
  obtain ⟨i', HII⟩ : ∃ i', Hid ((oneV k).2 = i') := ⟨_, rfl⟩
  rw [HKK.out] at hO1 hF HK'
  rw [HII.out] at hO1 hF
  obtain ⟨kt, HKT⟩ : ∃ kt, Hid (k.t = kt) := ⟨_, rfl⟩
  obtain ⟨kn, HKN⟩ : ∃ kn, Hid (k.n = kn) := ⟨_, rfl⟩
  obtain ⟨ks, HKS⟩ : ∃ ks, Hid (k.s = ks) := ⟨_, rfl⟩
  obtain ⟨vt, HVT⟩ : ∃ vt, Hid (v.t = vt) := ⟨_, rfl⟩
  obtain ⟨vn, HVN⟩ : ∃ vn, Hid (v.n = vn) := ⟨_, rfl⟩
  obtain ⟨vs, HVS⟩ : ∃ vs, Hid (v.s = vs) := ⟨_, rfl⟩
  simp only [HKT.out, HKN.out, HKS.out, HVT.out, HVN.out, HVS.out] at hW hW2 hNil hO1 hc0 hc2
  show Calls _ _ #[_, _, .agg #[.int .i64 k.t, .int .u64 k.n, sv k.s], .agg #[.int .i64 v.t, .int .u64 v.n, sv v.s]] _ _
  rw [HKT.out, HKN.out, HKS.out, HVT.out, HVN.out, HVS.out]
  skip
  go_enter Tryz.func82, Tryz.ntmps82
  go_wp2_with fail
  refine (hW _).mono ?_
  rintro e w1 ⟨rfl, hw1⟩
  have f1 : Fr (fun _ => False) w w1 := (((Fr.refl _ _).alloc _).alloc _).trans hw1 (fun _ _ x => x)
  have k1 : Has w1 w.heap.size #[.int .i64 kt, .int .u64 kn, sv ks] 68 := ((Has.new _ _ _).alloc _).fr hw1 (fun x => x)
  have v1 : Has w1 (w.heap.size + 1) #[.int .i64 vt, .int .u64 vn, sv vs] 68 := (Has.newC _ _ _ (by simp)).fr hw1 (fun x => x)
  obtain ⟨v10, v11, v12⟩ := Has.cells3 (v := ⟨vt, vn, vs⟩) v1
  have z1 := v1.lt
  clear hw1
  go_wp2_with fail
  refine (hW2 _).mono ?_
  rintro e w2 ⟨rfl, hw2⟩
  have f2 : Fr (fun _ => False) w w2 := f1.trans hw2 (fun _ _ x => x)
  have k2 := k1.fr hw2 (fun x => x)
  have v2 := v1.fr hw2 (fun x => x)
  obtain ⟨k20, k21, k22⟩ := Has.cells3 (v := ⟨kt, kn, ks⟩) k2
  have b0' := f2.cell b0
  have b1' := f2.cell b1
  have hbt2 : bt < w2.heap.size := Nat.lt_of_lt_of_le hbt f2.size
  have z2 := v2.lt
  clear hw2 k1 v1 v10 v11 v12 z1 f1 hW hW2
  go_wp2_with fail
  refine wp_region_Y 12 1 14 (by kernel_rfl) (by kernel_rfl) (fun _ _ _ _ _ h => h) ?_
  simp only [List.take_succ_cons, List.take_zero, List.drop_succ_cons, List.drop_zero]
  repeat go_big_quiet_step (fail)
  refine wpQuiet_nil ?_
  go_wp2_with fail
  repeat go_big_quiet_step (fail)
  refine wpQuiet_nil ?_
  have fd := f2.drew
  have kd := k2.drew
  have vd := v2.drew
  go_wp2_with fail
  refine (hO1 _ fd).mono ?_
  rintro e w3 ⟨rfl, hw3⟩
  have f3 : Fr (fun _ => False) w w3 := fd.trans hw3 (fun _ _ x => x)
  have k3 := kd.fr hw3 (fun x => x)
  have v3 := vd.fr hw3 (fun x => x)
  obtain ⟨k30, k31, k32⟩ := k3.frz3
  obtain ⟨k33, k34, k35⟩ := Has.cells3 (v := ⟨kt, kn, ks⟩) k3
  have z3 := k3.lt
  have y3 := v3.lt
  clear hw3 b0' b1' k2 v2 kd vd z2 k20 k21 k22
  go_wp2_with fail
  refine (hF _ (((f3.setCell (p := ⟨w.heap.size, 0, none⟩) (.inr (Nat.le_refl _)) _).setCell (p := ⟨w.heap.size, 1, none⟩) (.inr (Nat.le_refl _)) _).setCell (p := ⟨w.heap.size, 2, none⟩) (.inr (Nat.le_refl _)) _)).mono ?_
  rintro e w4 ⟨rfl, hw4⟩
  have f4 : Fr (fun _ => False) w w4 := (((f3.setCell (p := ⟨w.heap.size, 0, none⟩) (.inr (Nat.le_refl _)) _).setCell (p := ⟨w.heap.size, 1, none⟩) (.inr (Nat.le_refl _)) _).setCell (p := ⟨w.heap.size, 2, none⟩) (.inr (Nat.le_refl _)) _).trans hw4 (fun _ _ x => x)
  have k4 := (k3.put3 (.int .i64 k'.t) (.int .u64 k'.n) (sv k'.s)).fr hw4 (fun x => x)
  have v4 := (((v3.other (p := ⟨w.heap.size, 0, none⟩) (by simp) (.int .i64 k'.t)).other (p := ⟨w.heap.size, 1, none⟩) (by simp) (.int .u64 k'.n)).other (p := ⟨w.heap.size, 2, none⟩) (by simp) (sv k'.s)).fr hw4 (fun x => x)
  obtain ⟨v40, v41, v42⟩ := Has.cells3 (v := ⟨vt, vn, vs⟩) v4
  obtain ⟨k43, k44, k45⟩ := Has.cells3 (v := k') k4
  have z4 := v4.lt
  clear hw4 k3 v3 k30 k31 k32 k33 k34 k35 z3 y3
  go_wp2_with fail
  refine (hNil _).mono ?_
  rintro e w5 ⟨rfl, hw5⟩
  have f5 : Fr (fun _ => False) w w5 := f4.trans hw5 (fun _ _ x => x)
  have k5 := k4.fr hw5 (fun x => x)
  have v5 := v4.fr hw5 (fun x => x)
  have r5 := HP.out.r.st (Stp.fresh (fun _ => False) o f5) (fun _ _ x => x)
  have d0 := f5.cell c0
  have d1 := f5.cell c1
  have hgl5 : g < w5.heap.size := Nat.lt_of_lt_of_le gl f5.size
  go_wp2_with fail
  go_ret
  refine ⟨rfl, o, l, ?_, Stp.fresh _ _ f5⟩
  rw [set_same HP.out.hx]
  exact r5
theorem set_oth_full (P : SetP w o bt bn s n xs h g t l k v) (h0 : k.t ≠ 0) (h2 : k.t ≠ 2) (hq : t.find (oneV k).1 (oneV k).2 = none) (hnil : isNilV v = false) (h32 : ¬ t.order.length < 32) :
    Calls Tryz.prog 82 #[.pointer (some ⟨bt, 0, none⟩), .int .i64 h, k.val, v.val] w fun e w' => e = .returned (.int .i64 (t.put k v).1) ∧ SetR w o bt bn s n xs h (t.put k v).2 w' := by
  have hput : t.put k v = (8, t) := by
    simp [TabD.put, P.hk, P.hv, h0, h2, hq, hnil, show t.order.length ≥ 32 by omega]
  rw [hput]
  clear hput
  obtain ⟨g', ga, gcap, glab, gl, gc, gf⟩ := P.r.at P.hx
  rw [P.hg] at ga
  cases ga
  have hb := well_bounds P.hk P.hkn
  have b0 := P.r.here.has.cell 0
  have b1 := P.r.here.has.cell 1
  have b2 := P.r.here.has.cell 2
  simp only [List.getElem?_toArray, List.getElem?_cons_zero, List.getElem?_cons_succ, Sl.v, P.hg] at b0 b1 b2
  have hbt := P.r.here.has.lt
  have hxl := (List.getElem?_eq_some_iff.1 P.hx).1
  have hx12 : n ≤ xs.length := P.r.le
  have hn := P.hn
  have hn12 := P.hn12
  have hW : ∀ W, Calls Tryz.prog 108 #[.agg #[.int .i64 k.t, .int .u64 k.n, sv k.s]] W fun e w' => e = .returned (.bool true) ∧ Fr (fun _ => False) W w' := fun W => by have := well_any (w := W) k; rw [P.hk] at this; exact this
  have hW2 : ∀ W, Calls Tryz.prog 108 #[.agg #[.int .i64 v.t, .int .u64 v.n, sv v.s]] W fun e w' => e = .returned (.bool true) ∧ Fr (fun _ => False) W w' := fun W => by have := well_any (w := W) v; rw [P.hv] at this; exact this
  have hNil : ∀ W, Calls Tryz.prog 138 #[.agg #[.int .i64 v.t, .int .u64 v.n, sv v.s]] W fun e w' => e = .returned (.bool (isNilV v)) ∧ Fr (fun _ => False) W w' := fun W => isNil_any v
  have hO1 : ∀ W, Fr (fun _ => False) w W → Calls Tryz.prog 135 #[.pointer (some ⟨bt, 0, none⟩), .agg #[.int .i64 k.t, .int .u64 k.n, sv k.s]] W fun e w' => e = .returned (oneRes k) ∧ Fr (fun _ => False) W w' := fun W hW => one_any (hW.cell b0) (Nat.lt_of_lt_of_le hbt hW.size) k
  have hk' : 0 ≤ (oneV k).1.t ∧ (oneV k).1.t ≤ 7 ∧ (oneV k).1.n < 18446744073709551616 := ⟨by rw [oneV_t]; exact hb.1, by rw [oneV_t]; exact hb.2.1, Nat.lt_of_le_of_lt (oneV_n k) hb.2.2⟩
  have hF : ∀ W, Fr (fun _ => False) w W → Calls Tryz.prog 136 #[.pointer (some ⟨g, h * 6, none⟩), (oneV k).1.val, .int .i64 (oneV k).2] W fun e w' => e = .returned (.int .i64 (findI (t.find (oneV k).1 (oneV k).2))) ∧ Fr (fun _ => False) W w' := fun W hW => find_any (P.r.st (Stp.fresh (fun _ => False) o hW) (fun _ _ x => x)) P.hx P.hg P.hf _ hk' _
  unfold oneRes at hO1
  have HP : Hid (SetP w o bt bn s n xs h g t l k v) := P
  have HK' : Hid (0 ≤ (oneV k).1.t ∧ (oneV k).1.t ≤ 7 ∧ (oneV k).1.n < 18446744073709551616) := hk'
  have HB : Hid (0 ≤ k.t ∧ k.t ≤ 7 ∧ k.n < 18446744073709551616) := hb
  have c0 := gc 0 (by omega)
  have c1 := gc 1 (by omega)
  simp only [tbCells, List.getElem?_cons_zero, List.getElem?_cons_succ, Sl.v] at c0 c1
  rw [Nat.add_zero] at c0
  have hal := P.hf.al
  have hol := P.hf.ol
  have hh1 : ¬ ((h : Int) < 0) := by omega
  have hh2 : ¬ ((n : Int) ≤ (h : Int)) := by omega
  obtain ⟨N, HN⟩ : ∃ N : Nat, Hid (xs.length = N) := ⟨_, rfl⟩
  rw [HN.out] at b1 gcap hxl hx12
  have hc0 : (k.t == 0) = false := by simpa using h0
  have hc2 : (k.t == 2) = false := by simpa using h2
  rw [hq] at hF
  simp only [findI] at hF
  rw [hnil] at hNil
  clear hq hnil h0 h2
  clear P hb hk' gc gf
  obtain ⟨k', HKK⟩ : ∃ k', Hid ((oneV k).1 = k') := ⟨_, rfl⟩
  obtain ⟨i', HII⟩ : ∃ i', Hid ((oneV k).2 = i') := ⟨_, rfl⟩
  rw [HKK.out] at hO1 hF HK'
  rw [HII.out] at hO1 hF
  obtain ⟨kt, HKT⟩ : ∃ kt, Hid (k.t = kt) := ⟨_, rfl⟩
  obtain ⟨kn, HKN⟩ : ∃ kn, Hid (k.n = kn) := ⟨_, rfl⟩
  obtain ⟨ks, HKS⟩ : ∃ ks, Hid (k.s = ks) := ⟨_, rfl⟩
  obtain ⟨vt, HVT⟩ : ∃ vt, Hid (v.t = vt) := ⟨_, rfl⟩
  obtain ⟨vn, HVN⟩ : ∃ vn, Hid (v.n = vn) := ⟨_, rfl⟩
  obtain ⟨vs, HVS⟩ : ∃ vs, Hid (v.s = vs) := ⟨_, rfl⟩
  simp only [HKT.out, HKN.out, HKS.out, HVT.out, HVN.out, HVS.out] at hW hW2 hNil hO1 hc0 hc2
  show Calls _ _ #[_, _, .agg #[.int .i64 k.t, .int .u64 k.n, sv k.s], .agg #[.int .i64 v.t, .int .u64 v.n, sv v.s]] _ _
  rw [HKT.out, HKN.out, HKS.out, HVT.out, HVN.out, HVS.out]
  skip
  go_enter Tryz.func82, Tryz.ntmps82
  go_wp2_with fail
  refine (hW _).mono ?_
  rintro e w1 ⟨rfl, hw1⟩
  have f1 : Fr (fun _ => False) w w1 := (((Fr.refl _ _).alloc _).alloc _).trans hw1 (fun _ _ x => x)
  have k1 : Has w1 w.heap.size #[.int .i64 kt, .int .u64 kn, sv ks] 68 := ((Has.new _ _ _).alloc _).fr hw1 (fun x => x)
  have v1 : Has w1 (w.heap.size + 1) #[.int .i64 vt, .int .u64 vn, sv vs] 68 := (Has.newC _ _ _ (by simp)).fr hw1 (fun x => x)
  obtain ⟨v10, v11, v12⟩ := Has.cells3 (v := ⟨vt, vn, vs⟩) v1
  have z1 := v1.lt
  clear hw1
  go_wp2_with fail
  refine (hW2 _).mono ?_
  rintro e w2 ⟨rfl, hw2⟩
  have f2 : Fr (fun _ => False) w w2 := f1.trans hw2 (fun _ _ x => x)
  have k2 := k1.fr hw2 (fun x => x)
  have v2 := v1.fr hw2 (fun x => x)
  obtain ⟨k20, k21, k22⟩ := Has.cells3 (v := ⟨kt, kn, ks⟩) k2
  have b0' := f2.cell b0
  have b1' := f2.cell b1
  have hbt2 : bt < w2.heap.size := Nat.lt_of_lt_of_le hbt f2.size
  have z2 := v2.lt
  clear hw2 k1 v1 v10 v11 v12 z1 f1 hW hW2
  go_wp2_with fail
  refine wp_region_Y 12 1 14 (by kernel_rfl) (by kernel_rfl) (fun _ _ _ _ _ h => h) ?_
  simp only [List.take_succ_cons, List.take_zero, List.drop_succ_cons, List.drop_zero]
  repeat go_big_quiet_step (fail)
  refine wpQuiet_nil ?_
  go_wp2_with fail
  repeat go_big_quiet_step (fail)
  refine wpQuiet_nil ?_
  have fd := f2.drew
  have kd := k2.drew
  have vd := v2.drew
  go_wp2_with fail
  refine (hO1 _ fd).mono ?_
  rintro e w3 ⟨rfl, hw3⟩
  have f3 : Fr (fun _ => False) w w3 := fd.trans hw3 (fun _ _ x => x)
  have k3 := kd.fr hw3 (fun x => x)
  have v3 := vd.fr hw3 (fun x => x)
  obtain ⟨k30, k31, k32⟩ := k3.frz3
  obtain ⟨k33, k34, k35⟩ := Has.cells3 (v := ⟨kt, kn, ks⟩) k3
  have z3 := k3.lt
  have y3 := v3.lt
  clear hw3 b0' b1' k2 v2 kd vd z2 k20 k21 k22
  go_wp2_with fail
  refine (hF _ (((f3.setCell (p := ⟨w.heap.size, 0, none⟩) (.inr (Nat.le_refl _)) _).setCell (p := ⟨w.heap.size, 1, none⟩) (.inr (Nat.le_refl _)) _).setCell (p := ⟨w.heap.size, 2, none⟩) (.inr (Nat.le_refl _)) _)).mono ?_
  rintro e w4 ⟨rfl, hw4⟩
  have f4 : Fr (fun _ => False) w w4 := (((f3.setCell (p := ⟨w.heap.size, 0, none⟩) (.inr (Nat.le_refl _)) _).setCell (p := ⟨w.heap.size, 1, none⟩) (.inr (Nat.le_refl _)) _).setCell (p := ⟨w.heap.size, 2, none⟩) (.inr (Nat.le_refl _)) _).trans hw4 (fun _ _ x => x)
  have k4 := (k3.put3 (.int .i64 k'.t) (.int .u64 k'.n) (sv k'.s)).fr hw4 (fun x => x)
  have v4 := (((v3.other (p := ⟨w.heap.size, 0, none⟩) (by simp) (.int .i64 k'.t)).other (p := ⟨w.heap.size, 1, none⟩) (by simp) (.int .u64 k'.n)).other (p := ⟨w.heap.size, 2, none⟩) (by simp) (sv k'.s)).fr hw4 (fun x => x)
  obtain ⟨v40, v41, v42⟩ := Has.cells3 (v := ⟨vt, vn, vs⟩) v4
  obtain ⟨k43, k44, k45⟩ := Has.cells3 (v := k') k4
  have z4 := v4.lt
  clear hw4 k3 v3 k30 k31 k32 k33 k34 k35 z3 y3
  go_wp2_with fail
  refine (hNil _).mono ?_
  rintro e w5 ⟨rfl, hw5⟩
  have f5 : Fr (fun _ => False) w w5 := f4.trans hw5 (fun _ _ x => x)
  have k5 := k4.fr hw5 (fun x => x)
  have v5 := v4.fr hw5 (fun x => x)
  have r5 := HP.out.r.st (Stp.fresh (fun _ => False) o f5) (fun _ _ x => x)
  have d0 := f5.cell c0
  have d1 := f5.cell c1
  have hgl5 : g < w5.heap.size := Nat.lt_of_lt_of_le gl f5.size
  have h33 : (32 : Int) ≤ (t.order.length : Int) := by omega
  go_wp2_with fail
  go_ret
  refine ⟨rfl, o, l, ?_, Stp.fresh _ _ f5⟩
  rw [set_same HP.out.hx]
  exact r5
theorem set_oth_index (P : SetP w o bt bn s n xs h g t l k v) (h0 : k.t ≠ 0) (h2 : k.t ≠ 2) (hq : t.find (oneV k).1 (oneV k).2 = none) (hnil : isNilV v = false) (h32 : t.order.length < 32) (hne : (oneV k).2 ≠ t.arr.length + 1) :
    Calls Tryz.prog 82 #[.pointer (some ⟨bt, 0, none⟩), .int .i64 h, k.val, v.val] w fun e w' => e = .returned (.int .i64 (t.put k v).1) ∧ SetR w o bt bn s n xs h (t.put k v).2 w' := by
  have hput : t.put k v = (0, ({ t with order := t.order ++ [((oneV k).1, v)] } : TabD).index (oneV k).1 t.order.length) := by
    simp [TabD.put, P.hk, P.hv, h0, h2, hq, hnil, show ¬ t.order.length ≥ 32 by omega, hne]
  rw [hput]
  clear hput
  obtain ⟨g', ga, gcap, glab, gl, gc, gf⟩ := P.r.at P.hx
  rw [P.hg] at ga
  cases ga
  have hb := well_bounds P.hk P.hkn
  have b0 := P.r.here.has.cell 0
  have b1 := P.r.here.has.cell 1
  have b2 := P.r.here.has.cell 2
  simp only [List.getElem?_toArray, List.getElem?_cons_zero, List.getElem?_cons_succ, Sl.v, P.hg] at b0 b1 b2
  have hbt := P.r.here.has.lt
  have hxl := (List.getElem?_eq_some_iff.1 P.hx).1
  have hx12 : n ≤ xs.length := P.r.le
  have hn := P.hn
  have hn12 := P.hn12
  have hW : ∀ W, Calls Tryz.prog 108 #[.agg #[.int .i64 k.t, .int .u64 k.n, sv k.s]] W fun e w' => e = .returned (.bool true) ∧ Fr (fun _ => False) W w' := fun W => by have := well_any (w := W) k; rw [P.hk] at this; exact this
  have hW2 : ∀ W, Calls Tryz.prog 108 #[.agg #[.int .i64 v.t, .int .u64 v.n, sv v.s]] W fun e w' => e = .returned (.bool true) ∧ Fr (fun _ => False) W w' := fun W => by have := well_any (w := W) v; rw [P.hv] at this; exact this
  have hNil : ∀ W, Calls Tryz.prog 138 #[.agg #[.int .i64 v.t, .int .u64 v.n, sv v.s]] W fun e w' => e = .returned (.bool (isNilV v)) ∧ Fr (fun _ => False) W w' := fun W => isNil_any v
  have hO1 : ∀ W, Fr (fun _ => False) w W → Calls Tryz.prog 135 #[.pointer (some ⟨bt, 0, none⟩), .agg #[.int .i64 k.t, .int .u64 k.n, sv k.s]] W fun e w' => e = .returned (oneRes k) ∧ Fr (fun _ => False) W w' := fun W hW => one_any (hW.cell b0) (Nat.lt_of_lt_of_le hbt hW.size) k
  have hk' : 0 ≤ (oneV k).1.t ∧ (oneV k).1.t ≤ 7 ∧ (oneV k).1.n < 18446744073709551616 := ⟨by rw [oneV_t]; exact hb.1, by rw [oneV_t]; exact hb.2.1, Nat.lt_of_le_of_lt (oneV_n k) hb.2.2⟩
  have hF : ∀ W, Fr (fun _ => False) w W → Calls Tryz.prog 136 #[.pointer (some ⟨g, h * 6, none⟩), (oneV k).1.val, .int .i64 (oneV k).2] W fun e w' => e = .returned (.int .i64 (findI (t.find (oneV k).1 (oneV k).2))) ∧ Fr (fun _ => False) W w' := fun W hW => find_any (P.r.st (Stp.fresh (fun _ => False) o hW) (fun _ _ x => x)) P.hx P.hg P.hf _ hk' _
  unfold oneRes at hO1
  have HP : Hid (SetP w o bt bn s n xs h g t l k v) := P
  have HK' : Hid (0 ≤ (oneV k).1.t ∧ (oneV k).1.t ≤ 7 ∧ (oneV k).1.n < 18446744073709551616) := hk'
  have HB : Hid (0 ≤ k.t ∧ k.t ≤ 7 ∧ k.n < 18446744073709551616) := hb
  have c0 := gc 0 (by omega)
  have c1 := gc 1 (by omega)
  simp only [tbCells, List.getElem?_cons_zero, List.getElem?_cons_succ, Sl.v] at c0 c1
  rw [Nat.add_zero] at c0
  have hal := P.hf.al
  have hol := P.hf.ol
  have hh1 : ¬ ((h : Int) < 0) := by omega
  have hh2 : ¬ ((n : Int) ≤ (h : Int)) := by omega
  obtain ⟨N, HN⟩ : ∃ N : Nat, Hid (xs.length = N) := ⟨_, rfl⟩
  rw [HN.out] at b1 gcap hxl hx12
  have hc0 : (k.t == 0) = false := by simpa using h0
  have hc2 : (k.t == 2) = false := by simpa using h2
  rw [hq] at hF
  simp only [findI] at hF
  rw [hnil] at hNil
  have HQ : Hid (t.find (oneV k).1 (oneV k).2 = none) := hq
  have HNIL : Hid (isNilV v = false) := hnil
  have HNE : Hid ((oneV k).2 ≠ t.arr.length + 1) := hne
  obtain ⟨tz, HTZ⟩ : ∃ tz : TabD, Hid (({ t with order := t.order ++ [((oneV k).1, v)] } : TabD).index (oneV k).1 t.order.length = tz) := ⟨_, rfl⟩
  rw [HTZ.out]
  clear hq hnil hne h0 h2
  clear P hb hk' gc gf
  obtain ⟨k', HKK⟩ : ∃ k', Hid ((oneV k).1 = k') := ⟨_, rfl⟩
  obtain ⟨i', HII⟩ : ∃ i', Hid ((oneV k).2 = i') := ⟨_, rfl⟩
  rw [HKK.out] at hO1 hF HK'
  rw [HII.out] at hO1 hF
  obtain ⟨kt, HKT⟩ : ∃ kt, Hid (k.t = kt) := ⟨_, rfl⟩
  obtain ⟨kn, HKN⟩ : ∃ kn, Hid (k.n = kn) := ⟨_, rfl⟩
  obtain ⟨ks, HKS⟩ : ∃ ks, Hid (k.s = ks) := ⟨_, rfl⟩
  obtain ⟨vt, HVT⟩ : ∃ vt, Hid (v.t = vt) := ⟨_, rfl⟩
  obtain ⟨vn, HVN⟩ : ∃ vn, Hid (v.n = vn) := ⟨_, rfl⟩
  obtain ⟨vs, HVS⟩ : ∃ vs, Hid (v.s = vs) := ⟨_, rfl⟩
  simp only [HKT.out, HKN.out, HKS.out, HVT.out, HVN.out, HVS.out] at hW hW2 hNil hO1 hc0 hc2
  show Calls _ _ #[_, _, .agg #[.int .i64 k.t, .int .u64 k.n, sv k.s], .agg #[.int .i64 v.t, .int .u64 v.n, sv v.s]] _ _
  rw [HKT.out, HKN.out, HKS.out, HVT.out, HVN.out, HVS.out]
  skip
  go_enter Tryz.func82, Tryz.ntmps82
  go_wp2_with fail
  refine (hW _).mono ?_
  rintro e w1 ⟨rfl, hw1⟩
  have f1 : Fr (fun _ => False) w w1 := (((Fr.refl _ _).alloc _).alloc _).trans hw1 (fun _ _ x => x)
  have k1 : Has w1 w.heap.size #[.int .i64 kt, .int .u64 kn, sv ks] 68 := ((Has.new _ _ _).alloc _).fr hw1 (fun x => x)
  have v1 : Has w1 (w.heap.size + 1) #[.int .i64 vt, .int .u64 vn, sv vs] 68 := (Has.newC _ _ _ (by simp)).fr hw1 (fun x => x)
  obtain ⟨v10, v11, v12⟩ := Has.cells3 (v := ⟨vt, vn, vs⟩) v1
  have z1 := v1.lt
  clear hw1
  go_wp2_with fail
  refine (hW2 _).mono ?_
  rintro e w2 ⟨rfl, hw2⟩
  have f2 : Fr (fun _ => False) w w2 := f1.trans hw2 (fun _ _ x => x)
  have k2 := k1.fr hw2 (fun x => x)
  have v2 := v1.fr hw2 (fun x => x)
  obtain ⟨k20, k21, k22⟩ := Has.cells3 (v := ⟨kt, kn, ks⟩) k2
  have b0' := f2.cell b0
  have b1' := f2.cell b1
  have hbt2 : bt < w2.heap.size := Nat.lt_of_lt_of_le hbt f2.size
  have z2 := v2.lt
  clear hw2 k1 v1 v10 v11 v12 z1 f1 hW hW2
  go_wp2_with fail
  refine wp_region_Y 12 1 14 (by kernel_rfl) (by kernel_rfl) (fun _ _ _ _ _ h => h) ?_
  simp only [List.take_succ_cons, List.take_zero, List.drop_succ_cons, List.drop_zero]
  repeat go_big_quiet_step (fail)
  refine wpQuiet_nil ?_
  go_wp2_with fail
  repeat go_big_quiet_step (fail)
  refine wpQuiet_nil ?_
  have fd := f2.drew
  have kd := k2.drew
  have vd := v2.drew
  go_wp2_with fail
  refine (hO1 _ fd).mono ?_
  rintro e w3 ⟨rfl, hw3⟩
  have f3 : Fr (fun _ => False) w w3 := fd.trans hw3 (fun _ _ x => x)
  have k3 := kd.fr hw3 (fun x => x)
  have v3 := vd.fr hw3 (fun x => x)
  obtain ⟨k30, k31, k32⟩ := k3.frz3
  obtain ⟨k33, k34, k35⟩ := Has.cells3 (v := ⟨kt, kn, ks⟩) k3
  have z3 := k3.lt
  have y3 := v3.lt
  clear hw3 b0' b1' k2 v2 kd vd z2 k20 k21 k22
  go_wp2_with fail
  refine (hF _ (((f3.setCell (p := ⟨w.heap.size, 0, none⟩) (.inr (Nat.le_refl _)) _).setCell (p := ⟨w.heap.size, 1, none⟩) (.inr (Nat.le_refl _)) _).setCell (p := ⟨w.heap.size, 2, none⟩) (.inr (Nat.le_refl _)) _)).mono ?_
  rintro e w4 ⟨rfl, hw4⟩
  have f4 : Fr (fun _ => False) w w4 := (((f3.setCell (p := ⟨w.heap.size, 0, none⟩) (.inr (Nat.le_refl _)) _).setCell (p := ⟨w.heap.size, 1, none⟩) (.inr (Nat.le_refl _)) _).setCell (p := ⟨w.heap.size, 2, none⟩) (.inr (Nat.le_refl _)) _).trans hw4 (fun _ _ x => x)
  have k4 := (k3.put3 (.int .i64 k'.t) (.int .u64 k'.n) (sv k'.s)).fr hw4 (fun x => x)
  have v4 := (((v3.other (p := ⟨w.heap.size, 0, none⟩) (by simp) (.int .i64 k'.t)).other (p := ⟨w.heap.size, 1, none⟩) (by simp) (.int .u64 k'.n)).other (p := ⟨w.heap.size, 2, none⟩) (by simp) (sv k'.s)).fr hw4 (fun x => x)
  obtain ⟨v40, v41, v42⟩ := Has.cells3 (v := ⟨vt, vn, vs⟩) v4
  obtain ⟨k43, k44, k45⟩ := Has.cells3 (v := k') k4
  have z4 := v4.lt
  clear hw4 k3 v3 k30 k31 k32 k33 k34 k35 z3 y3
  go_wp2_with fail
  refine (hNil _).mono ?_
  rintro e w5 ⟨rfl, hw5⟩
  have f5 : Fr (fun _ => False) w w5 := f4.trans hw5 (fun _ _ x => x)
  have k5 := k4.fr hw5 (fun x => x)
  have v5 := v4.fr hw5 (fun x => x)
  have r5 := HP.out.r.st (Stp.fresh (fun _ => False) o f5) (fun _ _ x => x)
  have d0 := f5.cell c0
  have d1 := f5.cell c1
  have hgl5 : g < w5.heap.size := Nat.lt_of_lt_of_le gl f5.size
  have h33 : ¬ (32 : Int) ≤ (t.order.length : Int) := by omega
  have HR5 : Hid (TabsRep w5 o bt bn s n xs) := r5
  have hrow := (r5.one h _ HP.out.hx).ord.own
  have HROW : Hid (w5.ownsRow 0 259 6 (l.ord.v t.order.length) t.order.length (t.order.flatMap eCells)) := hrow
  have hO5 : Ow w5 o := fun j hj => HP.out.hO j (Nat.le_trans f5.size hj)
  have HO5 : Hid (Ow w5 o) := hO5
  obtain ⟨M, HM⟩ : ∃ M : Nat, Hid (t.order.length = M) := ⟨_, rfl⟩
  obtain ⟨K, HKK2⟩ : ∃ K : Nat, Hid (t.arr.length = K) := ⟨_, rfl⟩
  have hK32 : K ≤ 32 := by rw [← HKK2.out]; exact hal
  have hM32 : M < 32 := by rw [← HM.out]; exact h32
  have d0' := d0
  have d1' := d1
  rw [HM.out] at d0' h33
  rw [HKK2.out] at d1'
  obtain ⟨k50, k51, k52⟩ := Has.cells3 (v := k') k5
  obtain ⟨v50, v51, v52⟩ := Has.cells3 (v := ⟨vt, vn, vs⟩) v5
  have z5 := v5.lt
  have y5 := k5.lt
  have hownlt : ∀ j, (l.ord.v t.order.length).ownBlock = some j → j < w.heap.size := fun j hj => (HP.out.r.one h _ HP.out.hx).ord.lt (by rw [ownBlock_any _ _ _ t.order.length l.ord.c]; exact hj)
  clear hw5 k4 v4 f4 v40 v41 v42 k43 k44 k45 z4 r5 hrow hO5 d0 d1 hNil c0 c1
  go_wp2_with fail
  refine wp_region_app rowEnt 8 (by kernel_rfl) (by kernel_rfl) (fun _ _ _ _ _ h => h) _ _ _ rfl (.tmp 89) (.tmp 86) 90 91 rfl rfl rfl rfl rfl rfl (l.ord.v t.order.length) t.order.length _ HROW.out (.agg #[.int .i64 k'.t, .int .u64 k'.n, sv k'.s, .int .i64 vt, .int .u64 vn, sv vs]) rfl (by decide) (by simp [Value.cells, Value.oneCell']) (by omega) ?_
  intro g4 cap w6 q1 q2 q3 q4
  have hvv : (⟨vt, vn, vs⟩ : Vl) = v := by rw [← HVT.out, ← HVN.out, ← HVS.out]
  obtain ⟨u1, u2, u3, u4, u5⟩ := HR5.out.appOrd HP.out.hx HP.out.hg HP.out.hn ((Fr.refl _ _).alloc _) (k', ⟨vt, vn, vs⟩) (by simpa [eCells, vCells, Value.cells] using q1) q2 (by
    rcases q3 with q3 | q3
    · exact .inl q3
    · right; rw [q3]; simp) q4
  rw [hvv] at u4
  have k6 : Has w6 w.heap.size _ _ := (k5.alloc _).fr q2 (fun hk => by have := hownlt _ hk; omega)
  have v6 : Has w6 (w.heap.size + 1) _ _ := (v5.alloc _).fr q2 (fun hk => by have := hownlt _ hk; omega)
  obtain ⟨k60, k61, k62⟩ := Has.cells3 (v := k') k6
  obtain ⟨v60, v61, v62⟩ := Has.cells3 (v := ⟨vt, vn, vs⟩) v6
  have z6 := v6.lt
  have y6 := k6.lt
  have e0 := u1 0 (by omega)
  have e1 := u1 1 (by omega)
  simp only [tbCells, List.getElem?_cons_zero, List.getElem?_cons_succ, Sl.v] at e0 e1
  rw [Nat.add_zero] at e0 u4 u5
  have e0f := u2 (h * 6)
  have e1f := u2 (h * 6 + 1)
  have hgk : g ≠ w.heap.size := by omega
  have hgv : g ≠ w.heap.size + 1 := by omega
  rw [HM.out] at e0 ⊢
  rw [HKK2.out] at e1
  rw [HM.out] at u4 u5
  have hxl' : h < xs.length := by rw [HN.out]; exact hxl
  have x7 : (xs.set h (({ t with order := t.order ++ [(k', v)] } : TabD), { l with ord := ⟨some ⟨g4, 0, none⟩, cap⟩ }))[h]? = some (({ t with order := t.order ++ [(k', v)] } : TabD), { l with ord := ⟨some ⟨g4, 0, none⟩, cap⟩ }) := List.getElem?_set_self hxl'
  have hIx : Calls Tryz.prog 139 #[.pointer (some ⟨g, h * 6, none⟩), k'.val, .int .i32 M] (w6.setCell ⟨g, h * 6, none⟩ (.slice (some ⟨g4, 0, none⟩) (M + 1) cap)) fun e w' => e = .returned (.tuple #[]) ∧ TabsRep w' (upd o g4 (100 + 5 * h)) bt bn s n (xs.set h (tz, { l with ord := ⟨some ⟨g4, 0, none⟩, cap⟩ })) ∧ Stp (isB h) (w6.setCell ⟨g, h * 6, none⟩ (.slice (some ⟨g4, 0, none⟩) (M + 1) cap)) (upd o g4 (100 + 5 * h)) w' (upd o g4 (100 + 5 * h)) := by
    have hq' : t.find k' i' = none := by rw [← HKK.out, ← HII.out]; exact HQ.out
    have := index_any u4 x7 HP.out.hg HP.out.hn k' HK'.out M (i := i') (by rw [find_order]; exact hq') (find_none_arr hq')
    rw [List.set_set] at this
    rw [← HTZ.out, HKK.out, HM.out]
    exact this
  have HIX : Hid (Calls _ _ _ _ _) := hIx
  have S7 : Hid (Stp (isB h) w o (w6.setCell ⟨g, h * 6, none⟩ (.slice (some ⟨g4, 0, none⟩) (M + 1) cap)) (upd o g4 (100 + 5 * h))) := (Stp.fresh _ _ f5).trans u5
  have hne' : (i' != (K : Int) + 1) = true := by rw [bne_iff_ne, ← HII.out, ← HKK2.out]; exact HNE.out
  clear hIx u1 u2 u4 u5 x7 q1 q2 q3 q4 k6 v6 hownlt
  simp only [List.take_succ_cons, List.take_zero]
  repeat go_big_quiet_step (fail)
  refine wpQuiet_nil ⟨rfl, rfl, by simp, rfl, ?_⟩
  go_wp2_with fail
  refine HIX.out.mono ?_
  rintro e w8 ⟨rfl, R8, S8⟩
  have HR8 : Hid (SetR w o bt bn s n xs h tz w8) := ⟨_, _, R8, S7.out.trans S8⟩
  clear R8 S8 HIX
  go_wp2_with fail
  go_ret
  exact ⟨rfl, HR8.out⟩
theorem set_oth_arr (P : SetP w o bt bn s n xs h g t l k v) (h0 : k.t ≠ 0) (h2 : k.t ≠ 2) (hq : t.find (oneV k).1 (oneV k).2 = none) (hnil : isNilV v = false) (h32 : t.order.length < 32) (hne : (oneV k).2 = t.arr.length + 1) :
    Calls Tryz.prog 82 #[.pointer (some ⟨bt, 0, none⟩), .int .i64 h, k.val, v.val] w fun e w' => e = .returned (.int .i64 (t.put k v).1) ∧ SetR w o bt bn s n xs h (t.put k v).2 w' := by
  have hput : t.put k v = (0, ({ t with order := t.order ++ [((oneV k).1, v)], arr := t.arr ++ [t.order.length] } : TabD).migrate) := by
    have hq9 := hq
    rw [hne] at hq9
    simp [TabD.put, P.hk, P.hv, h0, h2, hq9, hnil, show ¬ t.order.length ≥ 32 by omega, hne]
  rw [hput]
  clear hput
  obtain ⟨g', ga, gcap, glab, gl, gc, gf⟩ := P.r.at P.hx
  rw [P.hg] at ga
  cases ga
  have hb := well_bounds P.hk P.hkn
  have b0 := P.r.here.has.cell 0
  have b1 := P.r.here.has.cell 1
  have b2 := P.r.here.has.cell 2
  simp only [List.getElem?_toArray, List.getElem?_cons_zero, List.getElem?_cons_succ, Sl.v, P.hg] at b0 b1 b2
  have hbt := P.r.here.has.lt
  have hxl := (List.getElem?_eq_some_iff.1 P.hx).1
  have hx12 : n ≤ xs.length := P.r.le
  have hn := P.hn
  have hn12 := P.hn12
  have hW : ∀ W, Calls Tryz.prog 108 #[.agg #[.int .i64 k.t, .int .u64 k.n, sv k.s]] W fun e w' => e = .returned (.bool true) ∧ Fr (fun _ => False) W w' := fun W => by have := well_any (w := W) k; rw [P.hk] at this; exact this
  have hW2 : ∀ W, Calls Tryz.prog 108 #[.agg #[.int .i64 v.t, .int .u64 v.n, sv v.s]] W fun e w' => e = .returned (.bool true) ∧ Fr (fun _ => False) W w' := fun W => by have := well_any (w := W) v; rw [P.hv] at this; exact this
  have hNil : ∀ W, Calls Tryz.prog 138 #[.agg #[.int .i64 v.t, .int .u64 v.n, sv v.s]] W fun e w' => e = .returned (.bool (isNilV v)) ∧ Fr (fun _ => False) W w' := fun W => isNil_any v
  have hO1 : ∀ W, Fr (fun _ => False) w W → Calls Tryz.prog 135 #[.pointer (some ⟨bt, 0, none⟩), .agg #[.int .i64 k.t, .int .u64 k.n, sv k.s]] W fun e w' => e = .returned (oneRes k) ∧ Fr (fun _ => False) W w' := fun W hW => one_any (hW.cell b0) (Nat.lt_of_lt_of_le hbt hW.size) k
  have hk' : 0 ≤ (oneV k).1.t ∧ (oneV k).1.t ≤ 7 ∧ (oneV k).1.n < 18446744073709551616 := ⟨by rw [oneV_t]; exact hb.1, by rw [oneV_t]; exact hb.2.1, Nat.lt_of_le_of_lt (oneV_n k) hb.2.2⟩
  have hF : ∀ W, Fr (fun _ => False) w W → Calls Tryz.prog 136 #[.pointer (some ⟨g, h * 6, none⟩), (oneV k).1.val, .int .i64 (oneV k).2] W fun e w' => e = .returned (.int .i64 (findI (t.find (oneV k).1 (oneV k).2))) ∧ Fr (fun _ => False) W w' := fun W hW => find_any (P.r.st (Stp.fresh (fun _ => False) o hW) (fun _ _ x => x)) P.hx P.hg P.hf _ hk' _
  unfold oneRes at hO1
  have HP : Hid (SetP w o bt bn s n xs h g t l k v) := P
  have HK' : Hid (0 ≤ (oneV k).1.t ∧ (oneV k).1.t ≤ 7 ∧ (oneV k).1.n < 18446744073709551616) := hk'
  have HB : Hid (0 ≤ k.t ∧ k.t ≤ 7 ∧ k.n < 18446744073709551616) := hb
  have c0 := gc 0 (by omega)
  have c1 := gc 1 (by omega)
  simp only [tbCells, List.getElem?_cons_zero, List.getElem?_cons_succ, Sl.v] at c0 c1
  rw [Nat.add_zero] at c0
  have hal := P.hf.al
  have hol := P.hf.ol
  have hh1 : ¬ ((h : Int) < 0) := by omega
  have hh2 : ¬ ((n : Int) ≤ (h : Int)) := by omega
  obtain ⟨N, HN⟩ : ∃ N : Nat, Hid (xs.length = N) := ⟨_, rfl⟩
  rw [HN.out] at b1 gcap hxl hx12
  have hc0 : (k.t == 0) = false := by simpa using h0
  have hc2 : (k.t == 2) = false := by simpa using h2
  rw [hq] at hF
  simp only [findI] at hF
  rw [hnil] at hNil
  have HQ : Hid (t.find (oneV k).1 (oneV k).2 = none) := hq
  have HNIL : Hid (isNilV v = false) := hnil
  have HNE : Hid ((oneV k).2 = t.arr.length + 1) := hne
  obtain ⟨tz, HTZ⟩ : ∃ tz : TabD, Hid (({ t with order := t.order ++ [((oneV k).1, v)], arr := t.arr ++ [t.order.length] } : TabD).migrate = tz) := ⟨_, rfl⟩
  rw [HTZ.out]
  clear hq hnil hne h0 h2
  clear P hb hk' gc gf
  obtain ⟨k', HKK⟩ : ∃ k', Hid ((oneV k).1 = k') := ⟨_, rfl⟩
  obtain ⟨i', HII⟩ : ∃ i', Hid ((oneV k).2 = i') := ⟨_, rfl⟩
  rw [HKK.out] at hO1 hF HK'
  rw [HII.out] at hO1 hF
  obtain ⟨kt, HKT⟩ : ∃ kt, Hid (k.t = kt) := ⟨_, rfl⟩
  obtain ⟨kn, HKN⟩ : ∃ kn, Hid (k.n = kn) := ⟨_, rfl⟩
  obtain ⟨ks, HKS⟩ : ∃ ks, Hid (k.s = ks) := ⟨_, rfl⟩
  obtain ⟨vt, HVT⟩ : ∃ vt, Hid (v.t = vt) := ⟨_, rfl⟩
  obtain ⟨vn, HVN⟩ : ∃ vn, Hid (v.n = vn) := ⟨_, rfl⟩
  obtain ⟨vs, HVS⟩ : ∃ vs, Hid (v.s = vs) := ⟨_, rfl⟩
  simp only [HKT.out, HKN.out, HKS.out, HVT.out, HVN.out, HVS.out] at hW hW2 hNil hO1 hc0 hc2
  show Calls _ _ #[_, _, .agg #[.int .i64 k.t, .int .u64 k.n, sv k.s], .agg #[.int .i64 v.t, .int .u64 v.n, sv v.s]] _ _
  rw [HKT.out, HKN.out, HKS.out, HVT.out, HVN.out, HVS.out]
  skip
  go_enter Tryz.func82, Tryz.ntmps82
  go_wp2_with fail
  refine (hW _).mono ?_
  rintro e w1 ⟨rfl, hw1⟩
  have f1 : Fr (fun _ => False) w w1 := (((Fr.refl _ _).alloc _).alloc _).trans hw1 (fun _ _ x => x)
  have k1 : Has w1 w.heap.size #[.int .i64 kt, .int .u64 kn, sv ks] 68 := ((Has.new _ _ _).alloc _).fr hw1 (fun x => x)
  have v1 : Has w1 (w.heap.size + 1) #[.int .i64 vt, .int .u64 vn, sv vs] 68 := (Has.newC _ _ _ (by simp)).fr hw1 (fun x => x)
  obtain ⟨v10, v11, v12⟩ := Has.cells3 (v := ⟨vt, vn, vs⟩) v1
  have z1 := v1.lt
  clear hw1
  go_wp2_with fail
  refine (hW2 _).mono ?_
  rintro e w2 ⟨rfl, hw2⟩
  have f2 : Fr (fun _ => False) w w2 := f1.trans hw2 (fun _ _ x => x)
  have k2 := k1.fr hw2 (fun x => x)
  have v2 := v1.fr hw2 (fun x => x)
  obtain ⟨k20, k21, k22⟩ := Has.cells3 (v := ⟨kt, kn, ks⟩) k2
  have b0' := f2.cell b0
  have b1' := f2.cell b1
  have hbt2 : bt < w2.heap.size := Nat.lt_of_lt_of_le hbt f2.size
  have z2 := v2.lt
  clear hw2 k1 v1 v10 v11 v12 z1 f1 hW hW2
  go_wp2_with fail
  refine wp_region_Y 12 1 14 (by kernel_rfl) (by kernel_rfl) (fun _ _ _ _ _ h => h) ?_
  simp only [List.take_succ_cons, List.take_zero, List.drop_succ_cons, List.drop_zero]
  repeat go_big_quiet_step (fail)
  refine wpQuiet_nil ?_
  go_wp2_with fail
  repeat go_big_quiet_step (fail)
  refine wpQuiet_nil ?_
  have fd := f2.drew
  have kd := k2.drew
  have vd := v2.drew
  go_wp2_with fail
  refine (hO1 _ fd).mono ?_
  rintro e w3 ⟨rfl, hw3⟩
  have f3 : Fr (fun _ => False) w w3 := fd.trans hw3 (fun _ _ x => x)
  have k3 := kd.fr hw3 (fun x => x)
  have v3 := vd.fr hw3 (fun x => x)
  obtain ⟨k30, k31, k32⟩ := k3.frz3
  obtain ⟨k33, k34, k35⟩ := Has.cells3 (v := ⟨kt, kn, ks⟩) k3
  have z3 := k3.lt
  have y3 := v3.lt
  clear hw3 b0' b1' k2 v2 kd vd z2 k20 k21 k22
  go_wp2_with fail
  refine (hF _ (((f3.setCell (p := ⟨w.heap.size, 0, none⟩) (.inr (Nat.le_refl _)) _).setCell (p := ⟨w.heap.size, 1, none⟩) (.inr (Nat.le_refl _)) _).setCell (p := ⟨w.heap.size, 2, none⟩) (.inr (Nat.le_refl _)) _)).mono ?_
  rintro e w4 ⟨rfl, hw4⟩
  have f4 : Fr (fun _ => False) w w4 := (((f3.setCell (p := ⟨w.heap.size, 0, none⟩) (.inr (Nat.le_refl _)) _).setCell (p := ⟨w.heap.size, 1, none⟩) (.inr (Nat.le_refl _)) _).setCell (p := ⟨w.heap.size, 2, none⟩) (.inr (Nat.le_refl _)) _).trans hw4 (fun _ _ x => x)
  have k4 := (k3.put3 (.int .i64 k'.t) (.int .u64 k'.n) (sv k'.s)).fr hw4 (fun x => x)
  have v4 := (((v3.other (p := ⟨w.heap.size, 0, none⟩) (by simp) (.int .i64 k'.t)).other (p := ⟨w.heap.size, 1, none⟩) (by simp) (.int .u64 k'.n)).other (p := ⟨w.heap.size, 2, none⟩) (by simp) (sv k'.s)).fr hw4 (fun x => x)
  obtain ⟨v40, v41, v42⟩ := Has.cells3 (v := ⟨vt, vn, vs⟩) v4
  obtain ⟨k43, k44, k45⟩ := Has.cells3 (v := k') k4
  have z4 := v4.lt
  clear hw4 k3 v3 k30 k31 k32 k33 k34 k35 z3 y3
  go_wp2_with fail
  refine (hNil _).mono ?_
  rintro e w5 ⟨rfl, hw5⟩
  have f5 : Fr (fun _ => False) w w5 := f4.trans hw5 (fun _ _ x => x)
  have k5 := k4.fr hw5 (fun x => x)
  have v5 := v4.fr hw5 (fun x => x)
  have r5 := HP.out.r.st (Stp.fresh (fun _ => False) o f5) (fun _ _ x => x)
  have d0 := f5.cell c0
  have d1 := f5.cell c1
  have hgl5 : g < w5.heap.size := Nat.lt_of_lt_of_le gl f5.size
  have h33 : ¬ (32 : Int) ≤ (t.order.length : Int) := by omega
  have HR5 : Hid (TabsRep w5 o bt bn s n xs) := r5
  have hrow := (r5.one h _ HP.out.hx).ord.own
  have HROW : Hid (w5.ownsRow 0 259 6 (l.ord.v t.order.length) t.order.length (t.order.flatMap eCells)) := hrow
  have hO5 : Ow w5 o := fun j hj => HP.out.hO j (Nat.le_trans f5.size hj)
  have HO5 : Hid (Ow w5 o) := hO5
  obtain ⟨M, HM⟩ : ∃ M : Nat, Hid (t.order.length = M) := ⟨_, rfl⟩
  obtain ⟨K, HKK2⟩ : ∃ K : Nat, Hid (t.arr.length = K) := ⟨_, rfl⟩
  have hK32 : K ≤ 32 := by rw [← HKK2.out]; exact hal
  have hM32 : M < 32 := by rw [← HM.out]; exact h32
  have d0' := d0
  have d1' := d1
  rw [HM.out] at d0' h33
  rw [HKK2.out] at d1'
  obtain ⟨k50, k51, k52⟩ := Has.cells3 (v := k') k5
  obtain ⟨v50, v51, v52⟩ := Has.cells3 (v := ⟨vt, vn, vs⟩) v5
  have z5 := v5.lt
  have y5 := k5.lt
  have hownlt : ∀ j, (l.ord.v t.order.length).ownBlock = some j → j < w.heap.size := fun j hj => (HP.out.r.one h _ HP.out.hx).ord.lt (by rw [ownBlock_any _ _ _ t.order.length l.ord.c]; exact hj)
  clear hw5 k4 v4 f4 v40 v41 v42 k43 k44 k45 z4 r5 hrow hO5 d0 d1 hNil c0 c1
  go_wp2_with fail
  refine wp_region_app rowEnt 8 (by kernel_rfl) (by kernel_rfl) (fun _ _ _ _ _ h => h) _ _ _ rfl (.tmp 89) (.tmp 86) 90 91 rfl rfl rfl rfl rfl rfl (l.ord.v t.order.length) t.order.length _ HROW.out (.agg #[.int .i64 k'.t, .int .u64 k'.n, sv k'.s, .int .i64 vt, .int .u64 vn, sv vs]) rfl (by decide) (by simp [Value.cells, Value.oneCell']) (by omega) ?_
  intro g4 cap w6 q1 q2 q3 q4
  have hvv : (⟨vt, vn, vs⟩ : Vl) = v := by rw [← HVT.out, ← HVN.out, ← HVS.out]
  obtain ⟨u1, u2, u3, u4, u5⟩ := HR5.out.appOrd HP.out.hx HP.out.hg HP.out.hn ((Fr.refl _ _).alloc _) (k', ⟨vt, vn, vs⟩) (by simpa [eCells, vCells, Value.cells] using q1) q2 (by
    rcases q3 with q3 | q3
    · exact .inl q3
    · right; rw [q3]; simp) q4
  rw [hvv] at u4
  have k6 : Has w6 w.heap.size _ _ := (k5.alloc _).fr q2 (fun hk => by have := hownlt _ hk; omega)
  have v6 : Has w6 (w.heap.size + 1) _ _ := (v5.alloc _).fr q2 (fun hk => by have := hownlt _ hk; omega)
  obtain ⟨k60, k61, k62⟩ := Has.cells3 (v := k') k6
  obtain ⟨v60, v61, v62⟩ := Has.cells3 (v := ⟨vt, vn, vs⟩) v6
  have z6 := v6.lt
  have y6 := k6.lt
  have e0 := u1 0 (by omega)
  have e1 := u1 1 (by omega)
  simp only [tbCells, List.getElem?_cons_zero, List.getElem?_cons_succ, Sl.v] at e0 e1
  rw [Nat.add_zero] at e0 u4 u5
  have e0f := u2 (h * 6)
  have e1f := u2 (h * 6 + 1)
  have hgk : g ≠ w.heap.size := by omega
  have hgv : g ≠ w.heap.size + 1 := by omega
  rw [HM.out] at e0 ⊢
  rw [HKK2.out] at e1
  rw [HM.out] at u4 u5
  have hxl' : h < xs.length := by rw [HN.out]; exact hxl
  have x7 : (xs.set h (({ t with order := t.order ++ [(k', v)] } : TabD), { l with ord := ⟨some ⟨g4, 0, none⟩, cap⟩ }))[h]? = some (({ t with order := t.order ++ [(k', v)] } : TabD), { l with ord := ⟨some ⟨g4, 0, none⟩, cap⟩ }) := List.getElem?_set_self hxl'
  have x7' := x7
  have r7 := u4
  have O7 : Ow (w6.setCell ⟨g, h * 6, none⟩ (.slice (some ⟨g4, 0, none⟩) (M + 1) cap)) (upd o g4 (100 + 5 * h)) := u5.hi HO5.out
  have hrow7 := (r7.one h _ x7).arr.own
  have HROW7 : Hid ((w6.setCell ⟨g, h * 6, none⟩ (.slice (some ⟨g4, 0, none⟩) (M + 1) cap)).ownsRow 0 21 1 (l.arr.v t.arr.length) t.arr.length (t.arr.flatMap aCells)) := hrow7
  have HR7 : Hid (TabsRep (w6.setCell ⟨g, h * 6, none⟩ (.slice (some ⟨g4, 0, none⟩) (M + 1) cap)) (upd o g4 (100 + 5 * h)) bt bn s n (xs.set h (({ t with order := t.order ++ [(k', v)] } : TabD), { l with ord := ⟨some ⟨g4, 0, none⟩, cap⟩ }))) := r7
  have HX7 : Hid ((xs.set h (({ t with order := t.order ++ [(k', v)] } : TabD), { l with ord := ⟨some ⟨g4, 0, none⟩, cap⟩ }))[h]? = some (({ t with order := t.order ++ [(k', v)] } : TabD), { l with ord := ⟨some ⟨g4, 0, none⟩, cap⟩ })) := x7
  have HO7 : Hid (Ow (w6.setCell ⟨g, h * 6, none⟩ (.slice (some ⟨g4, 0, none⟩) (M + 1) cap)) (upd o g4 (100 + 5 * h))) := O7
  have S7 : Hid (Stp (isB h) w o (w6.setCell ⟨g, h * 6, none⟩ (.slice (some ⟨g4, 0, none⟩) (M + 1) cap)) (upd o g4 (100 + 5 * h))) := (Stp.fresh _ _ f5).trans u5
  have hne' : i' = (K : Int) + 1 := by rw [← HII.out, ← HKK2.out]; exact HNE.out
  subst hne'
  clear u1 u2 u4 u5 x7 x7' r7 O7 hrow7 q1 q2 q3 q4 k6 v6 hownlt
  simp only [List.take_succ_cons, List.take_zero]
  repeat go_big_quiet_step (fail)
  refine wpQuiet_nil ⟨rfl, rfl, by simp, rfl, ?_⟩
  go_wp2_with (at_builtin; go_must (refine wpList_app rowI32 _ rfl (.tmp 117) (.tmp 119) rfl (l.arr.v t.arr.length) t.arr.length (t.arr.flatMap aCells) (by rw [HKK2.out]; rfl) (owns_alloc HROW7.out _) _ [.int .i32 M] rfl (Has.newSet _ _ _ _ _) rfl ?one ?bd ?go))
  case one => simp [Value.oneCell']
  case bd => rw [HKK2.out]; omega
  case go =>
    intro g8 cap8 w8 q1 q2 q3 q4
    obtain ⟨u1, u2, u3, u4, u5⟩ := HR7.out.appArr HX7.out HP.out.hg HP.out.hn ((Fr.refl _ _).alloc _) M q1 q2 (by
      rcases q3 with q3 | q3
      · exact .inl q3
      · right; rw [q3]; simp) q4
    rw [List.set_set] at u4
    have v1 := u1 1 (by omega)
    simp only [tbCells, List.getElem?_cons_succ, List.getElem?_cons_zero, Sl.v] at v1
    have v1f := u2 (h * 6 + 1)
    have hf8 : TFit ({ t with order := t.order ++ [(k', v)], arr := t.arr ++ [M] } : TabD) := by
      have := HP.out.hf.appArr h32 (k', v) HNIL.out
      rw [HM.out] at this
      exact this
    have x8 : (xs.set h (({ t with order := t.order ++ [(k', v)], arr := t.arr ++ [M] } : TabD), ({ l with ord := ⟨some ⟨g4, 0, none⟩, cap⟩, arr := ⟨some ⟨g8, 0, none⟩, cap8⟩ } : TbL)))[h]? = some (({ t with order := t.order ++ [(k', v)], arr := t.arr ++ [M] } : TabD), ({ l with ord := ⟨some ⟨g4, 0, none⟩, cap⟩, arr := ⟨some ⟨g8, 0, none⟩, cap8⟩ } : TbL)) := List.getElem?_set_self hxl'
    have hMg := migrate_any u4 x8 HP.out.hg HP.out.hn hf8 (u5.hi HO7.out)
    rw [HKK2.out] at hMg v1 u5 ⊢
    have HMG : Hid (Calls _ _ _ _ _) := hMg
    have S8 : Hid (Stp _ _ _ _ _) := S7.out.trans u5
    clear q1 q2 q3 q4 u1 u2 u4 u5 hMg x8 hf8
    go_wp2_with fail
    refine HMG.out.mono ?_
    rintro e w9 ⟨rfl, o9, l9, R9, S9⟩
    rw [List.set_set] at R9
    have HR9 : Hid (SetR w o bt bn s n xs h tz w9) := ⟨o9, l9, by rw [← HTZ.out, HKK.out, HM.out]; exact R9, S8.out.trans S9⟩
    clear R9 S9 HMG
    go_wp2_with fail
    go_ret
    exact ⟨rfl, HR9.out⟩
theorem SetR.same (P : SetP w o bt bn s n xs h g t l k v) {w' : World} (hf : Fr (fun _ => False) w w') : SetR w o bt bn s n xs h t w' := ⟨o, l, by rw [set_same P.hx]; exact P.r.st (Stp.fresh (fun _ => False) o hf) (fun _ _ x => x), Stp.fresh _ _ hf⟩
theorem set_any (P : SetP w o bt bn s n xs h g t l k v) :
    Calls Tryz.prog 82 #[.pointer (some ⟨bt, 0, none⟩), .int .i64 h, k.val, v.val] w fun e w' => e = .returned (.int .i64 (t.put k v).1) ∧ SetR w o bt bn s n xs h (t.put k v).2 w' := by
  by_cases h0 : k.t = 0
  · have e1 : t.put k v = (5, t) := by simp [TabD.put, P.hk, P.hv, h0]
    rw [e1]
    refine (set_nil P h0).mono ?_
    rintro e w' ⟨rfl, hf⟩
    exact ⟨rfl, SetR.same P hf⟩
  by_cases h2 : k.t = 2
  · cases hn : isNan k.n with
    | true =>
      have e1 : t.put k v = (6, t) := by simp [TabD.put, P.hk, P.hv, h2, hn]
      rw [e1]
      refine (set_nan P h2 hn).mono ?_
      rintro e w' ⟨rfl, hf⟩
      exact ⟨rfl, SetR.same P hf⟩
    | false =>
      cases hq : t.find (oneV k).1 (oneV k).2 with
      | some p => exact set_num_turn P h2 hn hq
      | none =>
        cases hv : isNilV v with
        | true => exact set_num_nil P h2 hn hq hv
        | false =>
          by_cases h32 : t.order.length < 32
          · by_cases hne : (oneV k).2 = t.arr.length + 1
            · exact set_num_arr P h2 hn hq hv h32 hne
            · exact set_num_index P h2 hn hq hv h32 hne
          · exact set_num_full P h2 hn hq hv h32
  · cases hq : t.find (oneV k).1 (oneV k).2 with
    | some p => exact set_oth_turn P h0 h2 hq
    | none =>
      cases hv : isNilV v with
      | true => exact set_oth_nil P h0 h2 hq hv
      | false =>
        by_cases h32 : t.order.length < 32
        · by_cases hne : (oneV k).2 = t.arr.length + 1
          · exact set_oth_arr P h0 h2 hq hv h32 hne
          · exact set_oth_index P h0 h2 hq hv h32 hne
        · exact set_oth_full P h0 h2 hq hv h32
end
end Go.Proofs.Qxb6500574aGreatDoor
