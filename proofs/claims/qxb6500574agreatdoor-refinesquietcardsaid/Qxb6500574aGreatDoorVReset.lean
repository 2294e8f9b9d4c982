/-
  THE WALK of table: Reset.
-/
import Derived.Test.Qxb6500574aGreatDoorVIndex
import Derived.Test.Qxb6500574aGreatDoorVNewT
namespace Go.Proofs.Qxb6500574aGreatDoor
open Go Go.RowKit
set_option linter.unusedVariables false
set_option linter.unusedSimpArgs false

section
variable {w : World} {o : Nat → Nat} {bt bn n h g : Nat} {s : Sl} {xs : List (TabD × TbL)} {t : TabD} {l : TbL}
theorem TabsRep.cutOrd (r : TabsRep w o bt bn s n xs) (hx : xs[h]? = some (t, l)) (hg : s.a = some ⟨g, 0, none⟩) (hn : h < n) :
    TabsRep (w.setCell ⟨g, h * 6 + 0, none⟩ (.slice l.ord.a 0 l.ord.c)) o bt bn s n (xs.set h ({ t with order := [] }, l)) ∧ Stp (isB h) w o (w.setCell ⟨g, h * 6 + 0, none⟩ (.slice l.ord.a 0 l.ord.c)) o := by
  obtain ⟨r1, r2⟩ := TabsRep.rowPut (t' := { t with order := [] }) (l' := l) (j := 0) (u := .slice l.ord.a 0 l.ord.c) r.row hx hg (by omega) rfl
  have q : Stp (isB h) w o (w.setCell ⟨g, h * 6 + 0, none⟩ (.slice l.ord.a 0 l.ord.c)) o := r2.weaken (fun k hk => .inl hk)
  have one := (r.one h _ hx).st r2 (fun j _ => by omega)
  exact ⟨r.turn hx q r1 ⟨one.ord.take 0 (Nat.zero_le _) (by simp), one.arr, one.nums, one.strs, one.refs⟩ hn, q⟩
theorem TabsRep.cutArr (r : TabsRep w o bt bn s n xs) (hx : xs[h]? = some (t, l)) (hg : s.a = some ⟨g, 0, none⟩) (hn : h < n) :
    TabsRep (w.setCell ⟨g, h * 6 + 1, none⟩ (.slice l.arr.a 0 l.arr.c)) o bt bn s n (xs.set h ({ t with arr := [] }, l)) ∧ Stp (isB h) w o (w.setCell ⟨g, h * 6 + 1, none⟩ (.slice l.arr.a 0 l.arr.c)) o := by
  obtain ⟨r1, r2⟩ := TabsRep.rowPut (t' := { t with arr := [] }) (l' := l) (j := 1) (u := .slice l.arr.a 0 l.arr.c) r.row hx hg (by omega) rfl
  have q : Stp (isB h) w o (w.setCell ⟨g, h * 6 + 1, none⟩ (.slice l.arr.a 0 l.arr.c)) o := r2.weaken (fun k hk => .inl hk)
  have one := (r.one h _ hx).st r2 (fun j _ => by omega)
  exact ⟨r.turn hx q r1 ⟨one.ord, one.arr.take 0 (Nat.zero_le _) (by simp), one.nums, one.strs, one.refs⟩ hn, q⟩
/-- the first j tables wiped -/
def wiped (j : Nat) (xs : List (TabD × TbL)) : List (TabD × TbL) := (xs.take j).map (fun x => (tab0, x.2)) ++ xs.drop j
theorem wiped_len (j : Nat) (xs : List (TabD × TbL)) : (wiped j xs).length = xs.length := by simp [wiped]; omega
theorem wiped_at (j : Nat) (xs : List (TabD × TbL)) (hj : j < xs.length) : (wiped j xs)[j]? = xs[j]? := by
  unfold wiped
  rw [List.getElem?_append_right (by simp; omega)]
  simp
  congr 1
  omega
theorem wiped_succ (j : Nat) (xs : List (TabD × TbL)) {t : TabD} {l : TbL} (hx : xs[j]? = some (t, l)) : (wiped j xs).set j (tab0, l) = wiped (j + 1) xs := by
  have hj : j < xs.length := (List.getElem?_eq_some_iff.1 hx).1
  have e : xs[j] = (t, l) := (List.getElem?_eq_some_iff.1 hx).2
  unfold wiped
  rw [List.set_append_right _ _ (by simp; omega)]
  have e2 : j - ((xs.take j).map (fun x => (tab0, x.2))).length = 0 := by simp; omega
  rw [e2, List.drop_eq_getElem_cons hj, List.set_cons_zero, List.take_succ_eq_append_getElem hj, List.map_append]
  simp [e]
set_option maxRecDepth 100000
set_option maxHeartbeats 600000
theorem reset_any (r : TabsRep w o bt bn s n xs) (hn12 : n ≤ 12) : Calls Tryz.prog 79 #[.pointer (some ⟨bt, 0, none⟩)] w fun e w' => e = .returned (.tuple #[]) ∧ TabsRep w' o bt bn s 0 (wiped n xs) ∧ Stp isTb w o w' o := by
  have b2 := r.here.has.cell 2
  simp only [List.getElem?_toArray, List.getElem?_cons_zero, List.getElem?_cons_succ] at b2
  have hbt := r.here.has.lt
  have hnx := r.le
  by_cases hn0 : n = 0
  · subst hn0
    have FIN : Hid (TabsRep (w.setCell ⟨bt, 2, none⟩ (.int .i64 ((0 : Nat) : Int))) o bt bn s 0 (wiped 0 xs) ∧ Stp isTb w o (w.setCell ⟨bt, 2, none⟩ (.int .i64 ((0 : Nat) : Int))) o) := by
      obtain ⟨a, b⟩ := r.count 0 (Nat.zero_le _) (fun h x hx _ => r.wait h x hx (Nat.zero_le _))
      have : wiped 0 xs = xs := by simp [wiped]
      rw [this]
      exact ⟨a, b⟩
    have f2 := r.here.has.frozen 2
    clear r
    go_enter Tryz.func79, Tryz.ntmps79
    go_wp2
    go_loopw [8] (fun v wr => v = .int .i64 0 ∧ wr = w) (fun v _ => 0)
    case atStart => exact ⟨rfl, rfl⟩
    case round =>
      obtain ⟨rfl, rfl⟩ := hrel
      go_wp2
      go_end0
      exact ⟨rfl, FIN.out⟩
  · obtain ⟨t0, l0, hx0⟩ : ∃ t0 l0, xs[0]? = some (t0, l0) := ⟨(xs[0]'(by omega)).1, (xs[0]'(by omega)).2, by simp [List.getElem?_eq_getElem (show 0 < xs.length by omega)]⟩
    obtain ⟨g, ga, gcap, glab, gl, _, _⟩ := r.at hx0
    have b1 := r.here.has.cell 1
    simp only [List.getElem?_toArray, List.getElem?_cons_zero, List.getElem?_cons_succ, Sl.v, ga] at b1
    have btlab := r.here.lb
    have hgbt : g ≠ bt := fun e => by rw [e, btlab] at glab; omega
    have HR : Hid (TabsRep w o bt bn s n xs) := r
    have HGA : Hid (s.a = some ⟨g, 0, none⟩) := ga
    obtain ⟨N, HN⟩ : ∃ N : Nat, Hid (xs.length = N) := ⟨_, rfl⟩
    rw [HN.out] at b1 hnx gcap
    clear r ga hx0
    go_enter Tryz.func79, Tryz.ntmps79
    go_wp2
    go_loopw [8] (fun v wr => ∃ j : Nat, j ≤ n ∧ v = .int .i64 j ∧ Hid (TabsRep wr o bt bn s n (wiped j xs)) ∧ Hid (Stp isTb w o wr o)) (fun v _ => n - (intOf v).toNat)
    case atStart => exact ⟨0, Nat.zero_le _, rfl, by rw [show wiped 0 xs = xs by simp [wiped]]; exact HR, Stp.refl _ _ _⟩
    case round =>
      obtain ⟨j, hj, rfl, G, S⟩ := hrel
      have hbt' := G.out.here.has.lt
      have d2 := G.out.here.has.cell 2
      have d1 := G.out.here.has.cell 1
      have k2 := G.out.here.has.frozen 2
      simp only [List.getElem?_toArray, List.getElem?_cons_zero, List.getElem?_cons_succ, Sl.v, HGA.out, wiped_len, HN.out] at d1 d2
      by_cases hjl : j < n
      · obtain ⟨t, l, hx⟩ : ∃ t l, xs[j]? = some (t, l) := ⟨(xs[j]'(by rw [HN.out]; omega)).1, (xs[j]'(by rw [HN.out]; omega)).2, by rw [List.getElem?_eq_getElem (show j < xs.length by rw [HN.out]; omega)]⟩
        have hxw : (wiped j xs)[j]? = some (t, l) := by rw [wiped_at j xs (by rw [HN.out]; omega)]; exact hx
        obtain ⟨g', ga, _, _, gl', gc, gf⟩ := G.out.at hxw
        rw [HGA.out] at ga
        cases ga
        have c0 := gc 0 (by omega)
        have c1 := gc 1 (by omega)
        have c2 := gc 2 (by omega)
        have c3 := gc 3 (by omega)
        have c4 := gc 4 (by omega)
        have c5 := gc 5 (by omega)
        simp only [tbCells, List.getElem?_cons_zero, List.getElem?_cons_succ, Sl.v] at c0 c1 c2 c3 c4 c5
        have z0 := gf (j * 6)
        have z1 := gf (j * 6 + 1)
        have z5 := gf (j * 6 + 5)
        rw [Nat.add_zero] at c0
        have hjx : j < (wiped j xs).length := by rw [wiped_len, HN.out]; omega
        obtain ⟨r1, s1⟩ := G.out.cutOrd hxw HGA.out hjl
        rw [Nat.add_zero] at r1 s1
        obtain ⟨r2, s2⟩ := r1.cutArr (h := j) (t := { t with order := [] }) (l := l) (by rw [List.getElem?_set_self hjx]) HGA.out hjl
        rw [List.set_set] at r2
        have x2 : ((wiped j xs).set j ({ t with order := [], arr := [] }, l))[j]? = some ({ t with order := [], arr := [] }, l) := by rw [List.getElem?_set_self hjx]
        obtain ⟨w3, hr3, m3, q3⟩ := run_clr (P := Tryz.prog) (T := 244) (ty := 0) mapU.m (r2.one j _ x2).nums
        obtain ⟨r3, s3⟩ := r2.setNums (m := []) x2 hjl m3 q3
        rw [List.set_set] at r3
        have x3 : ((wiped j xs).set j ({ t with order := [], arr := [], nums := [] }, l))[j]? = some ({ t with order := [], arr := [], nums := [] }, l) := by rw [List.getElem?_set_self hjx]
        obtain ⟨w4, hr4, m4, q4⟩ := run_clr (P := Tryz.prog) (T := 245) (ty := 0) mapS.m (r3.one j _ x3).strs
        obtain ⟨r4, s4⟩ := r3.setStrs (m := []) x3 hjl m4 q4
        rw [List.set_set] at r4
        have x4 : ((wiped j xs).set j ({ t with order := [], arr := [], nums := [], strs := [] }, l))[j]? = some ({ t with order := [], arr := [], nums := [], strs := [] }, l) := by rw [List.getElem?_set_self hjx]
        obtain ⟨w5, hr5, m5, q5⟩ := run_clr (P := Tryz.prog) (T := 244) (ty := 0) mapU.m (r4.one j _ x4).refs
        obtain ⟨r5, s5⟩ := r4.setRefs (m := []) x4 hjl m5 q5
        rw [List.set_set] at r5
        have x5 : ((wiped j xs).set j ({ t with order := [], arr := [], nums := [], strs := [], refs := [] }, l))[j]? = some ({ t with order := [], arr := [], nums := [], strs := [], refs := [] }, l) := by rw [List.getElem?_set_self hjx]
        obtain ⟨r6, s6⟩ := r5.setDead x5 HGA.out hjl 0
        rw [List.set_set] at r6
        have r7 : TabsRep (w5.setCell ⟨g, j * 6 + 5, none⟩ (.int .i64 ((0 : Nat) : Int))) o bt bn s n (wiped (j + 1) xs) := by rw [← wiped_succ j xs hx]; exact r6
        have S7 : Stp isTb w o (w5.setCell ⟨g, j * 6 + 5, none⟩ (.int .i64 ((0 : Nat) : Int))) o := S.out.trans (((((s1.trans s2).trans s3).trans s4).trans s5).trans s6 |>.weaken (fun k hk => isB_tb hk))
        obtain ⟨_, ya, _, _, yl, yc, yf⟩ := r2.at x2
        rw [HGA.out] at ya
        cases ya
        obtain ⟨_, ya, _, _, yl3, yc3, yf3⟩ := r3.at x3
        rw [HGA.out] at ya
        cases ya
        obtain ⟨_, ya, _, _, yl4, yc4, yf4⟩ := r4.at x4
        rw [HGA.out] at ya
        cases ya
        obtain ⟨_, ya, _, _, yl5, yc5, yf5⟩ := r5.at x5
        rw [HGA.out] at ya
        cases ya
        have u3 := yc3 3 (by omega)
        have u4 := yc4 4 (by omega)
        have u5 := yc5 5 (by omega)
        simp only [tbCells, List.getElem?_cons_zero, List.getElem?_cons_succ, Sl.v] at u3 u4 u5
        have v5 := yf5 (j * 6 + 5)
        have R7 : Hid (TabsRep _ _ _ _ _ _ _) := r7
        have HS7 : Hid (Stp _ _ _ _ _) := S7
        clear yc yf yc3 yf3 yc4 yf4 yc5 yf5 x2 x3 x4 x5 r1 r2 r3 r4 r5 r6 r7 s1 s2 s3 s4 s5 s6 S7 m3 m4 m5 q3 q4 q5 G S gc gf hxw hx hjx
        go_wp2
        exact ⟨⟨j + 1, by omega, by go_num, R7, HS7⟩, by simp [intOf]; omega⟩
      · have hjn : j = n := by omega
        subst hjn
        obtain ⟨a, b⟩ := G.out.count 0 (Nat.zero_le _) (fun h x hx _ => by
          unfold wiped at hx
          by_cases hh : h < j
          · rw [List.getElem?_append_left (by simp; have := HN.out; omega)] at hx
            obtain ⟨y, _, hy⟩ := List.mem_map.1 (List.mem_of_getElem? hx)
            rw [← hy]
          · rw [List.getElem?_append_right (by simp; omega)] at hx
            rw [List.getElem?_drop] at hx
            have e : j + (h - ((xs.take j).map (fun x => (tab0, x.2))).length) = h := by simp; have := HN.out; omega
            rw [e] at hx
            exact HR.out.wait h x hx (by omega))
        have FIN : Hid (_ ∧ _) := And.intro a (S.out.trans b)
        clear a b G S
        go_wp2
        go_end0
        exact ⟨rfl, FIN.out⟩
end
end Go.Proofs.Qxb6500574aGreatDoor
