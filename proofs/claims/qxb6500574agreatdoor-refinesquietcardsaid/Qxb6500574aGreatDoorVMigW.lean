/-
  THE WALK of table: migrate.
-/
import Derived.Test.Qxb6500574aGreatDoorVMig
import Derived.Test.Qxb6500574aGreatDoorVTape
import Derived.Test.Qxb6500574aGreatDoorVTabApp
namespace Go.Proofs.Qxb6500574aGreatDoor
open Go Go.RowKit
set_option linter.unusedVariables false
set_option linter.unusedSimpArgs false

theorem rowI32 : IsRow Tryz.prog 243 21 (.int .i32 0) 1 4 := ⟨by kernel_rfl, by kernel_rfl, rfl, by decide⟩
theorem run_lenMap {w : World} {o : Nat → Nat} {lab b : Nat} {l : List (Nat × Nat)} (h : MapAt w o lab b (ents nk l)) (ty : TypeId) : (Builtin.len_ #[244] ty #[.map (some b)]).run Tryz.prog w = .ok (.int .i64 l.length) w := by
  obtain ⟨es, c, h1, h2, _⟩ := h.here
  have hl : es.size = l.length := by
    have := congrArg List.length h2
    simpa [ents] using this
  unfold Builtin.len_
  simp [Sem.run_bind, run_underlying mapU.m, MapKept.run_getObj_map h1, Result.andThen, hl, goInt]
theorem set_same {α : Type} : ∀ {xs : List α} {i : Nat} {a : α}, xs[i]? = some a → xs.set i a = xs
  | [], _, _, h => by simp at h
  | x :: xs, 0, a, h => by simp at h; simp [h]
  | x :: xs, i + 1, a, h => by simp at h; simp [set_same h]
section
variable {w : World} {o : Nat → Nat} {bt bn n h g : Nat} {s : Sl} {xs : List (TabD × TbL)} {t : TabD} {l : TbL}
set_option maxRecDepth 100000
set_option maxHeartbeats 600000
theorem mig_none (r : TabsRep w o bt bn s n xs) (hx : xs[h]? = some (t, l)) (hg : s.a = some ⟨g, 0, none⟩) (h0 : t.nums = []) :
    Calls Tryz.prog 140 #[.pointer (some ⟨bt, 0, none⟩), .pointer (some ⟨g, h * 6, none⟩)] w fun e w' => e = .returned (.tuple #[]) ∧ w' = w := by
  obtain ⟨g', ga, _, _, gl, gc, gf⟩ := r.at hx
  rw [hg] at ga
  cases ga
  have c2 := gc 2 (by omega)
  simp only [tbCells, List.getElem?_cons_succ, List.getElem?_cons_zero, Sl.v] at c2
  have hl := fun ty => run_lenMap (r.one h _ hx).nums ty
  rw [h0] at hl
  clear r hx gc gf
  go_enter Tryz.func140, Tryz.ntmps140
  go_wp2
  refine bodyPost_ret (results_none rfl _ _ _) rfl ?_
  exact ⟨rfl, rfl⟩
/-- the sweep -/
structure Sweep (w wr : World) (bm c K : Nat) (es : Array MapEntry) (seen : Array Nat) (f : Nat → Int) (w1 : World) : Prop where
  eq : wr = w1.alloc (.mapIter (some bm) c seen c)
  fr : Fr (fun _ => False) w w1
  sz : w1.heap.size = w.heap.size + 1
  here : Has w1 w.heap.size (atCells f).toArray 333
  inv : AtInv K es seen f
theorem mig_some (r : TabsRep w o bt bn s n xs) (hx : xs[h]? = some (t, l)) (hg : s.a = some ⟨g, 0, none⟩) (hn : h < n) (hf : TFit t) (hO : Ow w o) (h0 : t.nums ≠ []) :
    Calls Tryz.prog 140 #[.pointer (some ⟨bt, 0, none⟩), .pointer (some ⟨g, h * 6, none⟩)] w fun e w' => e = .returned (.tuple #[]) ∧ ∃ o' l', TabsRep w' o' bt bn s n (xs.set h (t.migrate, l')) ∧ Stp (isB h) w o w' o' := by
  obtain ⟨g', ga, _, _, gl, gc, gf⟩ := r.at hx
  rw [hg] at ga
  cases ga
  have c1 := gc 1 (by omega)
  have c2 := gc 2 (by omega)
  simp only [tbCells, List.getElem?_cons_succ, List.getElem?_cons_zero, Sl.v] at c1 c2
  have b0 := r.here.has.cell 0
  simp only [List.getElem?_toArray, List.getElem?_cons_zero] at b0
  have hbt := r.here.has.lt
  have hl := fun ty => run_lenMap (r.one h _ hx).nums ty
  have hl0 : ((t.nums.length : Int) == 0) = false := by
    rw [beq_eq_false_iff_ne]
    have : t.nums.length ≠ 0 := fun e => h0 (List.eq_nil_of_length_eq_zero e)
    omega
  obtain ⟨es, c, m1, m2, m3⟩ := (r.one h _ hx).nums.here
  have hml := (Array.getElem?_eq_some_iff.1 m1).1
  have hal := hf.al
  have HO : Hid (Ow w o) := hO
  have HR : Hid (TabsRep w o bt bn s n xs) := r
  have HX : Hid (xs[h]? = some (t, l)) := hx
  have HF : Hid (TFit t) := hf
  have HG : Hid (s.a = some ⟨g, 0, none⟩) := hg
  have HM2 : Hid (es.toList.map (fun e => (e.key, e.val)) = ents nk t.nums) := m2
  have HM3 : Hid (MapKept.Stamped es c) := m3
  have HM1 : Hid (w.heap[l.nums]? = some (.map es c)) := m1
  obtain ⟨K, HK⟩ : ∃ K : Nat, Hid (t.arr.length = K) := ⟨_, rfl⟩
  rw [HK.out] at c1 hal
  have hrg := run_range_map (P := Tryz.prog) (w.alloc (.cells (atCells (fun _ => 0)).toArray 333)) 244 36 21 l.nums es c mapU.m (by rw [Below.heap_alloc _ _ _ hml]; exact m1)
  simp only [atCells, List.range_succ, List.range_zero, List.nil_append, List.cons_append, List.map_cons, List.map_nil] at hrg
  clear r hx hf hg gc gf h0 m1 m2 m3 hO
  go_enter Tryz.func140, Tryz.ntmps140
  go_wp2
  go_loopw [5] (fun _ wr => ∃ (w1 : World) (seen : Array Nat) (f : Nat → Int), Hid (Sweep w wr l.nums c K es seen f w1)) (fun _ wr => (leftOf es (wr.iterSeen (w.heap.size + 1))).size)
  case atStart =>
    refine ⟨w.alloc (.cells (atCells (fun _ => 0)).toArray 333), #[], fun _ => 0, ⟨rfl, (Fr.refl _ _).alloc _, by simp, Has.new _ _ _, ⟨fun _ => .inl rfl, fun e _ hs => ?_⟩⟩⟩
    simp at hs
  case round =>
    obtain ⟨w1, seen, f, G⟩ := hrel
    have hsz := G.out.sz
    have hb1 : w1.heap[l.nums]? = some (.map es c) := (G.out.fr.block _ hml (fun x => x)).trans HM1.out
    have law := run_next_map (P := Tryz.prog) w1 0 l.nums c c seen es c hb1 HM3.out.1 (Nat.le_refl _)
    rw [hsz] at law
    rcases law with ⟨hz0, hrun⟩ | ⟨e, he, w2, hal2, hrun⟩
    · rw [← G.out.eq] at hrun
      have hnx : ∀ ty, (Instr.next (.pointer (some ⟨w.heap.size + 1, 0, none⟩)) false ty).run Tryz.prog wr = .ok (.tuple #[.bool false]) wr := fun _ => hrun
      have fw : Fr (fun _ => False) w wr := by rw [G.out.eq]; exact G.out.fr.alloc _
      have hat : Has wr w.heap.size (atCells f).toArray 333 := by rw [G.out.eq]; exact G.out.here.alloc _
      have hfi : ∀ i, K < i → i ≤ 32 → f i = match atN t.nums i with | none => 0 | some p => (p : Int) + 1 := fun i h1 h2 => G.out.inv.all hz0 HM2.out HM3.out HF.out.nb h1 h2
      have HFI : Hid (∀ i, K < i → i ≤ 32 → f i = match atN t.nums i with | none => 0 | some p => (p : Int) + 1) := hfi
      have HAT : Hid (Has wr w.heap.size (atCells f).toArray 333) := hat
      have HFW : Hid (Fr (fun _ => False) w wr) := fw
      have d1 := fw.cell c1
      have hmg : t.migrate = migL t.nums (32 - K) (K + 1) t := by
        unfold TabD.migrate
        rw [if_neg (fun e => by rw [e] at hl0; simp at hl0), HK.out]
      have HMG : Hid (t.migrate = migL t.nums (32 - K) (K + 1) t) := hmg
      have hgl : g < wr.heap.size := Nat.lt_of_lt_of_le gl fw.size
      clear hrun hb1 hsz hfi hat fw G hmg
      go_wp2
      obtain ⟨wz, HWZ⟩ : ∃ wz : World, Hid (wz = wr) := ⟨wr, rfl⟩
      have hxl : h < xs.length := (List.getElem?_eq_some_iff.1 HX.out).1
      go_loopw [9] (fun v wq => ∃ (i : Nat) (o1 : Nat → Nat) (t1 : TabD) (l1 : TbL), i ≤ 33 ∧ v = .int .i64 i ∧ Hid (K < i ∧ t1.arr.length + 1 = i ∧ t1.order = t.order) ∧ Hid (TabsRep wq o1 bt bn s n (xs.set h (t1, l1))) ∧ Hid (Stp (isB h) w o wq o1) ∧ Hid (Has wq w.heap.size (atCells f).toArray 333 ∧ o1 w.heap.size = 0) ∧ Hid (t.migrate = migL t.nums (33 - i) i t1)) (fun v _ => 34 - (intOf v).toNat)
      case atStart =>
        refine ⟨K + 1, o, t, l, by omega, by go_num, ⟨by omega, by rw [HK.out], rfl⟩, ?_, Stp.fresh _ _ HFW.out, ⟨HAT.out, HO.out _ (Nat.le_refl _)⟩, ?_⟩
        · have e : xs.set h (t, l) = xs := set_same HX.out
          rw [e]
          exact HR.out.st (Stp.fresh (fun _ => False) o HFW.out) (fun _ _ x => x)
        · rw [HMG.out, show 33 - (K + 1) = 32 - K by omega]
          rfl
      case round =>
        obtain ⟨i, o1, t1, l1, hi, rfl, I1, R1, S1, A1, M1⟩ := hrel
        have hxw : (xs.set h (t1, l1))[h]? = some (t1, l1) := List.getElem?_set_self hxl
        have HXW : Hid ((xs.set h (t1, l1))[h]? = some (t1, l1)) := hxw
        obtain ⟨g', ga, _, _, gl', gc, gf⟩ := R1.out.at hxw
        rw [HG.out] at ga
        cases ga
        have e0 := gc 0 (by omega)
        have e1 := gc 1 (by omega)
        have e2 := gc 2 (by omega)
        simp only [tbCells, List.getElem?_cons_succ, List.getElem?_cons_zero, Sl.v] at e0 e1 e2
        rw [Nat.add_zero] at e0
        have z1 := gf (h * 6 + 1)
        have hal1 : w.heap.size < wr.heap.size := A1.out.1.lt
        clear gc gf hxw
        by_cases hi32 : i ≤ 32
        · have hat := A1.out.1.cell i
          rw [List.getElem?_toArray, atCells_at f (by omega)] at hat
          rw [HFI.out i I1.out.1 hi32] at hat
          have hi2 : ((i : Int) ≤ 32) := by omega
          cases hA : atN t.nums i with
          | none =>
            rw [hA] at hat
            simp only at hat
            have HM' : Hid (t.migrate = t1) := by
              have := M1.out
              rw [show 33 - i = (32 - i) + 1 by omega] at this
              simp only [migL, hA] at this
              exact this
            clear hA M1
            go_wp2
            go_end0
            refine ⟨rfl, o1, l1, ?_, S1.out⟩
            rw [HM'.out]
            exact R1.out
          | some p =>
            rw [hA] at hat
            simp only at hat
            have hpm : ∃ e ∈ t.nums, e.2 = p := by
              unfold atN at hA
              cases hfi : t.nums.find? (fun e => toIntN e.1 == some (i : Int)) with
              | none => rw [hfi] at hA; cases hA
              | some e => rw [hfi] at hA; simp at hA; exact ⟨e, List.mem_of_find?_eq_some hfi, hA⟩
            obtain ⟨e9, he9, hp9⟩ := hpm
            have hpl : p < t.order.length := hp9 ▸ HF.out.np e9 he9
            have hol := HF.out.ol
            obtain ⟨en, hen⟩ : ∃ e : Vl × Vl, t1.order[p]? = some e := ⟨_, List.getElem?_eq_getElem (by rw [I1.out.2.2]; exact hpl)⟩
            have hord1 : t1.order.length = t.order.length := by rw [I1.out.2.2]
            obtain ⟨go, x1, x2, x3, x4, x5, x6⟩ := (R1.out.one h _ HXW.out).ord.cells (show 0 < t1.order.length by omega)
            have k1 := (x5 (p * 6 + 1) (show _ < t1.order.length * 6 by omega)).trans (flatMap_at _ 6 eCells_len t1.order p 1 _ hen (by omega))
            simp only [eCells, vCells, List.cons_append, List.nil_append, List.getElem?_cons_succ, List.getElem?_cons_zero] at k1
            rw [x1] at e0
            have x2' : t1.order.length ≤ l1.ord.c := x2
            have hM : t.migrate = migL t.nums (33 - (i + 1)) (i + 1) { t1 with nums := t1.nums.eraseP (fun e => e.1 == en.1.n), arr := t1.arr ++ [p] } := by
              have := M1.out
              rw [show 33 - i = (32 - i) + 1 by omega] at this
              simp only [migL, hA] at this
              rw [show 33 - (i + 1) = 32 - i by omega, this]
              simp [hen]
            have HMM : Hid (t.migrate = migL t.nums (33 - (i + 1)) (i + 1) { t1 with nums := t1.nums.eraseP (fun e => e.1 == en.1.n), arr := t1.arr ++ [p] }) := hM
            obtain ⟨wd, hdel, md, sd⟩ := run_del isK_u64 mapU 0 (R1.out.st (Stp.fresh (fun _ => False) o1 ((Fr.refl _ wr).drew)) (fun _ _ x => x) |>.one h _ HXW.out).nums en.1.n
            obtain ⟨rd, sd2⟩ := (R1.out.st (Stp.fresh (fun _ => False) o1 ((Fr.refl _ wr).drew)) (fun _ _ x => x)).setNums (m := t1.nums.eraseP (fun e => e.1 == en.1.n)) HXW.out hn md sd
            rw [List.set_set] at rd
            have hxd : (xs.set h ({ t1 with nums := t1.nums.eraseP (fun e => e.1 == en.1.n) }, l1))[h]? = some ({ t1 with nums := t1.nums.eraseP (fun e => e.1 == en.1.n) }, l1) := List.getElem?_set_self hxl
            have SD : Stp (isB h) w o wd o1 := S1.out.drew.trans sd2
            have AD : Has wd w.heap.size (atCells f).toArray 333 := sd2.has A1.out.1.drew (by rw [A1.out.2]; intro hq; rcases hq with hq | hq <;> omega)
            obtain ⟨g3, ga3, _, _, gl3, gc3, gf3⟩ := rd.at hxd
            rw [HG.out] at ga3
            cases ga3
            have y1 := gc3 1 (by omega)
            simp only [tbCells, List.getElem?_cons_succ, List.getElem?_cons_zero, Sl.v] at y1
            have y1f := gf3 (h * 6 + 1)
            have hrow := (rd.one h _ hxd).arr.own
            have HROW : Hid (wd.ownsRow 0 21 1 (l1.arr.v t1.arr.length) t1.arr.length (t1.arr.flatMap aCells)) := hrow
            have HRD : Hid (TabsRep wd o1 bt bn s n (xs.set h ({ t1 with nums := t1.nums.eraseP (fun e => e.1 == en.1.n) }, l1))) := rd
            have HXD : Hid ((xs.set h ({ t1 with nums := t1.nums.eraseP (fun e => e.1 == en.1.n) }, l1))[h]? = some ({ t1 with nums := t1.nums.eraseP (fun e => e.1 == en.1.n) }, l1)) := hxd
            have HSD : Hid (Stp (isB h) w o wd o1) := SD
            have HAD : Hid (Has wd w.heap.size (atCells f).toArray 333) := AD
            have hdel' : ∀ ty, ty = 0 → (Builtin.delete_ #[244, 36] ty #[.map (some l1.nums), .int .u64 en.1.n]).run Tryz.prog wr.drew = .ok (.tuple #[]) wd := fun ty e => by rw [e]; exact hdel
            have hdl := hdel
            obtain ⟨N1, HN1⟩ : ∃ N : Nat, Hid (t1.order.length = N) := ⟨_, rfl⟩
            rw [HN1.out] at e0 hord1 x2'
            obtain ⟨N2, HN2⟩ : ∃ N : Nat, Hid (t1.arr.length = N) := ⟨_, rfl⟩
            rw [HN2.out] at e1 y1
            have hpN : p < N1 := by omega
            obtain ⟨kn, HKN⟩ : ∃ kn : Nat, Hid (en.1.n = kn) := ⟨_, rfl⟩
            rw [HKN.out] at k1 hdl
            have hp32 : p ≤ 32 := by omega
            clear hA M1 hM hdel hdel' md sd sd2 rd hxd SD AD gc3 gf3 hrow x5 x6 x1 x2 hen he9 hp9 e9
            go_wp2
            refine wp_region_tail 13 (by kernel_rfl) (by kernel_rfl) (fun _ _ _ _ _ h => h) ?_
            simp only [List.take_succ_cons, List.take_zero, List.drop_succ_cons, List.drop_zero]
            repeat go_big_quiet_step (fail)
            refine wpQuiet_nil ?_
            go_wp2_with (at_builtin; go_must (refine wpList_app rowI32 _ rfl (.tmp 91) (.tmp 93) rfl (l1.arr.v t1.arr.length) t1.arr.length (t1.arr.flatMap aCells) (by rw [HN2.out]; rfl) (owns_alloc HROW.out _) _ [.int .i32 p] rfl (Has.new _ _ _) rfl ?one ?bd ?go))
            case one => simp [Value.oneCell']
            case bd => rw [HN2.out]; have := I1.out.2.1; have := HN2.out; omega
            case go =>
              intro g4 cap w4 q1 q2 q3 q4
              obtain ⟨u1, u2, u3, u4, u5⟩ := HRD.out.appArr HXD.out HG.out hn ((Fr.refl _ _).alloc _) p q1 q2 (by
                rcases q3 with q3 | q3
                · exact .inl q3
                · right; rw [q3]; simp) q4
              rw [List.set_set] at u4
              have v1 := u1 1 (by omega)
              simp only [tbCells, List.getElem?_cons_succ, List.getElem?_cons_zero, Sl.v] at v1
              have v1f := u2 (h * 6 + 1)
              have R4 : Hid (TabsRep _ _ _ _ _ _ _) := u4
              have S4 : Hid (Stp _ _ _ _ _) := HSD.out.trans u5
              have hne : g4 ≠ w.heap.size := by
                rcases q3 with q3 | q3
                · intro e
                  have hl9 := (HRD.out.one h _ HXD.out).arr.lb g4 (by rw [ownBlock_any _ _ _ t1.arr.length l1.arr.c]; exact q3)
                  rw [e, A1.out.2] at hl9
                  omega
                · have := HAD.out.lt
                  rw [q3]
                  simp
                  omega
              have A4 : Hid (_ ∧ upd o1 g4 (101 + 5 * h) w.heap.size = 0) := ⟨u5.has HAD.out (by rw [A1.out.2]; intro hq; rcases hq with hq | hq <;> omega), by rw [upd_ne _ _ hne.symm]; exact A1.out.2⟩
              have hlen : t1.arr.length + 1 = i := I1.out.2.1
              rw [HN2.out] at v1 R4 S4 A4 ⊢
              clear q1 q2 q3 q4 u1 u2 u4 u5 hne
              go_wp2
              refine ⟨⟨i + 1, upd o1 g4 (101 + 5 * h), { t1 with nums := t1.nums.eraseP (fun e => e.1 == en.1.n), arr := t1.arr ++ [p] }, { l1 with arr := ⟨some ⟨g4, 0, none⟩, cap⟩ }, by omega, by go_num, ⟨by have := I1.out.1; omega, ?_, I1.out.2.2⟩, R4, S4, A4, HMM⟩, by simp [intOf]; omega⟩
              simp
              omega
        · obtain rfl : i = 33 := by omega
          have HM' : Hid (t.migrate = t1) := M1.out
          clear M1
          go_wp2
          go_end0
          refine ⟨rfl, o1, l1, ?_, S1.out⟩
          rw [HM'.out]
          exact R1.out
    · have hmem := mem_left he
      obtain ⟨y, hy, yk, yv⟩ : ∃ y ∈ t.nums, e.key = .int .u64 y.1 ∧ e.val = .int .i32 y.2 := by
        have : (e.key, e.val) ∈ ents nk t.nums := HM2.out ▸ List.mem_map.2 ⟨e, hmem.1, rfl⟩
        obtain ⟨y, h1, h2⟩ := List.mem_map.1 this
        injection h2 with h2 h3
        exact ⟨y, h1, h2.symm, h3.symm⟩
      have hyo := HF.out.np y hy
      have hol := HF.out.ol
      obtain ⟨yb, yp⟩ := y
      dsimp only at yk yv hyo
      have hb2 : w2.heap[l.nums]? = some (.map es c) := by rw [hal2.1]; exact hb1
      have hsz2 : w2.heap.size = w.heap.size + 1 := by rw [hal2.1]; exact hsz
      have htape : w2.tape = w1.tape := by
        have := KT.next (w.heap.size + 1) 0 Tryz.prog _ _ _ hrun
        exact this
      have hent := run_entry_map (P := Tryz.prog) w2 l.nums c seen es c e hb2 hmem.1 HM3.out.2.1
      rw [hsz2, yk, yv] at hent
      rw [yk, yv] at hrun
      rw [← G.out.eq] at hrun
      have hnx : ∀ ty, (Instr.next (.pointer (some ⟨w.heap.size + 1, 0, none⟩)) false ty).run Tryz.prog wr = _ := fun _ => hrun
      have f2 : Fr (fun _ => False) w w2 := Fr.alike hal2 htape G.out.fr
      have hat : Has w2 w.heap.size (atCells f).toArray 333 := by
        have := G.out.here
        unfold Has at this ⊢
        rw [hal2.1]
        exact this
      have HAT : Hid (Has w2 w.heap.size (atCells f).toArray 333) := hat
      have HF2 : Hid (Fr (fun _ => False) w w2) := f2
      have b0' := f2.cell b0
      have c1' := f2.cell c1
      have hbt' : bt < w2.heap.size := by omega
      have hgl' : g < w2.heap.size := by omega
      have HINV : Hid (AtInv K es seen f) := G.out.inv
      have HSZ2 : Hid (w2.heap.size = w.heap.size + 1) := hsz2
      have hT : ∀ W, Calls Tryz.prog 210 #[.pointer (some ⟨bn, 0, none⟩), .int .u64 yb] W fun e w' => e = .returned (toIntV (toIntN yb)) ∧ w' = W := fun W => toInt_any _ yb
      have HYK : Hid (e.key = .int .u64 yb) := yk
      have HYV : Hid (e.val = .int .i32 yp) := yv
      have HE : Hid (e ∈ (leftOf es seen).toList) := he
      have MEAS : Hid (∀ (W3 : World), W3.heap.size = w.heap.size + 1 → (leftOf es ((W3.alloc (.mapIter (some l.nums) c (seen.push e.born) c)).iterSeen (w.heap.size + 1))).size < (leftOf es (wr.iterSeen (w.heap.size + 1))).size) := fun W3 h3 => by
        have a1 : (W3.alloc (.mapIter (some l.nums) c (seen.push e.born) c)).iterSeen (w.heap.size + 1) = seen.push e.born := by rw [← h3]; exact World.iterSeen_alloc ..
        have a2 : wr.iterSeen (w.heap.size + 1) = seen := by rw [G.out.eq, ← G.out.sz]; exact World.iterSeen_alloc ..
        rw [a1, a2]
        exact left_shrinks es seen e he
      have hat32 : ∀ i : Nat, i < 33 → w2.cell? ⟨w.heap.size, i, none⟩ = some (.int .i32 (f i)) ∧ w2.frozen? ⟨w.heap.size, i, none⟩ = false := fun i hi => ⟨by rw [hat.cell, List.getElem?_toArray, atCells_at f hi], hat.frozen i⟩
      have HA32 : Hid (∀ i : Nat, i < 33 → w2.cell? ⟨w.heap.size, i, none⟩ = some (.int .i32 (f i)) ∧ w2.frozen? ⟨w.heap.size, i, none⟩ = false) := hat32
      have hlt2 : w.heap.size < w2.heap.size := hat.lt
      clear hrun hb1 hb2 hsz hsz2 hal2 htape G hat f2 yk yv he hmem hat32
      cases hti : toIntN yb with
      | none =>
        rw [hti] at hT
        unfold toIntV at hT
        simp only [Option.getD_none, Option.isSome_none] at hT
        go_wp2_with fail
        refine (hT _).mono ?_
        rintro e2 w5 ⟨rfl, rfl⟩
        go_wp2
        refine ⟨⟨w2, seen.push e.born, f, ⟨rfl, HF2.out, HSZ2.out, HAT.out, HINV.out.skip HM3.out.2.1 (mem_left HE.out).1 HYK.out HYV.out (fun i h => by rw [hti] at h; cases h)⟩⟩, MEAS.out _ HSZ2.out⟩
      | some i =>
        rw [hti] at hT
        unfold toIntV at hT
        simp only [Option.getD_some, Option.isSome_some] at hT
        by_cases h1 : (K : Int) < i
        · by_cases h2 : i ≤ 32
          · obtain ⟨j, rfl⟩ : ∃ j : Nat, i = (j : Int) := ⟨i.toNat, by omega⟩
            obtain ⟨a1, a2⟩ := HA32.out j (by omega)
            have hj : j < 33 := by omega
            go_wp2_with fail
            refine (hT _).mono ?_
            rintro e2 w5 ⟨rfl, rfl⟩
            go_wp2
            have hput : Has (w2.setCell ⟨w.heap.size, j, none⟩ (.int .i32 ((yp : Int) + 1))) w.heap.size (atCells (fun k => if k = j then (yp : Int) + 1 else f k)).toArray 333 := by
              have := HAT.out.put j (.int .i32 ((yp : Int) + 1))
              rw [← atCells_set]
              simpa using this
            refine ⟨⟨w2.setCell ⟨w.heap.size, j, none⟩ (.int .i32 ((yp : Int) + 1)), seen.push e.born, fun k => if k = j then (yp : Int) + 1 else f k, ⟨rfl, HF2.out.setCell (.inr (Nat.le_refl _)) _, by simp [World.setCell]; exact HSZ2.out, hput, HINV.out.note HM3.out.2.1 (mem_left HE.out).1 HYK.out HYV.out hti⟩⟩, MEAS.out _ (by simp [World.setCell]; exact HSZ2.out)⟩
          · go_wp2_with fail
            refine (hT _).mono ?_
            rintro e2 w5 ⟨rfl, rfl⟩
            go_wp2
            refine ⟨⟨w2, seen.push e.born, f, ⟨rfl, HF2.out, HSZ2.out, HAT.out, HINV.out.skip HM3.out.2.1 (mem_left HE.out).1 HYK.out HYV.out (fun i h h3 h4 => by rw [hti] at h; cases h; omega)⟩⟩, MEAS.out _ HSZ2.out⟩
        · go_wp2_with fail
          refine (hT _).mono ?_
          rintro e2 w5 ⟨rfl, rfl⟩
          go_wp2
          refine ⟨⟨w2, seen.push e.born, f, ⟨rfl, HF2.out, HSZ2.out, HAT.out, HINV.out.skip HM3.out.2.1 (mem_left HE.out).1 HYK.out HYV.out (fun i h h3 h4 => by rw [hti] at h; cases h; omega)⟩⟩, MEAS.out _ HSZ2.out⟩
theorem migrate_any (r : TabsRep w o bt bn s n xs) (hx : xs[h]? = some (t, l)) (hg : s.a = some ⟨g, 0, none⟩) (hn : h < n) (hf : TFit t) (hO : Ow w o) :
    Calls Tryz.prog 140 #[.pointer (some ⟨bt, 0, none⟩), .pointer (some ⟨g, h * 6, none⟩)] w fun e w' => e = .returned (.tuple #[]) ∧ ∃ o' l', TabsRep w' o' bt bn s n (xs.set h (t.migrate, l')) ∧ Stp (isB h) w o w' o' := by
  by_cases h0 : t.nums = []
  · refine (mig_none r hx hg h0).mono ?_
    rintro e w' ⟨rfl, rfl⟩
    refine ⟨rfl, o, l, ?_, Stp.refl _ _ _⟩
    have e1 : t.migrate = t := by simp [TabD.migrate, h0]
    rw [e1, set_same hx]
    exact r
  · exact mig_some r hx hg hn hf hO h0
end
end Go.Proofs.Qxb6500574aGreatDoor
