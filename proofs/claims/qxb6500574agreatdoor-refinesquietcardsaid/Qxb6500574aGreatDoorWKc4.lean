/-
  THE WALK of comp: CheckMid: the constants.
-/
import Derived.Test.Qxb6500574aGreatDoorWKc2
import Derived.Test.Qxb6500574aGreatDoorReg7
namespace Go.Proofs.Qxb6500574aGreatDoor
open Go Go.RowKit
set_option linter.unusedVariables false
set_option linter.unusedSimpArgs false
open Go.Lib
theorem nodup_ne {α : Type} {l : List α} (h : l.Nodup) {i j : Nat} (hi : i < l.length) (hj : j < l.length) (hlt : i < j) : l[i] ≠ l[j] := List.pairwise_iff_getElem.1 h i j hi hj hlt
/-- a constant is found at its own place -/
theorem cn_idx {l : List Vl} {j : Nat} {v : Vl} (hn : l.Nodup) (h : l[j]? = some v) : l.findIdx? (fun e => e.same v) = some j := by
  rw [List.findIdx?_eq_some_iff_getElem]
  have hj := (List.getElem?_eq_some_iff.1 h).1
  have hv := (List.getElem?_eq_some_iff.1 h).2
  refine ⟨hj, by rw [same_iff]; exact hv, fun i hi hc => ?_⟩
  rw [same_iff] at hc
  exact nodup_ne hn (by omega) hj hi (hc.trans hv.symm)
theorem look_num {l : List Vl} {j : Nat} {v : Vl} (h : CnOk l) (hj : l[j]? = some v) (hv : v = numV v.n) : look (numsF 0 l) v.n = some j := by
  have h1 := look_numsF v.n l 0 h.ok
  rw [← hv, cn_idx h.nd hj] at h1
  simpa using h1
theorem look_str {l : List Vl} {j : Nat} {v : Vl} (h : CnOk l) (hj : l[j]? = some v) (hv : v = strV v.s) : look (strsF 0 l) v.s = some j := by
  have h1 := look_strsF v.s l 0 h.ok
  rw [← hv, cn_idx h.nd hj] at h1
  simpa using h1
section
set_option maxRecDepth 100000
set_option maxHeartbeats 1000000
variable {w : World} {o : Nat → Nat} {C : CC} {N : List Nd} {c : CmD} {x : Nat} {xs : List (FnD × FnL)} {L : FnL}
theorem ckK_w (R : CRep w o C N c) (F : FnAt w o C c x xs L) (hx : x < c.np) (hu : CnOk (c.fn x).consts) (hl : (c.fn x).consts.length ≤ 301) {a : Act} (ha : Fr36 C.gF x a) (h1 : a.tmps[173]? = some (.slice L.cn.a (c.fn x).consts.length L.cn.c)) (h2 : a.tmps[174]? = some (.int .i64 (c.fn x).consts.length)) (h3 : a.tmps[175]? = some (.int .i64 0)) {Q : Exit → Act → World → Prop} (hQ : ∀ c a t v w, Q (.panic c) (a.put (some t) v) w → Q (.panic c) a w) (hK : ∀ a' w', Fr36 C.gF x a' → Fr (fun _ => False) w w' → Q (.exit 4) a' w') :
    (mdK Tryz.f36.body).wp Tryz.prog Q a w := by
  obtain ⟨_, ⟨bn, hbn⟩, bs, hbs⟩ := F.ok
  have c6 := F.cell 6 (by omega)
  have c7 := F.cell 7 (by omega)
  have c8 := F.cell 8 (by omega)
  have fl := F.lt
  simp only [fnV, List.getElem?_cons_succ, List.getElem?_cons_zero, Sl.v, hbn, hbs] at c6 c7 c8
  have HCN : Hid (CnOk (c.fn x).consts) := hu
  have HMN : Hid (MapAt w o (labF x 3) bn (ent16 nk (numsF 0 (c.fn x).consts))) := F.one.nu bn hbn
  have HMS : Hid (MapAt w o (labF x 4) bs (ent16 sk (strsF 0 (c.fn x).consts))) := F.one.ss bs hbs
  have HK : Hid (∀ a' w', Fr36 C.gF x a' → Fr (fun _ => False) w w' → Q (.exit 4) a' w') := hK
  have HQQ : Hid (∀ c a t v w, Q (.panic c) (a.put (some t) v) w → Q (.panic c) a w) := hQ
  obtain ⟨cs, HUPS⟩ : ∃ cs, Hid ((c.fn x).consts = cs) := ⟨_, rfl⟩
  have HRU : Hid (Row w o (labF x 2) 68 3 L.cn cs.length (cs.flatMap vCells)) := by rw [← HUPS.out]; exact F.one.cn
  rw [HUPS.out] at c6 HCN HMN HMS hl h1 h2
  obtain ⟨n, HN⟩ : ∃ n : Nat, Hid (cs.length = n) := ⟨_, rfl⟩
  obtain ⟨ua, HUA⟩ : ∃ ua, Hid (L.cn.a = ua) := ⟨_, rfl⟩
  rw [HN.out, HUA.out] at c6 h1
  rw [HN.out] at h2
  obtain ⟨u, ea, hv⟩ := form262 ha.size ha.df
  rw [hv 0 _ ha.t0, hv 173 _ h1, hv 174 _ h2, hv 175 _ h3] at ea
  subst ea
  rw [HN.out] at hl
  clear R F hu hK ha hv hbn hbs h1 h2 h3 hQ
  simp only [mdK, codeL, codeR, codeIn, Tryz.f36, Option.getD_some]
  go_loopg [175] n (fun g v175 w1 => ∃ j : Nat, j + g = n ∧ v175 = .int .i64 j ∧ Hid (Fr (fun _ => False) w w1))
  case atStart => exact ⟨0, by omega, rfl, Fr.refl _ _⟩
  case round =>
    obtain ⟨j, hj, rfl, HFR⟩ := hrel
    by_cases hjn : j < n
    · have hj' : (j : Int) < (n : Int) := by omega
      obtain ⟨v, hd⟩ : ∃ d, cs[j]? = some d := ⟨_, List.getElem?_eq_getElem (by rw [HN.out]; exact hjn)⟩
      obtain ⟨gU, e1, e2, e3, e4, e5, e6⟩ := HRU.out.at vCells_len hd
      have k0 := HFR.out.cell (e5 0 (by omega))
      have k1 := HFR.out.cell (e5 1 (by omega))
      have k2 := HFR.out.cell (e5 2 (by omega))
      simp only [vCells, List.getElem?_cons_succ, List.getElem?_cons_zero, Nat.add_zero] at k0 k1 k2
      have e4 : gU < wr.heap.size := Nat.lt_of_lt_of_le e4 HFR.out.size
      rw [HN.out] at e2
      have hua : ua = some ⟨gU, 0, none⟩ := HUA.out.symm.trans e1
      subst hua
      have c6 := HFR.out.cell c6
      have c7 := HFR.out.cell c7
      have c8 := HFR.out.cell c8
      have fl : C.gF < wr.heap.size := Nat.lt_of_lt_of_le fl HFR.out.size
      have hok := HCN.out.ok v (List.mem_of_getElem? hd)
      obtain ⟨g', HG'⟩ : ∃ g', Hid (gk = g' + 1) := ⟨gk - 1, by show _ = _; omega⟩
      have HJ : Hid (j + gk = n) := hj
      have FF : Hid (Fr (fun _ => False) w (wr.alloc (.cells #[.int .i64 v.t, .int .u64 v.n, sv v.s] 68))) := HFR.out.alloc _
      have hS := fun k => look16 isK_str mapS16 (HMS.out.st (Stp.fresh (fun _ => False) o FF.out.drew) (fun x => x)) k
      have hj16 : j < 65536 := by omega
      rcases hok with ⟨hv, h1, h2⟩ | ⟨hv, h1⟩
      · have hNm := look16 isK_u64 mapN16 (HMN.out.st (Stp.fresh (fun _ => False) o FF.out.drew.drew) (fun x => x)) v.n
        rw [look_num HCN.out hd hv] at hNm
        have hs0 : v.s = [] := by rw [hv]; rfl
        have ht2 : v.t = 2 := by rw [hv]; rfl
        have hS := hS v.s
        generalize look (strsF 0 cs) v.s = ls at hS
        obtain ⟨s0, s1, hs⟩ : ∃ (s0 : Nat) (s1 : Bool), ls.getD 0 = s0 ∧ ls.isSome = s1 := ⟨_, _, rfl, rfl⟩
        rw [hs.1, hs.2] at hS
        obtain ⟨vt, vn, vs⟩ := v
        dsimp only at hs0 ht2 k0 k1 k2 hS hNm FF h1
        subst hs0 ht2
        simp only [Option.getD_some, Option.isSome_some, nk, sk] at hS hNm
        have FF2 : Hid (Fr (fun _ => False) w (wr.alloc (.cells #[.int .i64 2, .int .u64 vn, sv []] 68)).drew.drew) := FF.out.drew.drew
        clear e1 e3 e5 e6 hd hv hj hs FF
        go_wp2_with fail
        refine wp_region_Y 6 1 12 (by kernel_rfl) (by kernel_rfl) (fun c a t v w h => HQQ.out c a t v w h) ?_
        simp only [List.take_succ_cons, List.take_zero, List.drop_succ_cons, List.drop_zero]
        repeat go_big_quiet_step (fail)
        refine wpQuiet_nil ?_
        go_wp2
        repeat go_big_quiet_step (fail)
        refine wpQuiet_nil ?_
        go_wp2_with fail
        refine wp_region_Y 6 1 12 (by kernel_rfl) (by kernel_rfl) (fun c a t v w h => HQQ.out c a t v w h) ?_
        simp only [List.take_succ_cons, List.take_zero, List.drop_succ_cons, List.drop_zero]
        repeat go_big_quiet_step (fail)
        refine wpQuiet_nil ?_
        go_wp2
        repeat go_big_quiet_step (fail)
        refine wpQuiet_nil ?_
        go_wp2_with fail
        go_roundg g'
        case measure => have := HG'.out; omega
        case rel => exact ⟨j + 1, by have h1 := HJ.out; have h2 := HG'.out; omega, by simp, FF2.out⟩
      · have hS := hS v.s
        rw [look_str HCN.out hd hv] at hS
        have hn0 : v.n = 0 := by rw [hv]; rfl
        have ht3 : v.t = 3 := by rw [hv]; rfl
        obtain ⟨vt, vn, vs⟩ := v
        dsimp only at hn0 ht3 k0 k1 k2 hS FF h1
        subst hn0 ht3
        simp only [Option.getD_some, Option.isSome_some, sk] at hS
        rw [show ((0 : Nat) : Int) = 0 from rfl] at hS k1
        have FF2 : Hid (Fr (fun _ => False) w (wr.alloc (.cells #[.int .i64 3, .int .u64 0, sv vs] 68)).drew) := FF.out.drew
        have h40 : ¬ (40 : Int) < (vs.length : Int) := by omega
        clear e1 e3 e5 e6 hd hv hj FF
        go_wp2_with fail
        refine wp_region_Y 6 1 12 (by kernel_rfl) (by kernel_rfl) (fun c a t v w h => HQQ.out c a t v w h) ?_
        simp only [List.take_succ_cons, List.take_zero, List.drop_succ_cons, List.drop_zero]
        repeat go_big_quiet_step (fail)
        refine wpQuiet_nil ?_
        go_wp2
        repeat go_big_quiet_step (fail)
        refine wpQuiet_nil ?_
        go_wp2_with fail
        go_roundg g'
        case measure => have := HG'.out; omega
        case rel => exact ⟨j + 1, by have h1 := HJ.out; have h2 := HG'.out; omega, by simp, FF2.out⟩
    · have hj' : ¬ (j : Int) < (n : Int) := by omega
      go_wp2_with fail
      exact HK.out _ _ ⟨by kernel_rfl, rfl, by kernel_rfl⟩ HFR.out
end
end Go.Proofs.Qxb6500574aGreatDoor
