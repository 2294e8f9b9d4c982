/-
  EdgeTableReady: the plain side and the walk.
-/
import Derived.Test.Qxb6500576aDoorDoNew
import Derived.Test.Qxb6500576aDoorBuild
import Derived.Test.Qxb6500576aDoorLaw3
namespace Go.Proofs.Qxb6500576aDoor
open Go Go.RowKit
set_option linter.unusedVariables false
set_option linter.unusedSimpArgs false

def edgeOps : List OpD := [⟨1, 0, 0, 0, [], [105]⟩, ⟨4, 17, 1, 0, [], []⟩, ⟨4, 17, 2, 0, [], []⟩, ⟨4, 40, 0, 0, [], []⟩, ⟨4, 5, 0, 0, [], []⟩, ⟨5, 0, 0, 0, [], []⟩]
def edgeX (n : Nat) : BelD := (edgeOps.take n).foldl (fun x o => (x.build o).1) BelD.ground
theorem edgeX_good : ∀ n, BelGood (edgeX n) := by
  have key : ∀ (l : List OpD) (x : BelD), BelGood x → BelGood (l.foldl (fun x o => (x.build o).1) x) := by
    intro l
    induction l with
    | nil => exact fun x h => h
    | cons o l ih => exact fun x h => ih _ (h.build o)
  exact fun n => key _ _ BelGood.ground
theorem edge_load : (edgeX 6).m.load.2.2 = 0 := by kernel_rfl
theorem edge_at : (edgeX 6).m.prog.at 0 2 = ⟨40, 0, 0, 0⟩ := by kernel_rfl
theorem edge_codes : (edgeX 6).m.prog.codes.length ≤ 1000 ∧ ∀ c ∈ (edgeX 6).m.prog.codes, c.length ≤ 1000 := by
  have h1 : (edgeX 6).m.prog.codes.length = 1 := by kernel_rfl
  have h2 : (edgeX 6).m.prog.codes.all (fun c => decide (c.length ≤ 1000)) = true := by kernel_rfl
  refine ⟨by omega, fun c hc => ?_⟩
  have := List.all_eq_true.1 h2 c hc
  simpa using this

/-- one step of the builder, in its chain -/
structure EdgeS (w0 w : World) (bb : Nat) (x : BelD) : Prop where
  rep : ∃ K, BelRep (fun k => w0.heap.size ≤ k ∧ k < w.heap.size) w bb K x
  fr : Fr (fun _ => False) w0 w
theorem EdgeS.build {w0 w w' : World} {bb : Nat} {x : BelD} {o : OpD} {e : Ending} (h : EdgeS w0 w bb x) (hp : BuildPost (fun k => w0.heap.size ≤ k ∧ k < w.heap.size) w bb (x.build o) e w') : (∃ n, e = .returned (.int .i64 n)) ∧ EdgeS w0 w' bb (x.build o).1 := by
  obtain ⟨he, ⟨K, hK⟩, hF⟩ := hp
  have h1 := h.fr.size
  have h2 := hF.size
  refine ⟨⟨_, he⟩, ⟨⟨K, hK.sub (fun k hk => ?_)⟩, h.fr.trans hF (fun j hj hk => by omega)⟩⟩
  rcases hk with ⟨a, b⟩ | ⟨a, b⟩
  · exact ⟨a, by omega⟩
  · exact ⟨by omega, b⟩

theorem edge_build {w0 w : World} {bb : Nat} (n : Nat) (o : OpD) (h : EdgeS w0 w bb (edgeX n)) (ho : edgeX (n + 1) = ((edgeX n).build o).1) :
    Calls Tryd.prog 8 #[.pointer (some ⟨bb, 0, none⟩), o.val] w fun e w' => (∃ n, e = .returned (.int .i64 n)) ∧ EdgeS w0 w' bb (edgeX (n + 1)) := by
  obtain ⟨K, hK⟩ := h.rep
  have hg := edgeX_good n
  have h1 := hg.m.ok.nr
  have h2 := hg.m.ok.np
  have h3 := hg.code
  refine (build_any _ bb K (edgeX n) o w hK (by omega) (by omega)).mono ?_
  intro e w' hp
  rw [ho]
  exact h.build hp

set_option maxRecDepth 100000 in
set_option maxHeartbeats 4000000 in
theorem edge_any (w : World) :
    Calls Tryd.prog 4 #[] w fun e w' => e = .returned (.bool true) ∧ Fr (fun _ => False) w w' := by
  have HG : Hid (Calls _ _ _ _ _) := ground_any w
  go_enter Tryd.func4, Tryd.ntmps4
  go_wp2_with fail
  refine HG.out.mono ?_
  rintro e w1 ⟨bb, K1, rfl, hB, hF1⟩
  have c0 := hB.here.cell 0
  simp at c0
  have hbl := hB.here.lt
  have HB : Hid (BelRep _ w1 bb K1 _) := hB
  have HF1 : Hid (Fr _ w w1) := hF1
  clear hB hF1 HG
  have HN : Hid (Calls _ _ _ _ _) := new_ok _ K1.bm K1.L ModD.empty w1 HB.out.mod (fun k hk => hk.1.2) ModGood.empty.ok ModGood.empty.bodies rfl
  go_wp2_with fail
  refine HN.out.mono ?_
  rintro e w2 ⟨hF2, bp, Lp, rfl, _⟩
  have S0 : EdgeS w w2 bb (edgeX 0) := ⟨⟨K1, (HB.out.newer hF2).sub (fun k hk => ⟨hk.1, Nat.lt_of_lt_of_le hk.2 hF2.size⟩)⟩, HF1.out.trans hF2 (fun _ _ h => h)⟩
  have HS0 : Hid (EdgeS w w2 bb (edgeX 0)) := S0
  clear HB HF1 HN hF2 S0
  have HC0 : Hid (Calls _ _ _ _ _) := edge_build 0 ⟨1, 0, 0, 0, [], [105]⟩ HS0.out rfl
  go_wp2_with fail
  refine HC0.out.mono ?_
  rintro e w3 ⟨⟨n0, rfl⟩, hS⟩
  have HS1 : Hid (EdgeS w w3 bb (edgeX 1)) := hS
  clear hS HC0 HS0
  have HC1 : Hid (Calls _ _ _ _ _) := edge_build 1 ⟨4, 17, 1, 0, [], []⟩ HS1.out rfl
  go_wp2_with fail
  refine HC1.out.mono ?_
  rintro e w4 ⟨⟨n1, rfl⟩, hS⟩
  have HS2 : Hid (EdgeS w w4 bb (edgeX 2)) := hS
  clear hS HC1 HS1
  have HC2 : Hid (Calls _ _ _ _ _) := edge_build 2 ⟨4, 17, 2, 0, [], []⟩ HS2.out rfl
  go_wp2_with fail
  refine HC2.out.mono ?_
  rintro e w5 ⟨⟨n2, rfl⟩, hS⟩
  have HS3 : Hid (EdgeS w w5 bb (edgeX 3)) := hS
  clear hS HC2 HS2
  have HC3 : Hid (Calls _ _ _ _ _) := edge_build 3 ⟨4, 40, 0, 0, [], []⟩ HS3.out rfl
  go_wp2_with fail
  refine HC3.out.mono ?_
  rintro e w6 ⟨⟨n3, rfl⟩, hS⟩
  have HS4 : Hid (EdgeS w w6 bb (edgeX 4)) := hS
  clear hS HC3 HS3
  have HC4 : Hid (Calls _ _ _ _ _) := edge_build 4 ⟨4, 5, 0, 0, [], []⟩ HS4.out rfl
  go_wp2_with fail
  refine HC4.out.mono ?_
  rintro e w7 ⟨⟨n4, rfl⟩, hS⟩
  have HS5 : Hid (EdgeS w w7 bb (edgeX 5)) := hS
  clear hS HC4 HS4
  have HC5 : Hid (Calls _ _ _ _ _) := edge_build 5 ⟨5, 0, 0, 0, [], []⟩ HS5.out rfl
  go_wp2_with fail
  refine HC5.out.mono ?_
  rintro e w8 ⟨⟨n5, rfl⟩, hS⟩
  have HS6 : Hid (EdgeS w w8 bb (edgeX 6)) := hS
  clear hS HC5 HS5
  obtain ⟨K6, HB6⟩ : ∃ K6, Hid (BelRep (fun k => w.heap.size ≤ k ∧ k < w8.heap.size) w8 bb K6 (edgeX 6)) := HS6.out.rep
  have HD : Hid (Calls _ _ _ _ _) := do_new_ok _ bb K6 (edgeX 6) ⟨7, 0, 0, 0, [], []⟩ (.pointer (some ⟨bp, 0, none⟩)) w8 HB6.out rfl (fun k hk => hk.2) (edgeX_good 6).m.ok (edgeX_good 6).m.bodies edge_load
  go_wp2_with fail
  refine HD.out.mono ?_
  rintro e w9 ⟨hF9, bp9, Lp9, rfl, hP9⟩
  have hs8 : w.heap.size ≤ w8.heap.size := HS6.out.fr.size
  have HF9 : Hid (Fr _ w w9) := HS6.out.fr.trans hF9 (fun _ _ h => h)
  have HP9 : Hid (ProgRep _ w9 bp9 Lp9 _) := hP9
  clear hF9 hP9 HD HB6 HS6
  have ez : AnsD.zero.val = .agg #[.int .i64 0, .int .i64 0, .int .i64 0, .string ⟨#[]⟩] := rfl
  rw [ez]
  clear ez
  have ha : ∀ w', Fr (fun _ => False) w9 w' → Calls Tryd.prog 10 #[.pointer (some ⟨bp9, 0, none⟩), .int .i64 0, .int .i64 2] w' fun e w2 => e = .returned (.agg #[.int .i64 40, .int .i64 0, .int .i64 0, .int .i64 0]) ∧ Fr (fun k => k = bp9) w' w2 := fun w' hF =>
    (at_any _ bp9 Lp9 (edgeX 6).m.prog 0 2 w' (HP9.out.fresh hF) edge_codes.1 edge_codes.2 (by decide) (by decide)).mono (fun e w2 h => ⟨by rw [h.1, edge_at]; rfl, h.2.2⟩)
  have HA : Hid (∀ w', Fr (fun _ => False) w9 w' → _) := ha
  have hbp9 : w8.heap.size ≤ bp9 := HP9.out.own
  have hbl9 := HP9.out.funs.here.lt
  clear ha HP9
  go_wp2_with fail
  refine (HA.out _ ((Fr.refl _ w9).alloc _)).mono ?_
  rintro e w10 ⟨rfl, hF10⟩
  have hX : Has w10 w9.heap.size #[.int .i64 0, .int .i64 0, .int .i64 0, .string ⟨#[]⟩] 41 := (Has.new w9 _ _).fr hF10 (fun e => by omega)
  have x0 := hX.cell 0
  have x1 := hX.cell 1
  have x2 := hX.cell 2
  have x3 := hX.cell 3
  simp at x0 x1 x2 x3
  have xl := hX.lt
  have xl1 : w9.heap.size < w10.heap.size + 1 := by omega
  have HF10 : Hid (Fr (fun _ => False) w w10) := (HF9.out.alloc _).trans hF10 (fun j hj e => by omega)
  clear hX hF10 HF9 HA
  go_wp2
  go_ret
  exact ⟨rfl, HF10.out.alloc _⟩
end Go.Proofs.Qxb6500576aDoor
