/-
  BOTH SIDES between two operations of a script, in one bundle; every call of the walk over it.
-/
import Derived.Test.Qxb6500575aGreatDoorSX
import Derived.Test.Qxb6500575aGreatDoorSDoS
import Derived.Test.Qxb6500575aGreatDoorSLoadB
import Derived.Test.Qxb6500575aGreatDoorLawG2
import Derived.Test.Qxb6500575aGreatDoorRScript
namespace Go.Proofs.Qxb6500575aGreatDoor
open Go Go.RowKit
set_option linter.unusedVariables false
set_option linter.unusedSimpArgs false

/-- what the walk sees: d: the real memory, dm: the model's; lim: the model's instance and its stack lie below -/
structure VS where
  bb : Nat
  bx : Nat
  bn : Nat
  aa : Option Addr
  ac : Nat
  args : List BV
  x : BelD
  m : ModD
  n : Int
  d : KD
  dm : KD
  fet : Int
  lim : Nat
  sd : List (Nat × Array Value × TypeId)
structure Link (m : ModD) (d : KD) (M : MP) (mm : MS) : Prop where
  P : M.P = m.progN 0
  src : M.srcs = m.srcs
  max : M.max = d.max
  mem : mm.mem = d.flat
  ok : MOk M
structure BSW (w0 w : World) (v : VS) (Y : LayR) (hi : Int) (M : MP) (L : NL) (K : ML) (mm : MS) : Prop where
  e : Y.bb = v.bb ∧ Y.bx = v.bx ∧ M.bn = v.bn ∧ Y.aa = v.aa ∧ Y.ac = v.ac ∧ Y.sd = v.sd ∧ mm.x.n = v.fet
  rx : RX w0 w Y v.x v.m v.n v.d hi v.args
  mx : MX w0 w Y M L K mm
  lk : Link v.m v.dm M mm
  lb : LoadB v.m
  fit : BelFit v.x
  al : v.args.length ≤ 6
  a64 : ∀ b ∈ v.args, I64 b.v
  lim : ∀ k, NS M.bn L k → k < v.lim
def BS (w0 w : World) (v : VS) : Prop := ∃ Y hi M L K mm, BSW w0 w v Y hi M L K mm
abbrev Side := Nat × Array Value × TypeId
section
variable {w0 w w' : World} {v : VS} {Y : LayR} {hi : Int} {M : MP} {L : NL} {K : ML} {mm : MS}
theorem MX.side (h : MX w0 w Y M L K mm) (sd : List Side) : MX w0 w { Y with sd := sd } M L K mm := ⟨h.mw, h.newN, h.newQ, h.newC, h.newM, h.apK, h.apA⟩
theorem BS.fr (h : BS w0 w v) : Fr (fun _ => False) w0 w := by
  obtain ⟨Y, hi, M, L, K, mm, h⟩ := h
  exact h.rx.fr
theorem BS.al (h : BS w0 w v) : v.args.length ≤ 6 := by
  obtain ⟨Y, hi, M, L, K, mm, h⟩ := h
  exact h.al
theorem BS.fit (h : BS w0 w v) : BelFit v.x := by
  obtain ⟨Y, hi, M, L, K, mm, h⟩ := h
  exact h.fit
theorem BS.row (h : BS w0 w v) : w.ownsRow 0 70 2 (.slice v.aa v.args.length v.ac) v.args.length (bvCells v.args) := by
  obtain ⟨Y, hi, M, L, K, mm, h⟩ := h
  obtain ⟨_, _, _, e4, e5, _⟩ := h.e
  rw [← e4, ← e5]
  exact h.rx.row
theorem BS.side (h : BS w0 w v) {p : Side} (hp : p ∈ v.sd) : Has w p.1 p.2.1 p.2.2 := by
  obtain ⟨Y, hi, M, L, K, mm, h⟩ := h
  exact (h.rx.side p (by rw [h.e.2.2.2.2.2.1]; exact hp)).1
theorem BS.fresh (h : BS w0 w v) (hf : Fr (fun _ => False) w w') : BS w0 w' v := by
  obtain ⟨Y, hi, M, L, K, mm, h⟩ := h
  exact ⟨Y, hi, M, L, K, mm, { h with rx := h.rx.fresh hf, mx := h.mx.fresh hf }⟩
theorem BS.less (h : BS w0 w v) (sd : List Side) (hs : ∀ p ∈ sd, p ∈ v.sd) : BS w0 w { v with sd := sd } := by
  obtain ⟨Y, hi, M, L, K, mm, h⟩ := h
  obtain ⟨e1, e2, e3, e4, e5, e6, e7⟩ := h.e
  exact ⟨{ Y with sd := sd }, hi, M, L, K, mm, { h with e := ⟨e1, e2, e3, e4, e5, rfl, e7⟩, rx := { h.rx with side := fun p hp => h.rx.side p (by rw [e6]; exact hs p hp) }, mx := h.mx.side sd }⟩
/-- a new block -/
theorem BS.add (h : BS w0 w v) (cs : Array Value) (t : TypeId) (ht : t = 39 ∨ t = 46) : BS w0 (w.alloc (.cells cs t)) { v with sd := (w.heap.size, cs, t) :: v.sd } := by
  obtain ⟨Y, hi, M, L, K, mm, h⟩ := h
  obtain ⟨e1, e2, e3, e4, e5, e6, e7⟩ := h.e
  have hF : Fr (fun _ => False) w (w.alloc (.cells cs t)) := (Fr.refl _ _).alloc _
  have hold : w0.heap.size ≤ w.heap.size ∧ ¬ Y.S w.heap.size := ⟨h.rx.fr.size, fun hS => by have := (h.rx.newS _ hS).2; omega⟩
  exact ⟨{ Y with sd := (w.heap.size, cs, t) :: Y.sd }, hi, M, L, K, mm, { h with e := ⟨e1, e2, e3, e4, e5, by simp only [e6], e7⟩, rx := (h.rx.fresh hF).add (Has.new _ _ _) ht hold, mx := (h.mx.fresh hF).side _ }⟩
theorem BS.newer (h : BS w0 w v) : ∀ p ∈ v.sd, p.1 ≠ w.heap.size := fun p hp e => by have := (h.side hp).lt; omega
/-- an answer is written -/
theorem BS.put {b : Nat} {cs : Array Value} {r : List Side} {v : VS} (h : BS w0 w { v with sd := (b, cs, 46) :: r }) (hr : ∀ p ∈ r, p.1 ≠ b) {w' : World} (hf : Fr (fun k => k = b) w w') {cs' : Array Value} (hb : Has w' b cs' 46) : BS w0 w' { v with sd := (b, cs', 46) :: r } := by
  obtain ⟨Y, hi, M, L, K, mm, h⟩ := h
  obtain ⟨e1, e2, e3, e4, e5, e6, e7⟩ := h.e
  have hs := h.rx.side (b, cs, 46) (by rw [e6]; exact List.mem_cons_self)
  have hx : RX w0 w { Y with sd := r } v.x v.m v.n v.d hi v.args := { h.rx with side := fun p hp => h.rx.side p (by rw [e6]; exact List.mem_cons_of_mem _ hp) }
  have h1 := (hx.ansPut hs.1 hs.2.2.1 hs.2.2.2 hr hf).add hb (.inr rfl) ⟨hs.2.2.1, hs.2.2.2⟩
  exact ⟨{ Y with sd := (b, cs', 46) :: r }, hi, M, L, K, mm, { e := ⟨e1, e2, e3, e4, e5, rfl, e7⟩, rx := h1, mx := ((h.mx.side r).ansPut hs.1 hf).side _, lk := h.lk, lb := h.lb, fit := h.fit, al := h.al, a64 := h.a64, lim := h.lim }⟩
theorem BS.limit (h : BS w0 w v) : BS w0 w { v with lim := w.heap.size } := by
  obtain ⟨Y, hi, M, L, K, mm, h⟩ := h
  exact ⟨Y, hi, M, L, K, mm, { e := h.e, rx := h.rx, mx := h.mx, lk := h.lk, lb := h.lb, fit := h.fit, al := h.al, a64 := h.a64, lim := fun k hk => h.mx.ltN hk }⟩
theorem BS.argsNil (h : BS w0 w v) : BS w0 w { v with aa := none, ac := 0, args := [] } := by
  obtain ⟨Y, hi, M, L, K, mm, h⟩ := h
  obtain ⟨e1, e2, e3, e4, e5, e6, e7⟩ := h.e
  exact ⟨{ Y with aa := none, ac := 0 }, hi, M, L, K, mm, { h with e := ⟨e1, e2, e3, rfl, rfl, e6, e7⟩, rx := h.rx.argsNil, mx := h.mx.argsNil, al := by simp, a64 := fun b hb => by cases hb }⟩
/-! ### the calls -/
theorem RX.builtAt {x : BelD} {m : ModD} {n : Int} {d : KD} {args : List BV} (h : RX w0 w Y x m n d hi args) {r : BelD × Int} {e : Ending} (hb : BuildPost Y.q Y.S w Y.bb r e w') : ∃ Kb, RX w0 w' { Y with S := Own Y.S w w', Kb := Kb } r.1 m n d hi args := by
  obtain ⟨_, ⟨K', b1⟩, b2⟩ := hb
  refine ⟨K', ?_⟩
  have key : ∀ k, k < w.heap.size → ¬ Y.S k → ¬ Own Y.S w w' k := fun k hk hS hO => by
    rcases hO with hO | hO
    · exact hS hO
    · omega
  exact
    { bel := b1
      prog := h.prog.kept b2 (fun k hk => (h.newP k hk).2)
      mach := h.mach.fr b2 (fun k hk => (h.newK k hk).2)
      inst := h.inst.fr' b2 (fun k hk => (h.newI k hk).2)
      row := owns_fr h.row b2 (fun k hk => (h.newA k (by rw [ownBlock_any _ _ _ 0 0] at hk; exact hk)).2)
      newS := fun k hk => by
        have q1 := h.fr.size
        have q2 := b2.size
        rcases hk with hk | hk
        · have := h.newS k hk; omega
        · omega
      newP := fun k hk => ⟨(h.newP k hk).1, key k (h.ltP hk) (h.newP k hk).2⟩
      newK := fun k hk => ⟨(h.newK k hk).1, key k (h.ltK hk) (h.newK k hk).2⟩
      newI := fun k hk => ⟨(h.newI k hk).1, key k (h.ltI hk) (h.newI k hk).2⟩
      newA := fun k hk => ⟨(h.newA k hk).1, key k (h.ltA hk) (h.newA k hk).2⟩
      side := fun p hp => ⟨(h.side p hp).1.fr b2 (h.side p hp).2.2.2, (h.side p hp).2.1, (h.side p hp).2.2.1, key _ (h.side p hp).1.lt (h.side p hp).2.2.2⟩
      fr := h.fr.trans b2 (fun k hk hS => by have := (h.newS k hS).1; omega) }
theorem bs_build (h : BS w0 w v) (o : OpD) (ho : Fit64 o.b) : Calls Tryz.prog 11 #[.pointer (some ⟨v.bb, 0, none⟩), o.val] w fun e w' => (∃ z, e = .returned (.int .i64 z)) ∧ BS w0 w' { v with x := (v.x.build o).1 } := by
  obtain ⟨Y, hi, M, L, K, mm, h⟩ := h
  obtain ⟨e1, e2, e3, e4, e5, e6, e7⟩ := h.e
  have hg := h.fit.good
  have hc := build_any Y.S Y.bb Y.Kb v.x o w h.rx.bel (by have := hg.m.ok.nr; have := hg.m.ok.np; omega) (by have := hg.code; omega)
  rw [e1] at hc
  refine hc.mono ?_
  intro e w1 hp
  rw [← e1] at hp
  obtain ⟨Kb, hx⟩ := h.rx.builtAt hp
  exact ⟨⟨_, hp.1⟩, { Y with S := Own Y.S w w1, Kb := Kb }, hi, M, L, K, mm, { e := ⟨e1, e2, e3, e4, e5, e6, e7⟩, rx := hx, mx := h.mx.built h.rx hp, lk := h.lk, lb := h.lb, fit := h.fit.build o ho, al := h.al, a64 := h.a64, lim := h.lim }⟩
theorem argsP_len (args : List BV) (o : OpD) (h : args.length ≤ 6) : (argsP args o).length ≤ 6 := by
  unfold argsP
  split
  · rename_i h; simp; omega
  · exact h
theorem argsP_fit (args : List BV) (o : OpD) (h : ∀ b ∈ args, I64 b.v) (ho : Fit64 o.b) : ∀ b ∈ argsP args o, I64 b.v := by
  unfold argsP
  split
  · intro b hb
    rcases List.mem_append.1 hb with hb | hb
    · exact h b hb
    · simp at hb; subst hb; exact ho
  · exact h
theorem bs_args (h : BS w0 w v) (o : OpD) (ho : Fit64 o.b) : Calls Tryz.prog 12 #[.slice v.aa v.args.length v.ac, o.val] w fun e w' => ∃ aa' ac', e = .returned (.slice aa' (argsP v.args o).length ac') ∧ BS w0 w' { v with aa := aa', ac := ac', args := argsP v.args o } := by
  obtain ⟨Y, hi, M, L, K, mm, h⟩ := h
  obtain ⟨e1, e2, e3, e4, e5, e6, e7⟩ := h.e
  have hc := rargs_any h.rx o
  rw [e4, e5] at hc
  refine hc.mono ?_
  rintro e w1 ⟨aa', ac', he, hx, hA⟩
  exact ⟨aa', ac', he, { Y with aa := aa', ac := ac' }, hi, M, L, K, mm, { e := ⟨e1, e2, e3, rfl, rfl, e6, e7⟩, rx := hx, mx := h.mx.argsTo h.rx hA.1 hA.2, lk := h.lk, lb := h.lb, fit := h.fit, al := argsP_len _ _ h.al, a64 := argsP_fit _ _ h.a64 ho, lim := h.lim }⟩
theorem bs_mark (h : BS w0 w v) : Calls Tryz.prog 14 #[.pointer (some ⟨v.bb, 0, none⟩)] w fun e w' => e = .returned (.tuple #[]) ∧ BS w0 w' { v with n := 0 } := by
  obtain ⟨Y, hi, M, L, K, mm, h⟩ := h
  obtain ⟨e1, e2, e3, e4, e5, e6, e7⟩ := h.e
  have hc := rmark_any h.rx
  rw [e1] at hc
  refine hc.mono ?_
  rintro e w1 ⟨he, hx, hF⟩
  exact ⟨he, Y, hi, M, L, K, mm, { e := ⟨e1, e2, e3, e4, e5, e6, e7⟩, rx := hx, mx := h.mx.steps h.rx hF, lk := h.lk, lb := h.lb, fit := h.fit, al := h.al, a64 := h.a64, lim := h.lim }⟩
theorem bs_steps (h : BS w0 w v) : Calls Tryz.prog 17 #[.pointer (some ⟨v.bb, 0, none⟩)] w fun e w' => e = .returned (.int .i64 v.n) ∧ w' = w := by
  obtain ⟨Y, hi, M, L, K, mm, h⟩ := h
  have hc := rsteps_any h.rx
  rw [h.e.1] at hc
  exact hc
theorem bs_fetched (h : BS w0 w v) : Calls Tryz.prog 46 #[.pointer (some ⟨v.bn, 0, none⟩)] w fun e w' => e = .returned (.int .i64 v.fet) ∧ w' = w := by
  obtain ⟨Y, hi, M, L, K, mm, h⟩ := h
  obtain ⟨e1, e2, e3, e4, e5, e6, e7⟩ := h.e
  have hc := yfetched_any h.mx.mw.inst
  rw [e3, e7] at hc
  exact hc
theorem bs_show (h : BS w0 w v) : Calls Tryz.prog 13 #[.pointer (some ⟨v.bx, 0, none⟩)] w fun e w' => ∃ z, e = .returned (sv z) ∧ Hid (z = v.d.text) ∧ z.length ≤ 1000 ∧ Fr (fun _ => False) w w' := by
  obtain ⟨Y, hi, M, L, K, mm, h⟩ := h
  have hc := rshow_any h.rx.inst h.rx.mach
  rw [h.e.2.1] at hc
  exact hc
theorem bs_showM (h : BS w0 w v) : Calls Tryz.prog 47 #[.pointer (some ⟨v.bn, 0, none⟩)] w fun e w' => ∃ z, e = .returned (sv z) ∧ Hid (z = v.dm.text) ∧ z.length ≤ 1000 ∧ Fr (fun _ => False) w w' := by
  obtain ⟨Y, hi, M, L, K, mm, h⟩ := h
  have hc := yishow_any h.mx.mw
  rw [h.e.2.2.1] at hc
  have e := v.dm.text_flat
  rw [h.lk.mem, h.lk.max, ← e] at hc
  exact hc
theorem bs_check (h : BS w0 w v) : Calls Tryz.prog 40 #[.pointer (some ⟨v.bx, 0, none⟩)] w fun e w' => e = .returned (.bool true) ∧ w' = w := by
  obtain ⟨Y, hi, M, L, K, mm, h⟩ := h
  have hc := rcheck_any (x := ⟨[], [], 0, hi⟩) h.rx.inst
  rw [h.e.2.1] at hc
  exact hc
/-- a refused module -/
theorem bs_bad (h : BS w0 w v) (hg : GlobOk w0) (hbad : v.x.m.load.2.2 ≠ 0) : Calls Tryz.prog 15 #[.pointer (some ⟨v.bb, 0, none⟩)] w fun e w' => (∃ er a b, 0 < er ∧ e = .returned (.agg #[.int .i64 er, .int .i64 a, .int .i64 b, sv []])) ∧ BS w0 w' v := by
  obtain ⟨Y, hi, M, L, K, mm, h⟩ := h
  have hc := sload_bad h.rx.bel (fun k hk => (h.rx.newS k hk).2) h.fit (hg.fr h.rx.fr) hbad
  rw [h.e.1] at hc
  refine hc.mono ?_
  rintro e w1 ⟨h1, _, h3⟩
  exact ⟨h1, Y, hi, M, L, K, mm, { h with rx := h.rx.fresh h3, mx := h.mx.fresh h3 }⟩
/-! ### Do, DoM -/
/-- what Do has said -/
def DoneD (v : VS) (o : OpD) (er us len : Int) (str : List UInt8) : Prop :=
  (o.kind = 10 → Said (v.m.progN 0) (callH (v.m.progN 0) o.c) o.t o.a o.b v.args v.dm v.d 0 v.n er us len str) ∧ (o.kind ≠ 10 → v.n = 0 ∧ v.d = v.dm ∧ ansV er us len str = sameV o.kind v.d.text)
theorem bs_do (h : BS w0 w v) (hg : GlobOk w0) (hn : v.n = 0) (hd : v.d = v.dm) (o : OpD) (ho : Fit64 o.b) (va : Option Addr) (vc : Nat) (hrow : w.ownsRow 0 70 2 (.slice va v.args.length vc) v.args.length (bvCells v.args)) :
    Calls Tryz.prog 16 #[.pointer (some ⟨v.bx, 0, none⟩), .slice va v.args.length vc, o.val] w fun e w' => ∃ er us len str n' d', e = .returned (ansV er us len str) ∧ BS w0 w' { v with n := n', d := d' } ∧ DoneD { v with n := n', d := d' } o er us len str := by
  obtain ⟨Y, hi, M, L, K, mm, h⟩ := h
  obtain ⟨e1, e2, e3, e4, e5, e6, e7⟩ := h.e
  by_cases hk : o.kind = 10
  · have hc := rdo_call h.rx h.lb.loaded hg o hk ho v.args va vc hrow h.a64 (by have := h.al; omega) (by rw [hn]; exact ⟨by decide, by decide⟩)
    rw [e2] at hc
    refine hc.mono ?_
    rintro e w1 ⟨L', K', n', d', hi', er, us, len, str, he, hx, hs, hF, hKs⟩
    rw [hn, hd] at hs
    exact ⟨er, us, len, str, n', d', he, ⟨{ Y with L := L', KK := K' }, hi', M, L, K, mm, { e := ⟨e1, e2, e3, e4, e5, e6, e7⟩, rx := hx, mx := h.mx.called h.rx hF hKs, lk := h.lk, lb := h.lb, fit := h.fit, al := h.al, a64 := h.a64, lim := h.lim }⟩, fun _ => hs, fun hne => absurd hk hne⟩
  · have hc := sdo_same h.rx o hk (.slice va v.args.length vc)
    rw [e2] at hc
    refine hc.mono ?_
    rintro e w1 ⟨he, hx, hF⟩
    obtain ⟨er, us, len, str, hv⟩ : ∃ er us len str, sameV o.kind v.d.text = ansV er us len str := by
      unfold sameV
      split
      · exact ⟨_, _, _, _, rfl⟩
      split
      · exact ⟨_, _, _, _, rfl⟩
      · exact ⟨_, _, _, _, rfl⟩
    exact ⟨er, us, len, str, v.n, v.d, by rw [he, hv], ⟨Y, hi, M, L, K, mm, { h with rx := hx, mx := h.mx.fresh hF }⟩, fun h1 => absurd h1 hk, fun _ => ⟨hn, hd, hv.symm⟩⟩
theorem bs_dom (h : BS w0 w v) (o : OpD) (ho : Fit64 o.b) {er us len : Int} {str : List UInt8} (hdone : DoneD v o er us len str) (va : Option Addr) (vc : Nat) (hrow : w.ownsRow 0 70 2 (.slice va v.args.length vc) v.args.length (bvCells v.args)) (hap : ∀ g, (Value.slice va v.args.length vc).ownBlock = some g → v.lim ≤ g) :
    Calls Tryz.prog 45 #[.pointer (some ⟨v.bn, 0, none⟩), .slice va v.args.length vc, o.val] w fun e w' => e = .returned (ansV er us len str) ∧ ∃ fet', BS w0 w' { v with dm := v.d, fet := fet', lim := w'.heap.size } ∧ (o.kind = 10 → fet' = v.n) := by
  obtain ⟨Y, hi, M, L, K, mm, h⟩ := h
  obtain ⟨e1, e2, e3, e4, e5, e6, e7⟩ := h.e
  have hP := h.lk.P
  have hsrc := h.lk.src
  have hmax := h.lk.max
  have hmem := h.lk.mem
  by_cases hk : o.kind = 10
  · have hs := hdone.1 hk
    have hmo : MemOk v.dm.flat v.dm.max := by
      rw [← hmem, ← hmax]
      refine ⟨?_, h.mx.mw.mem.le, h.mx.mw.mem.max⟩
      rw [hmem, v.dm.flat_len]
      omega
    obtain ⟨s1, s2, s3, s4⟩ := said_same h.lb hmo h.a64 ho hs
    have hbeg : ({ mm with x := ND.begin o.b (decide (o.c = 0)) o.t (stk v.args) } : MS) = begunM v.dm.flat o.b o.c o.t v.args := by rw [← hmem]
    have hc := ydom_call (H := callH M.P o.c) h.lk.ok h.mx.mw o hk v.args va vc hrow (fun g hg hN => by have := hap g hg; have := h.lim g hN; omega) (by have := h.al; omega) h.a64 rfl
      (fun u hu => (h.lb.tys u (by rw [hP] at hu; exact hu)).2.1)
      (by rw [hbeg, hP, hsrc, hmax]; exact s1)
      (by rw [hbeg, hP, hsrc, hmax]; exact fun h0 N q hq => s2 N q h0 hq)
    rw [e3] at hc
    refine hc.mono ?_
    rintro e w1 ⟨L', K', m', er2, us2, len2, str2, he, hW, hS, hsd⟩
    rw [hbeg, hP, hsrc, hmax, hmem] at hsd
    obtain ⟨f1, f2, f3, f4, f5, f6⟩ := s4 m' er2 us2 len2 str2 hsd
    rw [f1, f2, f3, f4] at he
    exact ⟨he, m'.x.n, ⟨Y, hi, M, L', K', m', { e := ⟨e1, e2, e3, e4, e5, e6, rfl⟩, rx := h.rx.model h.mx hS, mx := h.mx.stepped h.rx hW hS, lk := ⟨hP, hsrc, by rw [hmax]; exact s3.symm, f5, h.lk.ok⟩, lb := h.lb, fit := h.fit, al := h.al, a64 := h.a64, lim := fun k hk => hW.inst.lt hk }⟩, fun _ => f6⟩
  · obtain ⟨g1, g2, g3⟩ := hdone.2 hk
    have hc := ydom_same h.mx.mw o hk (.slice va v.args.length vc)
    rw [e3] at hc
    refine hc.mono ?_
    rintro e w1 ⟨he, hW, hF⟩
    have et := v.dm.text_flat
    rw [hmem, hmax, ← et, ← g2, ← g3] at he
    refine ⟨he, v.fet, ⟨Y, hi, M, L, K, mm, { e := ⟨e1, e2, e3, e4, e5, e6, e7⟩, rx := h.rx.fresh hF, mx := h.mx.fresh hF, lk := ?_, lb := h.lb, fit := h.fit, al := h.al, a64 := h.a64, lim := fun k hk => hW.inst.lt hk }⟩, fun h1 => absurd h1 hk⟩
    have := h.lk
    rw [← g2] at this
    exact this
end
end Go.Proofs.Qxb6500575aGreatDoor
