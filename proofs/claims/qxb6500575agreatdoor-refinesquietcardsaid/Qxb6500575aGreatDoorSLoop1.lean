/-
  THE ROUNDS of run.loop: what is known at a round's second half, and what it may come to.
-/
import Derived.Test.Qxb6500575aGreatDoorRLoop0
import Derived.Test.Qxb6500575aGreatDoorReg5
import Derived.Test.Qxb6500575aGreatDoorPFlat
namespace Go.Proofs.Qxb6500575aGreatDoor
open Go Go.RowKit
set_option linter.unusedVariables false
set_option linter.unusedSimpArgs false

variable {σ τ : Type}
/-- what a round is to come to -/
structure Gh (σ τ : Type) where
  sem : σ → τ
  n : Int
  M : Nat
  o : FO τ
structure NxE (G : Gh σ τ) (x' : InD) (n' : Int) (d' : KD) (s' : σ) : Prop where
  t : G.o.t = 0
  fr : dec x'.st x'.fr = G.o.fr
  mem : d'.flat = G.o.mem
  max : d'.max = G.M
  s : G.sem s' = G.o.s
  n : n' = wrap64 (G.n + G.o.dn)
structure TpE (G : Gh σ τ) (t : Int) (n' : Int) (d' : KD) (s' : σ) : Prop where
  t : G.o.t = t
  mem : d'.flat = G.o.mem
  max : d'.max = G.M
  s : G.sem s' = G.o.s
  n : n' = wrap64 (G.n + G.o.dn)
structure DnE (G : Gh σ τ) (vs : List V) (n' : Int) (d' : KD) (s' : σ) : Prop where
  t : G.o.t = 1
  vs : G.o.vs = vs
  mem : d'.flat = G.o.mem
  max : d'.max = G.M
  s : G.sem s' = G.o.s
  n : n' = wrap64 (G.n + G.o.dn)
def bot (fr : List Frm) : Option Int := (fr.getLast?).map Frm.f
theorem bot_pc (r : Frm) (rs : List Frm) (n : Int) : bot ({ r with pc := n } :: rs) = bot (r :: rs) := by
  cases rs with
  | nil => rfl
  | cons a l => simp [bot]
theorem bot_cons (r r' : Frm) (rs : List Frm) : bot (r :: r' :: rs) = bot (r' :: rs) := by simp [bot]
structure Mid (G : Gh σ τ) (H : HF τ) (R : RP σ) (T : Nat → Typing) (w : World) (L : InL) (K : KL) (x : InD) (n : Int) (d : KD) (s : σ) (r : Frm) (rs : List Frm) (fn : Nat) (u : FunD) (c : List Flat) (pc : Nat) (ρ : List UInt8) (ops loc low : List V) (i : Flat) (bf gf : Nat) : Prop where
  run : RunW R w L K x n d s
  pt : ProgT R.P T
  good : Good R.P T x.st x.fr
  fr : x.fr = r :: rs
  lay : Lay R.P T r x.st [] fn u c pc ρ ops loc low
  chain : Chain R.P T rs low r.res
  cat : c[pc]? = some i
  ins : InsOk ⟨R.P.funs, u⟩ (fun _ imm ρ => 0 ≤ imm ∧ T fn imm.toNat = some ρ) (T fn) c pc i ρ
  keep : 0 ≤ i.keep ∧ i.keep ≤ 1
  box : Has w bf #[.int .i64 i.op, .int .i64 i.imm, .int .i64 i.keep, .int .i64 i.cut] 176
  gf : L.fa = some ⟨gf, 0, none⟩
  n64 : I64 n
  gn : G.n = n
  gM : G.M = d.max
  go : G.o = fexec R.P H c i ⟨fn, pc, ops, loc⟩ (dec low rs) d.flat d.max (G.sem s)
/-- on to the next round -/
def Nx (G : Gh σ τ) (R : RP σ) (T : Nat → Typing) (x : InD) (w' : World) : Prop := ∃ L K x' n d s, RunW R w' L K x' n d s ∧ Good R.P T x'.st x'.fr ∧ x'.fr ≠ [] ∧ x'.used = x.used ∧ x'.high = x.high ∧ bot x'.fr = bot x.fr ∧ NxE G x' n d s
/-- the call is ended by a trap -/
def Tp (G : Gh σ τ) (R : RP σ) (x : InD) (t : Int) (w' : World) : Prop := ∃ L K x' n d s, RunW R w' L K x' n d s ∧ x'.used = x.used ∧ x'.high = x.high ∧ TpE G t n d s
abbrev trapV (t : Int) : List PanicEntry := [{ v := .iface 147 (.int .i64 t), recovered := false }]
/-- what may become of a round: on (N), the loop is left (D), a trap (X) -/
theorem need_no (t : Int) (w : World) : Calls Tryz.prog 93 #[.bool false, .int .i64 t] w fun r w' => r = .panicked (trapV t) ∧ w' = w := by
  go_enter Tryz.func93, Tryz.ntmps93
  go_wp2
  exact ⟨rfl, rfl, rfl⟩
structure Outs (R : RP σ) (fuel : Int) (h : Value) (N D : World → Prop) (X : Int → World → Prop) (Q : Exit → Act → World → Prop) : Prop where
  nrm : ∀ a' w', Fr65 R fuel h a' → N w' → Q .normal a' w'
  cont : ∀ a' w', Fr65 R fuel h a' → N w' → Q (.exit 1) a' w'
  ret : ∀ a' w', Fr65 R fuel h a' → D w' → Q .ret a' w'
  pq : ∀ c a t v w, Q (.panic c) (a.put (some t) v) w → Q (.panic c) a w
  pan : ∀ a' w' t, a'.defers = [] → 11 ≤ t → t ≤ 17 → X t w' → Q (.panic (trapV t)) a' w'
/-- an else: only the program counter -/
def El (G : Gh σ τ) (R : RP σ) (T : Nat → Typing) (K : KL) (d : KD) (s : σ) (x : InD) (r : Frm) (rs : List Frm) (w' : World) : Prop := ∃ (L : InL) (n : Int) (p' : Nat), RunW R w' L K { x with fr := { r with pc := (p' : Int) } :: rs } n d s ∧ Good R.P T x.st ({ r with pc := (p' : Int) } :: rs) ∧ r.pc < p' ∧ NxE G { x with fr := { r with pc := (p' : Int) } :: rs } n d s
/-- a frame is left -/
def Lv (G : Gh σ τ) (R : RP σ) (T : Nat → Typing) (K : KL) (d : KD) (s : σ) (x : InD) (rs : List Frm) (w' : World) : Prop := ∃ L n st', RunW R w' L K { x with st := st', fr := rs } n d s ∧ Good R.P T st' rs ∧ rs ≠ [] ∧ NxE G { x with st := st', fr := rs } n d s
/-- the outermost frame is left -/
def Dn (G : Gh σ τ) (R : RP σ) (K : KL) (d : KD) (s : σ) (x : InD) (rs : List Frm) (res : List UInt8) (w' : World) : Prop := rs = [] ∧ ∃ L n vs, RunW R w' L K { x with st := vs, fr := [] } n d s ∧ vs.map V.ty = res.reverse ∧ (∀ v ∈ vs, v.Fits) ∧ (∀ r, x.fr = r :: rs → (vs.length : Int) + r.floor ≤ x.st.length) ∧ DnE G vs n d s
section
variable {G : Gh σ τ} {H : HF τ} {R : RP σ} {T : Nat → Typing} {w : World} {L : InL} {K : KL} {x : InD} {n : Int} {d : KD} {s : σ} {r : Frm} {rs : List Frm} {fn : Nat} {u : FunD} {c : List Flat} {pc : Nat} {ρ : List UInt8} {ops loc low : List V} {i : Flat} {bf gf : Nat}
theorem Mid.lens (m : Mid G H R T w L K x n d s r rs fn u c pc ρ ops loc low i bf gf) : x.st.length ≤ 124 ∧ rs.length ≤ 3 ∧ pc ≤ 143 ∧ ops.length ≤ 24 ∧ loc.length ≤ 7 := by
  have h1 := Chain.lens m.pt _ _ _ m.good.chain
  have h2 := m.good.len
  rw [m.fr] at h1 h2
  simp at h1 h2
  have h3 := m.lay.lens m.pt
  have h4 := (m.lay.fin m.pt).2
  have h5 := (List.getElem?_eq_some_iff.1 m.cat).1
  omega
theorem Mid.lts (m : Mid G H R T w L K x n d s r rs fn u c pc ρ ops loc low i bf gf) : R.bx < w.heap.size ∧ bf < w.heap.size ∧ gf < w.heap.size := by
  obtain ⟨g2, e1, _, _, e4, _⟩ := m.run.inst.top (r := r) (rs := rs) m.fr
  rw [m.gf] at e1
  simp at e1
  subst e1
  exact ⟨m.run.inst.here.lt, m.box.lt, e4⟩
theorem Mid.n0 (m : Mid G H R T w L K x n d s r rs fn u c pc ρ ops loc low i bf gf) : n = wrap64 (n + 0) := by
  have := m.n64
  unfold I64 at this
  unfold wrap64
  omega
theorem Mid.lnext (m : Mid G H R T w L K x n d s r rs fn u c pc ρ ops loc low i bf gf) (h : i.op ≠ 3 ∧ i.op ≠ 4 ∧ i.op ≠ 5 ∧ i.op ≠ 9 ∧ i.op ≠ 6 ∧ i.op ≠ 7 ∧ i.op ≠ 8 ∧ i.op ≠ 10) {lo : LO} (hl : lstep i ops loc d.flat d.max = lo) (ht : lo.t = 0) : G.o = ⟨0, ⟨fn, pc + 1, lo.ops, lo.loc⟩ :: dec low rs, [], lo.mem, G.sem s, 0⟩ := by
  rw [m.go, fexec_l R.P H c ⟨fn, pc, ops, loc⟩ (dec low rs) d.flat d.max (G.sem s) h hl, if_pos ht]
theorem Mid.ltrap (m : Mid G H R T w L K x n d s r rs fn u c pc ρ ops loc low i bf gf) (h : i.op ≠ 3 ∧ i.op ≠ 4 ∧ i.op ≠ 5 ∧ i.op ≠ 9 ∧ i.op ≠ 6 ∧ i.op ≠ 7 ∧ i.op ≠ 8 ∧ i.op ≠ 10) {lo : LO} (hl : lstep i ops loc d.flat d.max = lo) (ht : lo.t ≠ 0) : G.o = ⟨lo.t, [], [], lo.mem, G.sem s, 0⟩ := by
  rw [m.go, fexec_l R.P H c ⟨fn, pc, ops, loc⟩ (dec low rs) d.flat d.max (G.sem s) h hl, if_neg ht]
theorem Mid.trap (m : Mid G H R T w L K x n d s r rs fn u c pc ρ ops loc low i bf gf) {t dn n' : Int} {d' : KD} {s' : σ} {fr : List FF} {vs : List V} (hX : G.o = ⟨t, fr, vs, d'.flat, G.sem s', dn⟩) (hn : n' = wrap64 (n + dn)) (hm : d'.max = d.max) : TpE G t n' d' s' :=
  ⟨by rw [hX], by rw [hX], by rw [hm, m.gM], by rw [hX], by rw [hn, hX, m.gn]⟩
/-- on, behind this instruction, in the same frame -/
theorem Mid.next (m : Mid G H R T w L K x n d s r rs fn u c pc ρ ops loc low i bf gf) {w' : World} {L' : InL} {K' : KL} {n' : Int} {d' : KD} {s' : σ} (ops' loc' : List V) (pc' : Nat) (hT : T fn pc' = some (ops'.map V.ty)) (hloc : loc'.map V.ty = loc.map V.ty) (hf : ∀ v ∈ ops', v.Fits) (hf' : ∀ v ∈ loc', v.Fits) {st' : List V} (hst : st' = ops' ++ (loc' ++ low))
    (hr : RunW R w' L' K' { x with st := st', fr := { r with pc := (pc' : Int) } :: rs } n' d' s') {vs : List V} {dn : Int} (hX : G.o = ⟨0, ⟨fn, pc', ops', loc'⟩ :: dec low rs, vs, d'.flat, G.sem s', dn⟩) (hn : n' = wrap64 (n + dn)) (hm : d'.max = d.max) : Nx G R T x w' := by
  subst hst
  have g := m.good
  rw [m.fr] at g
  have hll : loc'.length = loc.length := by have := congrArg List.length hloc; simpa using this
  refine ⟨L', K', _, n', d', s', hr, g.next m.lay m.chain ops' loc' pc' hT hloc hf hf', by simp, rfl, rfl, ?_, ⟨by rw [hX], ?_, by rw [hX], by rw [hm, m.gM], by rw [hX], by rw [hn, hX, m.gn]⟩⟩
  · rw [m.fr]
    exact bot_pc r rs pc'
  · rw [hX]
    exact dec_cons m.lay.f rfl m.lay.base (by rw [hll]; exact m.lay.floor)
/-- the tail of a round: the program counter -/
theorem Mid.tail (m : Mid G H R T w L K x n d s r rs fn u c pc ρ ops loc low i bf gf) {w' : World} {L' : InL} {K' : KL} {n' : Int} {d' : KD} {s' : σ} {st' : List V} (hL : L'.fa = some ⟨gf, 0, none⟩) (hr : RunW R w' L' K' { x with st := st' } n' d' s') :
    w'.cell? ⟨gf, rs.length * 5 + 1, none⟩ = some (.int .i64 pc) ∧ (∀ j, w'.frozen? ⟨gf, j, none⟩ = false) ∧ gf < w'.heap.size ∧ RunW R (w'.setCell ⟨gf, rs.length * 5 + 1, none⟩ (.int .i64 ((pc : Int) + 1))) L' K' { x with st := st', fr := { r with pc := ((pc + 1 : Nat) : Int) } :: rs } n' d' s' := by
  obtain ⟨g2, e1, e2, e3, e4, _⟩ := hr.inst.top (r := r) (rs := rs) m.fr
  rw [hL] at e1
  simp at e1
  subst e1
  have h1 := e2 1 (by omega)
  simp [frmCells, m.lay.hpc] at h1
  have h2 := hr.inst.setPc (r := r) (rs := rs) m.fr hL ((pc : Int) + 1)
  refine ⟨h1, e3, e4, ?_⟩
  have := hr.step h2.1 h2.2
  simpa using this
/-- a value is laid on the stack, and the program counter steps on -/
theorem Mid.push (m : Mid G H R T w L K x n d s r rs fn u c pc ρ ops loc low i bf gf) {wA : World} {LA : InL} {KA : KL} {nA : Int} {dA : KD} {sA : σ} {st0 : List V} (hr : RunW R wA LA KA { x with st := st0 } nA dA sA) (hL : LA.fa = some ⟨gf, 0, none⟩) (hbox : Has wA bf #[.int .i64 i.op, .int .i64 i.imm, .int .i64 i.keep, .int .i64 i.cut] 176)
    (v : V) {gg cap : Nat} {w5 : World} (q1 : w5.ownsRow 0 150 1 (.slice (some ⟨gg, 0, none⟩) (st0.length + 1) cap) (st0.length + 1) (st0.reverse.map V.val ++ v.val.cells.toList))
    (q2 : Fr (fun j => (LA.stV { x with st := st0 }).ownBlock = some j) (wA.alloc (.cells v.val.cells 150)) w5) (q3 : (LA.stV { x with st := st0 }).ownBlock = some gg ∨ gg = wA.heap.size + 1) (q4 : gg < w5.heap.size) :
    (∀ j, w5.cell? ⟨R.bx, j, none⟩ = wA.cell? ⟨R.bx, j, none⟩) ∧ (∀ j, w5.frozen? ⟨R.bx, j, none⟩ = false) ∧ R.bx < w5.heap.size ∧ w5.cell? ⟨gf, rs.length * 5 + 1, none⟩ = some (.int .i64 pc) ∧ (∀ j, w5.frozen? ⟨gf, j, none⟩ = false) ∧ gf < w5.heap.size ∧ R.bx ≠ gf ∧
    (∀ j, w5.cell? ⟨bf, j, none⟩ = wA.cell? ⟨bf, j, none⟩) ∧
    ∃ L', RunW R ((w5.setCell ⟨R.bx, 2, none⟩ (.slice (some ⟨gg, 0, none⟩) (st0.length + 1) cap)).setCell ⟨gf, rs.length * 5 + 1, none⟩ (.int .i64 ((pc : Int) + 1))) L' KA { x with st := v :: st0, fr := { r with pc := ((pc + 1 : Nat) : Int) } :: rs } nA dA sA := by
  obtain ⟨r1, r2, r3, r4, r5⟩ := hr.inst.pushed v q1 q2 q3 q4
  have hr2 := hr.step r4 r5
  obtain ⟨t1, t2, t3, t4⟩ := m.tail (st' := v :: st0) (L' := { LA with sa := some ⟨gg, 0, none⟩, sc := cap }) hL hr2
  obtain ⟨g2, e1, _, _, _, _, e6, _⟩ := hr.inst.top (r := r) (rs := rs) m.fr
  rw [hL] at e1
  simp at e1
  subst e1
  have hb5 : Has w5 bf _ _ := (hbox.alloc _).fr q2 (fun e => owns_ne hr.inst.st hbox (by decide) e)
  refine ⟨r1, r2, r3, ?_, fun j => ?_, ?_, e6, fun j => by rw [hb5.cell, hbox.cell], _, t4⟩
  · rw [World.cell?_setCell_other w5 ⟨R.bx, 2, none⟩ ⟨gf, rs.length * 5 + 1, none⟩ _ (fun e => e6 (congrArg Addr.block e))] at t1; exact t1
  · have := t2 j; simpa using this
  · simpa [World.setCell] using t3
theorem Mid.fits (m : Mid G H R T w L K x n d s r rs fn u c pc ρ ops loc low i bf gf) : (∀ v ∈ ops, v.Fits) ∧ (∀ v ∈ loc, v.Fits) ∧ (∀ v ∈ low, v.Fits) := by
  have hf := m.good
  rw [m.fr] at hf
  exact hf.sub m.lay
theorem RunW.box {wA wB : World} {LA LB : InL} {KA : KL} {xA : InD} {nA : Int} {dA : KD} {sA : σ} (hr : RunW R wA LA KA xA nA dA sA) (h2 : InStep wA wB R.bx LA LB) {cs : Array Value} (hb : Has wA bf cs 176) : Has wB bf cs 176 :=
  hb.fr h2.fr (hr.inst.typed.has hb (by decide))
/-- a pop -/
theorem Mid.popc (m : Mid G H R T w L K x n d s r rs fn u c pc ρ ops loc low i bf gf) {wA : World} {LA : InL} {KA : KL} {nA : Int} {dA : KD} {sA : σ} {v : V} {st0 : List V} (hr : RunW R wA LA KA { x with st := v :: st0 } nA dA sA) {cs : Array Value} (hb : Has wA bf cs 176) (hf : r.floor ≤ st0.length) (hl : st0.length ≤ 1000) :
    Calls Tryz.prog 100 #[.pointer (some ⟨R.bx, 0, none⟩)] wA fun e w' => e = .returned v.val ∧ RunW R w' LA KA { x with st := st0 } nA dA sA ∧ Has w' bf cs 176 := by
  refine (rpop_any hr.inst rfl m.fr hf hl (by have := m.lens; omega)).mono ?_
  rintro e w' ⟨h1, h2, h3⟩
  exact ⟨h1, hr.step h2 h3, hr.box h3 hb⟩
theorem Mid.pop32c (m : Mid G H R T w L K x n d s r rs fn u c pc ρ ops loc low i bf gf) {wA : World} {LA : InL} {KA : KL} {nA : Int} {dA : KD} {sA : σ} {k : Int} {st0 : List V} (hr : RunW R wA LA KA { x with st := V.w k :: st0 } nA dA sA) {cs : Array Value} (hb : Has wA bf cs 176) (hk : (V.w k).Fits) (hf : r.floor ≤ st0.length) (hl : st0.length ≤ 1000) :
    Calls Tryz.prog 96 #[.pointer (some ⟨R.bx, 0, none⟩)] wA fun e w' => e = .returned (.int .i64 k) ∧ RunW R w' LA KA { x with st := st0 } nA dA sA ∧ Has w' bf cs 176 := by
  refine (rpop32_any hr.inst hk rfl m.fr hf hl (by have := m.lens; omega)).mono ?_
  rintro e w' ⟨h1, h2, h3⟩
  exact ⟨h1, hr.step h2 h3, hr.box h3 hb⟩
theorem Mid.numc (m : Mid G H R T w L K x n d s r rs fn u c pc ρ ops loc low i bf gf) {wA : World} {LA : InL} {KA : KL} {nA : Int} {dA : KD} {sA : σ} {v : V} {st0 : List V} (hr : RunW R wA LA KA { x with st := v :: st0 } nA dA sA) {cs : Array Value} (hb : Has wA bf cs 176) (hk : v.Fits) (hf : r.floor ≤ st0.length) (hl : st0.length ≤ 1000) {t : UInt8} (ht : v.ty = t) :
    Calls Tryz.prog 101 #[.pointer (some ⟨R.bx, 0, none⟩), .int .u8 t.toNat] wA fun e w' => e = .returned (.int .i64 v.num) ∧ RunW R w' LA KA { x with st := st0 } nA dA sA ∧ Has w' bf cs 176 := by
  subst ht
  refine (rnum_any hr.inst hk rfl m.fr hf hl (by have := m.lens; omega)).mono ?_
  rintro e w' ⟨h1, h2, h3⟩
  exact ⟨h1, hr.step h2 h3, hr.box h3 hb⟩
/-- a taken jump -/
theorem Mid.jumpc (m : Mid G H R T w L K x n d s r rs fn u c pc ρ ops loc low i bf gf) {wA : World} {KA : KL} {nA : Int} {dA : KD} {sA : σ} {ops0 : List V} (hr : RunW R wA L KA { x with st := ops0 ++ (loc ++ low) } nA dA sA) (hf0 : ∀ v ∈ ops0, v.Fits) (hl0 : ops0.length ≤ 24) {j : Flat} (hj : JumpOk (fun _ imm ρ => 0 ≤ imm ∧ T fn imm.toNat = some ρ) pc j (ops0.map V.ty)) {opsA vs : List V} {pcA : Nat} {dn : Int} (hX : G.o = ⟨0, fjump ⟨fn, pcA, opsA, loc⟩ j ops0 :: dec low rs, vs, dA.flat, G.sem sA, dn⟩) (hn : nA = wrap64 (n + dn)) (hm : dA.max = d.max) :
    Calls Tryz.prog 98 #[.pointer (some ⟨R.bx, 0, none⟩), .pointer (some ⟨gf, rs.length * 5, none⟩), .agg #[.int .i64 j.op, .int .i64 j.imm, .int .i64 j.keep, .int .i64 j.cut]] wA fun e w' => e = .returned (.tuple #[]) ∧ Nx G R T x w' := by
  obtain ⟨xs, ys, zs, e1, e2, e3, e4, e5, e6⟩ := jump_ty rfl hj
  have hlen := m.lens
  have hst := congrArg List.length m.lay.hst
  simp at hst
  obtain ⟨p', hp'⟩ : ∃ p' : Nat, j.imm = p' := ⟨j.imm.toNat, by omega⟩
  refine (rjump_any hr.inst m.fr m.gf (xs := xs) (ys := ys) (zs := zs ++ (loc ++ low)) (by simp [e1]) j.op j.imm j.keep j.cut e2 (by rw [m.lay.floor]; simp; omega) e3 (by simp; omega) (by omega)).mono ?_
  rintro e w' ⟨h1, h2, h3⟩
  refine ⟨h1, ?_⟩
  have hr2 := hr.step h2 h3
  rw [hp'] at e6 hr2
  have hX2 : G.o = ⟨0, ⟨fn, p', xs ++ zs, loc⟩ :: dec low rs, vs, dA.flat, G.sem sA, dn⟩ := by
    rw [hX]
    unfold fjump
    simp only
    rw [hp', e1, ← e2, ← e4, Int.toNat_natCast, Int.toNat_natCast, Int.toNat_natCast, List.take_left' rfl, show (xs ++ (ys ++ zs)).length - zs.length = (xs ++ ys).length by simp; omega, ← List.append_assoc, List.drop_left' rfl]
  refine m.next (xs ++ zs) loc p' ?_ rfl ?_ m.fits.2.1 (st' := xs ++ (zs ++ (loc ++ low))) (by simp) hr2 hX2 hn hm
  · simpa using e6
  · intro v hv
    rcases List.mem_append.1 hv with hv | hv
    · exact hf0 v (by rw [e1]; simp [hv])
    · exact hf0 v (by rw [e1]; simp [hv])
theorem Mid.runSt (m : Mid G H R T w L K x n d s r rs fn u c pc ρ ops loc low i bf gf) {st0 : List V} (h : x.st = st0) : RunW R w L K { x with st := st0 } n d s := by
  rw [← h]; exact m.run
theorem Mid.setpc (m : Mid G H R T w L K x n d s r rs fn u c pc ρ ops loc low i bf gf) {wA : World} {LA : InL} {KA : KL} {nA : Int} {dA : KD} {sA : σ} {st0 : List V} (hL : LA.fa = some ⟨gf, 0, none⟩) (hr : RunW R wA LA KA { x with st := st0 } nA dA sA) (q : Int) :
    RunW R (wA.setCell ⟨gf, rs.length * 5 + 1, none⟩ (.int .i64 q)) LA KA { x with st := st0, fr := { r with pc := q } :: rs } nA dA sA := by
  have h2 := hr.inst.setPc (r := r) (rs := rs) m.fr hL q
  exact hr.step h2.1 h2.2
/-- leave -/
theorem Mid.leavec (m : Mid G H R T w L K x n d s r rs fn u c pc ρ ops loc low i bf gf) (hop : i.op = 5 ∨ i.op = 9) {vs ops0 : List V} (ho : ops = vs ++ ops0) (hv : vs.map V.ty = u.results.reverse) :
    Calls Tryz.prog 97 #[.pointer (some ⟨R.bx, 0, none⟩)] w fun e w' => e = .returned (.tuple #[]) ∧ w'.cell? ⟨R.bx, 3, none⟩ = some (.slice L.fa rs.length L.fc) ∧ (rs ≠ [] → Lv G R T K d s x rs w') ∧ (rs = [] → Dn G R K d s x rs u.results w') := by
  have hlen := m.lens
  have hst : x.st = vs ++ ((ops0 ++ loc) ++ low) := by rw [m.lay.hst, ho]; simp
  refine (rleave_any m.run.inst m.fr hst (by rw [m.lay.res]; exact hv) m.lay.base (by rw [m.lay.floor]; simp) (by omega) (by omega)).mono ?_
  rintro e w' ⟨h1, h2, h3⟩
  have hr := m.run.step h2 h3
  have hc := h2.here.cell 3
  simp at hc
  have g := m.good
  rw [m.fr] at g
  have hX : G.o = fleave R.P ⟨fn, pc, ops, loc⟩ (dec low rs) d.flat (G.sem s) := by
    rw [m.go]
    unfold fexec
    rw [if_neg (by omega), if_neg (by omega), if_pos hop]
  have hvl : vs.length = u.results.length := by have := congrArg List.length hv; simpa using this
  have htk : ops.take ((R.P.funs[fn]?.map fun u => u.results.length).getD 0) = vs := by
    rw [m.lay.hu, ho]
    exact List.take_left' hvl
  have hn0 := m.n0
  refine ⟨h1, hc, fun hne => ⟨L, n, vs ++ low, hr, g.leave m.lay m.chain ho hv hne, hne, ?_⟩, fun he => ⟨he, L, n, vs, ?_, hv, fun v hv' => m.fits.1 v (by rw [ho]; simp [hv']), fun r' hr' => ?_, ?_⟩⟩
  · cases hrs : rs with
    | nil => exact absurd hrs hne
    | cons r1 rs1 =>
      have hl := m.chain
      rw [hrs] at hl hX
      unfold Chain at hl
      obtain ⟨fn', u', c', pc', ρ', ops', loc', low', l', hl'⟩ := hl
      rw [l'.hst, dec_cons l'.f l'.hpc l'.base l'.floor] at hX
      unfold fleave at hX
      simp only [htk] at hX
      refine ⟨by rw [hX], ?_, by rw [hX], m.gM.symm, by rw [hX], by rw [hX, m.gn]; exact hn0⟩
      rw [hX]
      simp only
      rw [l'.hst, ← List.append_assoc]
      exact dec_cons l'.f l'.hpc l'.base l'.floor
  rotate_left
  · rw [m.fr] at hr'
    simp at hr'
    subst hr'
    rw [m.lay.floor, hst]
    simp
    omega
  · have hX2 := hX
    rw [he] at hX2
    have hd : dec low ([] : List Frm) = [] := by rw [dec]
    rw [hd] at hX2
    unfold fleave at hX2
    simp only [htk] at hX2
    exact ⟨by rw [hX2], by rw [hX2], by rw [hX2], m.gM.symm, by rw [hX2], by rw [hX2, m.gn]; exact hn0⟩
  have hl := m.chain
  subst he
  unfold Chain at hl
  subst hl
  simpa using hr
/-- .. where the world behind the block of the element was drawn from -/
theorem Mid.pushD (m : Mid G H R T w L K x n d s r rs fn u c pc ρ ops loc low i bf gf) {wA : World} {LA : InL} {KA : KL} {nA : Int} {dA : KD} {sA : σ} {st0 : List V} (hr : RunW R wA LA KA { x with st := st0 } nA dA sA) (hL : LA.fa = some ⟨gf, 0, none⟩) (hbox : Has wA bf #[.int .i64 i.op, .int .i64 i.imm, .int .i64 i.keep, .int .i64 i.cut] 176)
    (v : V) {gg cap : Nat} {w5 : World} (q1 : w5.ownsRow 0 150 1 (.slice (some ⟨gg, 0, none⟩) (st0.length + 1) cap) (st0.length + 1) (st0.reverse.map V.val ++ [v.val]))
    (q2 : Fr (fun j => (LA.stV { x with st := st0 }).ownBlock = some j) (wA.alloc (.cells #[v.val] 150)).drew w5) (q3 : (LA.stV { x with st := st0 }).ownBlock = some gg ∨ gg = wA.heap.size + 1) (q4 : gg < w5.heap.size) :
    (∀ j, w5.cell? ⟨R.bx, j, none⟩ = wA.cell? ⟨R.bx, j, none⟩) ∧ (∀ j, w5.frozen? ⟨R.bx, j, none⟩ = false) ∧ R.bx < w5.heap.size ∧ w5.cell? ⟨gf, rs.length * 5 + 1, none⟩ = some (.int .i64 pc) ∧ (∀ j, w5.frozen? ⟨gf, j, none⟩ = false) ∧ gf < w5.heap.size ∧ R.bx ≠ gf ∧
    (∀ j, w5.cell? ⟨bf, j, none⟩ = wA.cell? ⟨bf, j, none⟩) ∧
    ∃ L', RunW R ((w5.setCell ⟨R.bx, 2, none⟩ (.slice (some ⟨gg, 0, none⟩) (st0.length + 1) cap)).setCell ⟨gf, rs.length * 5 + 1, none⟩ (.int .i64 ((pc : Int) + 1))) L' KA { x with st := v :: st0, fr := { r with pc := ((pc + 1 : Nat) : Int) } :: rs } nA dA sA :=
  m.push hr hL hbox v (by rw [V.cells]; exact q1) (by rw [V.cells]; exact ⟨q2.os, q2.tape, q2.output, q2.size, q2.block⟩) q3 q4
theorem set_mid {α : Type} (A B C : List α) (j : Nat) (v : α) (hj : j < B.length) : ((A ++ (B ++ C)).reverse.set (C.length + j) v).reverse = A ++ ((B.reverse.set j v).reverse ++ C) := by
  simp only [List.reverse_append, List.append_assoc]
  rw [List.set_append_right _ _ (by simp), List.set_append_left _ _ (by simp; omega)]
  simp
theorem Mid.drew (m : Mid G H R T w L K x n d s r rs fn u c pc ρ ops loc low i bf gf) : Mid G H R T w.drew L K x n d s r rs fn u c pc ρ ops loc low i bf gf := { m with run := m.run.drew, box := m.box.drew }
theorem Mid.num105c (m : Mid G H R T w L K x n d s r rs fn u c pc ρ ops loc low i bf gf) {wA : World} {LA : InL} {KA : KL} {nA : Int} {dA : KD} {sA : σ} {v : V} {st0 : List V} (hr : RunW R wA LA KA { x with st := v :: st0 } nA dA sA) {cs : Array Value} (hb : Has wA bf cs 176) (hk : v.Fits) (hf : r.floor ≤ st0.length) (hl : st0.length ≤ 1000) (ht : v.ty = 105) :
    Calls Tryz.prog 101 #[.pointer (some ⟨R.bx, 0, none⟩), .int .u8 105] wA fun e w' => e = .returned (.int .i64 v.num) ∧ RunW R w' LA KA { x with st := st0 } nA dA sA ∧ Has w' bf cs 176 := by
  have e : (((105 : UInt8).toNat : Nat) : Int) = 105 := by decide
  rw [← e]
  exact m.numc hr hb hk hf hl ht
theorem Mid.num108c (m : Mid G H R T w L K x n d s r rs fn u c pc ρ ops loc low i bf gf) {wA : World} {LA : InL} {KA : KL} {nA : Int} {dA : KD} {sA : σ} {v : V} {st0 : List V} (hr : RunW R wA LA KA { x with st := v :: st0 } nA dA sA) {cs : Array Value} (hb : Has wA bf cs 176) (hk : v.Fits) (hf : r.floor ≤ st0.length) (hl : st0.length ≤ 1000) (ht : v.ty = 108) :
    Calls Tryz.prog 101 #[.pointer (some ⟨R.bx, 0, none⟩), .int .u8 108] wA fun e w' => e = .returned (.int .i64 v.num) ∧ RunW R w' LA KA { x with st := st0 } nA dA sA ∧ Has w' bf cs 176 := by
  have e : (((108 : UInt8).toNat : Nat) : Int) = 108 := by decide
  rw [← e]
  exact m.numc hr hb hk hf hl ht
theorem kind32 (v : Value) (w : World) : Calls Tryz.prog 186 #[v] w fun e w' => e = .returned (.int .u8 105) ∧ w' = w := by
  go_enter Tryz.func186, Tryz.ntmps186
  go_wp2
  go_ret
  exact ⟨rfl, rfl⟩
theorem kind64 (v : Value) (w : World) : Calls Tryz.prog 187 #[v] w fun e w' => e = .returned (.int .u8 108) ∧ w' = w := by
  go_enter Tryz.func187, Tryz.ntmps187
  go_wp2
  go_ret
  exact ⟨rfl, rfl⟩
theorem word105 (n : Int) (w : World) : Calls Tryz.prog 63 #[.int .u8 105, .int .i64 n] w fun e w' => e = .returned (word 105 n).val ∧ w' = w := by
  have e : (((105 : UInt8).toNat : Nat) : Int) = 105 := by decide
  rw [← e]
  exact word_any 105 n w
theorem word108 (n : Int) (w : World) : Calls Tryz.prog 63 #[.int .u8 108, .int .i64 n] w fun e w' => e = .returned (word 108 n).val ∧ w' = w := by
  have e : (((108 : UInt8).toNat : Nat) : Int) = 108 := by decide
  rw [← e]
  exact word_any 108 n w
theorem word_eq {v : V} {t : UInt8} (hf : v.Fits) (ht : v.ty = t) : word t v.num = v := by
  subst ht
  cases v using V.on with
  | w a =>
    unfold V.Fits at hf
    show V.w (wrap32 a) = V.w a
    congr 1
    unfold wrap32
    simp only at hf
    omega
  | d a => rfl
theorem V.num_fits {v : V} (h : v.Fits) : -9223372036854775808 ≤ v.num ∧ v.num < 9223372036854775808 := by
  cases v using V.on with
  | w a => unfold V.Fits at h; simp only [V.num]; omega
  | d a => exact h
/-- .. where nothing was drawn -/
theorem Mid.pushL (m : Mid G H R T w L K x n d s r rs fn u c pc ρ ops loc low i bf gf) {wA : World} {LA : InL} {KA : KL} {nA : Int} {dA : KD} {sA : σ} {st0 : List V} (hr : RunW R wA LA KA { x with st := st0 } nA dA sA) (hL : LA.fa = some ⟨gf, 0, none⟩) (hbox : Has wA bf #[.int .i64 i.op, .int .i64 i.imm, .int .i64 i.keep, .int .i64 i.cut] 176)
    (v : V) {gg cap : Nat} {w5 : World} (q1 : w5.ownsRow 0 150 1 (.slice (some ⟨gg, 0, none⟩) (st0.length + 1) cap) (st0.length + 1) (st0.reverse.map V.val ++ [v.val]))
    (q2 : Fr (fun j => (LA.stV { x with st := st0 }).ownBlock = some j) (wA.alloc (.cells #[v.val] 150)) w5) (q3 : (LA.stV { x with st := st0 }).ownBlock = some gg ∨ gg = wA.heap.size + 1) (q4 : gg < w5.heap.size) :
    (∀ j, w5.cell? ⟨R.bx, j, none⟩ = wA.cell? ⟨R.bx, j, none⟩) ∧ (∀ j, w5.frozen? ⟨R.bx, j, none⟩ = false) ∧ R.bx < w5.heap.size ∧ w5.cell? ⟨gf, rs.length * 5 + 1, none⟩ = some (.int .i64 pc) ∧ (∀ j, w5.frozen? ⟨gf, j, none⟩ = false) ∧ gf < w5.heap.size ∧ R.bx ≠ gf ∧
    (∀ j, w5.cell? ⟨bf, j, none⟩ = wA.cell? ⟨bf, j, none⟩) ∧
    ∃ L', RunW R ((w5.setCell ⟨R.bx, 2, none⟩ (.slice (some ⟨gg, 0, none⟩) (st0.length + 1) cap)).setCell ⟨gf, rs.length * 5 + 1, none⟩ (.int .i64 ((pc : Int) + 1))) L' KA { x with st := v :: st0, fr := { r with pc := ((pc + 1 : Nat) : Int) } :: rs } nA dA sA :=
  m.push hr hL hbox v (by rw [V.cells]; exact q1) (by rw [V.cells]; exact q2) q3 q4
theorem set_ty {loc : List V} {jj : Nat} {q v : V} (h : loc.reverse[jj]? = some q) (e : v.ty = q.ty) : (loc.reverse.set jj v).reverse.map V.ty = loc.map V.ty := by
  rw [List.map_reverse, List.map_set]
  have : (loc.reverse.map V.ty).set jj v.ty = loc.reverse.map V.ty := by
    apply List.ext_getElem?
    intro a
    rw [List.getElem?_set]
    split
    · rename_i e'
      subst e'
      have hlt : jj < loc.reverse.length := (List.getElem?_eq_some_iff.1 h).1
      rw [if_pos (by simpa using hlt), List.getElem?_map, h, e]; rfl
    · rfl
  rw [this, List.map_reverse, List.reverse_reverse]
end
end Go.Proofs.Qxb6500575aGreatDoor
