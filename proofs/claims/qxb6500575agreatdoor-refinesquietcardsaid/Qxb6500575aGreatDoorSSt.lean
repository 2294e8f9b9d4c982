/-
  What lies between two operations of a script: the Below, the program, the memory, the machine, the arguments.
-/
import Derived.Test.Qxb6500575aGreatDoorSAnsw
import Derived.Test.Qxb6500575aGreatDoorRGround
namespace Go.Proofs.Qxb6500575aGreatDoor
open Go Go.RowKit
set_option linter.unusedVariables false
set_option linter.unusedSimpArgs false

structure LayR where
  bb : Nat
  bp : Nat
  bk : Nat
  bx : Nat
  pm : Option Addr
  km : Option Addr
  S : Nat → Prop
  Kb : BelL
  LP : ProgL
  KK : KL
  L : InL
  aa : Option Addr
  ac : Nat
  sd : List (Nat × Array Value × TypeId)
abbrev LayR.q (Y : LayR) : Q4 := ⟨some ⟨Y.bp, 0, none⟩, some ⟨Y.bk, 0, none⟩, Y.pm, Y.km⟩
structure RX (w0 w : World) (Y : LayR) (x : BelD) (m : ModD) (n : Int) (d : KD) (hi : Int) (args : List BV) : Prop where
  bel : BelRep Y.q Y.S w Y.bb Y.Kb x
  prog : ProgRep (PS Y.bp Y.LP) w Y.bp Y.LP (m.progN n)
  mach : KRep w Y.bk Y.KK d
  inst : InRep w Y.bx (.pointer (some ⟨Y.bp, 0, none⟩)) (.pointer (some ⟨Y.bk, 0, none⟩)) Y.L ⟨[], [], 0, hi⟩
  row : w.ownsRow 0 70 2 (.slice Y.aa args.length Y.ac) args.length (bvCells args)
  newS : ∀ k, Y.S k → w0.heap.size ≤ k ∧ k < w.heap.size
  newP : ∀ k, PS Y.bp Y.LP k → w0.heap.size ≤ k ∧ ¬ Y.S k
  newK : ∀ k, KS Y.bk Y.KK k → w0.heap.size ≤ k ∧ ¬ Y.S k
  newI : ∀ k, InS Y.bx Y.L k → w0.heap.size ≤ k ∧ ¬ Y.S k
  newA : ∀ k, (Value.slice Y.aa 0 0).ownBlock = some k → w0.heap.size ≤ k ∧ ¬ Y.S k
  side : ∀ p ∈ Y.sd, Has w p.1 p.2.1 p.2.2 ∧ (p.2.2 = 39 ∨ p.2.2 = 46) ∧ w0.heap.size ≤ p.1 ∧ ¬ Y.S p.1
  fr : Fr (fun _ => False) w0 w
/-- what a loaded module gives -/
structure Loaded (m : ModD) : Prop where
  pt : ∃ T, ProgT (m.progN 0) T
  wf : ∀ (f : Nat) c, m.prog.codes[f]? = some c → ∀ i ∈ c, (V.d i.imm).Fits
theorem ProgT.steps {p : ProgD} {T : Nat → Typing} (h : ProgT p T) (n : Int) : ProgT { p with steps := n } T := ⟨h.1, h.2, h.3, h.4, h.5, h.6⟩
theorem Loaded.of {x : BelD} (h : BelFit x) (hl : x.m.load.2.2 = 0) : Loaded x.m :=
  ⟨prog_typed h.good.m h.ty hl 0, code_fits h.good.m h.ty.typed hl h.imm 0⟩
section
variable {w0 w w' : World} {Y : LayR} {x : BelD} {m : ModD} {n : Int} {d : KD} {hi : Int} {args : List BV}
theorem RX.ltP (h : RX w0 w Y x m n d hi args) {k : Nat} (hk : PS Y.bp Y.LP k) : k < w.heap.size := by
  obtain ⟨cs, t, h1, _⟩ := h.prog.typed k hk
  exact h1.lt
theorem RX.ltK (h : RX w0 w Y x m n d hi args) {k : Nat} (hk : KS Y.bk Y.KK k) : k < w.heap.size := by
  obtain ⟨cs, t, h1, _⟩ := h.mach.typed k hk
  exact h1.lt
theorem RX.ltI (h : RX w0 w Y x m n d hi args) {k : Nat} (hk : InS Y.bx Y.L k) : k < w.heap.size := by
  obtain ⟨cs, t, h1, _⟩ := h.inst.typed k hk
  exact h1.lt
theorem RX.ltA (h : RX w0 w Y x m n d hi args) {k : Nat} (hk : (Value.slice Y.aa 0 0).ownBlock = some k) : k < w.heap.size := owns_lt h.row k (by rw [ownBlock_any _ _ _ 0 0]; exact hk)
theorem RX.sideOff (h : RX w0 w Y x m n d hi args) {p : Nat × Array Value × TypeId} (hp : p ∈ Y.sd) {S' : Nat → Prop} {ts : List TypeId} (ht : Typed w S' ts) (h1 : 39 ∉ ts) (h2 : 46 ∉ ts) : ¬ S' p.1 := by
  obtain ⟨a, b, _⟩ := h.side p hp
  refine ht.has a ?_
  rcases b with b | b
  · rw [b]; exact h1
  · rw [b]; exact h2
theorem RX.fresh (h : RX w0 w Y x m n d hi args) (hf : Fr (fun _ => False) w w') : RX w0 w' Y x m n d hi args :=
  { h with
    bel := h.bel.newer hf
    prog := h.prog.kept hf (fun _ _ h => h)
    mach := h.mach.fresh hf
    inst := h.inst.fr' hf (fun _ _ h => h)
    row := owns_fr h.row hf (fun _ _ h => h)
    newS := fun k hk => ⟨(h.newS k hk).1, by have := (h.newS k hk).2; have := hf.size; omega⟩
    side := fun p hp => ⟨(h.side p hp).1.fr hf (fun h => h), (h.side p hp).2⟩
    fr := h.fr.trans hf (fun _ _ h => h) }
/-- Build -/
theorem RX.built (h : RX w0 w Y x m n d hi args) {r : BelD × Int} {e : Ending} (hb : BuildPost Y.q Y.S w Y.bb r e w') : ∃ Y', (Y'.bb = Y.bb ∧ Y'.bx = Y.bx ∧ Y'.aa = Y.aa ∧ Y'.ac = Y.ac ∧ Y'.sd = Y.sd) ∧ RX w0 w' Y' r.1 m n d hi args := by
  obtain ⟨_, ⟨K', b1⟩, b2⟩ := hb
  refine ⟨{ Y with S := Own Y.S w w', Kb := K' }, ⟨rfl, rfl, rfl, rfl, rfl⟩, ?_⟩
  have key : ∀ k, k < w.heap.size → ¬ Y.S k → ¬ Own Y.S w w' k := fun k hk hS hO => by
    rcases hO with hO | hO
    · exact hS hO
    · omega
  exact
    { bel := b1
      prog := h.prog.kept b2 (fun k hk => (h.newP k hk).2)
      mach := h.mach.fr b2 (fun k hk => (h.newK k hk).2)
      inst := h.inst.fr' b2 (fun k hk => (h.newI k hk).2)
      row := owns_fr h.row b2 (fun k hk => (h.newA k (by rw [ownBlock_any _ _ _ 0 0] at hk; exact hk)).2)
      newS := fun k hk => by
        have q1 := h.fr.size
        have q2 := b2.size
        rcases hk with hk | hk
        · have := h.newS k hk; omega
        · omega
      newP := fun k hk => ⟨(h.newP k hk).1, key k (h.ltP hk) (h.newP k hk).2⟩
      newK := fun k hk => ⟨(h.newK k hk).1, key k (h.ltK hk) (h.newK k hk).2⟩
      newI := fun k hk => ⟨(h.newI k hk).1, key k (h.ltI hk) (h.newI k hk).2⟩
      newA := fun k hk => ⟨(h.newA k hk).1, key k (h.ltA hk) (h.newA k hk).2⟩
      side := fun p hp => ⟨(h.side p hp).1.fr b2 (h.side p hp).2.2.2, (h.side p hp).2.1, (h.side p hp).2.2.1, key _ (h.side p hp).1.lt (h.side p hp).2.2.2⟩
      fr := h.fr.trans b2 (fun k hk hS => by have := (h.newS k hS).1; omega) }
/-- the counter of the program -/
theorem RX.steps (h : RX w0 w Y x m n d hi args) {n' : Int} (h1 : ProgRep (PS Y.bp Y.LP) w' Y.bp Y.LP (m.progN n')) (h2 : Fr (fun k => k = Y.bp) w w') : RX w0 w' Y x m n' d hi args := by
  have hb : Typed w (fun k => k = Y.bp) tsP := fun k e => by subst e; exact ⟨_, _, h.prog.funs.here, by simp⟩
  have hp := h.newP Y.bp (.inl rfl)
  exact
    { h with
      bel := h.bel.fr h2 (fun k hk e => hp.2 (e ▸ hk))
      prog := h1
      mach := h.mach.fr h2 (h.mach.typed.apart hb (by decide))
      inst := h.inst.fr' h2 (h.inst.typed.apart hb (by decide))
      row := owns_fr h.row h2 (fun k hk e => owns_ne h.row h.prog.funs.here (by decide) (e ▸ hk))
      newS := fun k hk => ⟨(h.newS k hk).1, by have := (h.newS k hk).2; have := h2.size; omega⟩
      side := fun p hp => ⟨(h.side p hp).1.fr h2 (h.sideOff hp hb (by decide) (by decide)), (h.side p hp).2⟩
      fr := h.fr.trans h2 (fun k hk e => by subst e; omega) }
/-- another row of arguments -/
theorem RX.argsNil (h : RX w0 w Y x m n d hi args) : RX w0 w { Y with aa := none, ac := 0 } x m n d hi [] :=
  { h with
    row := World.ownsRow_nil _ _ _ _
    newA := fun k hk => by cases hk }
theorem RX.argsTo (h : RX w0 w Y x m n d hi args) {args' : List BV} {aa' : Option Addr} {ac' : Nat} (ho : w'.ownsRow 0 70 2 (.slice aa' args'.length ac') args'.length (bvCells args')) (hf : Fr (fun k => (Value.slice Y.aa 0 0).ownBlock = some k) w w')
    (ha : ∀ k, (Value.slice aa' 0 0).ownBlock = some k → (Value.slice Y.aa 0 0).ownBlock = some k ∨ w.heap.size ≤ k) : RX w0 w' { Y with aa := aa', ac := ac' } x m n d hi args' := by
  have ht : Typed w (fun k => (Value.slice Y.aa 0 0).ownBlock = some k) tsH := fun k hk => by
    obtain ⟨cs, hcs⟩ := owns_typed h.row (by rw [ownBlock_any _ _ _ 0 0]; exact hk)
    exact ⟨cs, _, hcs, by simp⟩
  exact
    { h with
      bel := h.bel.fr hf (fun k hk e => (h.newA k e).2 hk)
      prog := h.prog.kept hf (h.prog.typed.apart ht (by decide))
      mach := h.mach.fr hf (h.mach.typed.apart ht (by decide))
      inst := h.inst.fr' hf (h.inst.typed.apart ht (by decide))
      row := ho
      newS := fun k hk => ⟨(h.newS k hk).1, by have := (h.newS k hk).2; have := hf.size; omega⟩
      newA := fun k hk => by
        rcases ha k hk with h1 | h1
        · exact h.newA k h1
        · exact ⟨by have := h.fr.size; omega, fun hS => by have := (h.newS k hS).2; omega⟩
      side := fun p hp => ⟨(h.side p hp).1.fr hf (h.sideOff (S' := fun k => (Value.slice Y.aa 0 0).ownBlock = some k) hp ht (by decide) (by decide)), (h.side p hp).2⟩
      fr := h.fr.trans hf (fun k hk e => by have := (h.newA k e).1; omega) }
/-- a new module under way -/
theorem RX.loaded (h : RX w0 w Y x m n d hi args) {e : Ending} (hl : LoadGood Y.S Y.bb Y.Kb x w e w') : e = .returned (.agg #[.int .i64 0, .int .i64 0, .int .i64 0, sv []]) ∧ ∃ bp LP bk KK pm km, BelRep ⟨some ⟨bp, 0, none⟩, some ⟨bk, 0, none⟩, pm, km⟩ Y.S w' Y.bb Y.Kb x ∧ Fr (fun k => k = Y.bb) w w' ∧
    ∀ bx w2, InRep w2 bx (.pointer (some ⟨bp, 0, none⟩)) (.pointer (some ⟨bk, 0, none⟩)) ⟨none, none, 0, 0⟩ ⟨[], [], 0, 0⟩ → Fr (fun _ => False) w' w2 → w'.heap.size ≤ bx → RX w0 w2 { Y with bp := bp, LP := LP, bk := bk, KK := KK, pm := pm, km := km, bx := bx, L := ⟨none, none, 0, 0⟩ } x x.m 0 (KD.zero x.m.min.toNat x.m.max.toNat) 0 args := by
  obtain ⟨he, bp, LP, bk, KK, pm, km, b1, b2, b3, b4, b5, b6⟩ := hl
  refine ⟨he, bp, LP, bk, KK, pm, km, b1, b6, fun bx w2 i1 i2 i3 => ?_⟩
  have q0 := h.fr.size
  have q1 := b6.size
  have q2 := i2.size
  exact
    { bel := b1.newer i2
      prog := b2.kept i2 (fun _ _ h => h)
      mach := b3.fresh i2
      inst := i1
      row := owns_fr (owns_fr h.row b6 (fun k hk e => owns_ne h.row h.bel.here (by decide) (e ▸ hk))) i2 (fun _ _ h => h)
      newS := fun k hk => by have := h.newS k hk; omega
      newP := fun k hk => by
        have := b4 k hk
        exact ⟨by omega, fun hS => by have := (h.newS k hS).2; omega⟩
      newK := fun k hk => by
        have := b5 k hk
        exact ⟨by omega, fun hS => by have := (h.newS k hS).2; omega⟩
      newI := fun k hk => by
        rcases hk with rfl | hk | hk
        · exact ⟨by omega, fun hS => by have := (h.newS _ hS).2; omega⟩
        · cases hk
        · cases hk
      newA := h.newA
      side := fun p hp => ⟨((h.side p hp).1.fr b6 (fun e => (h.side p hp).2.2.2 (e ▸ h.bel.own))).fr i2 (fun h => h), (h.side p hp).2⟩
      fr := (h.fr.trans b6 (fun k hk e => by have := (h.newS _ h.bel.own).1; omega)).trans i2 (fun _ _ h => h) }
theorem RX.notloaded (h : RX w0 w Y x m n d hi args) {e : Ending} (hl : LoadBad Y.q Y.S Y.bb Y.Kb x w e w') : RX w0 w' Y x m n d hi args := h.fresh hl.2.2
/-- a call -/
def RX.rp (Y : LayR) (w : World) (m : ModD) (d : KD) (bt : Nat) (s0 : TapeD) : RP TapeD := ⟨Y.bx, Y.bp, Y.bk, Y.LP, m.progN 0, tapeH bt, w, Y.L, Y.KK, d, s0⟩
def tape0 (t : List UInt8) : TapeD := ⟨t, [], 0, none, 0, []⟩
theorem tape0_rep {w : World} {bt : Nat} {t : List UInt8} (h : Has w bt #[sv t, sv [], .int .i64 0, .slice none 0 0] 88) : (tapeH bt).Rep w (tape0 t) :=
  ⟨⟨h, World.ownsRow_nil _ _ _ _, fun v hv => by cases hv⟩, ⟨by simp [tape0], rfl, by simp [tape0]⟩⟩
theorem tape0_S {bt : Nat} {t : List UInt8} {k : Nat} (h : TS bt (tape0 t) k) : k = bt := by
  rcases h with h | h | ⟨v, hv, _⟩
  · exact h
  · cases h
  · cases hv
theorem RX.run (h : RX w0 w Y x m n d hi args) {bt : Nat} {t : List UInt8} (ht : Has w bt #[sv t, sv [], .int .i64 0, .slice none 0 0] 88) : RunW (RX.rp Y w m d bt (tape0 t)) w Y.L Y.KK ⟨[], [], 0, hi⟩ n d (tape0 t) :=
  { inst := h.inst
    prog := h.prog
    mach := h.mach
    host := tape0_rep ht
    fr := Fr.refl _ _
    subI := fun _ _ h => h
    subK := fun _ _ h => h
    subH := fun _ _ h => h }
theorem RX.called (h : RX w0 w Y x m n d hi args) {bt : Nat} {t : List UInt8} (ht : Has w bt #[sv t, sv [], .int .i64 0, .slice none 0 0] 88) (hb : w0.heap.size ≤ bt ∧ ¬ Y.S bt) {L' : InL} {K' : KL} {hi' n' : Int} {d' : KD} {s' : TapeD}
    (hr : RunW (RX.rp Y w m d bt (tape0 t)) w' L' K' ⟨[], [], 0, hi'⟩ n' d' s') : RX w0 w' { Y with L := L', KK := K' } x m n' d' hi' args := by
  have hfr : Fr (RX.rp Y w m d bt (tape0 t)).S w w' := hr.fr
  have key : ∀ k, (RX.rp Y w m d bt (tape0 t)).S k → w0.heap.size ≤ k ∧ ¬ Y.S k := by
    rintro k (hk | hk | hk | hk)
    · exact h.newI k hk
    · exact h.newP k (.inl hk)
    · exact h.newK k hk
    · rw [tape0_S hk]; exact hb
  have sz := hfr.size
  have q0 := h.fr.size
  exact
    { bel := h.bel.fr hfr (fun k hk hS => (key k hS).2 hk)
      prog := hr.prog
      mach := hr.mach
      inst := hr.inst
      row := owns_fr h.row hfr (by
        rintro k hk (hS | hS | hS | hS)
        · exact h.inst.typed.owns h.row (by decide) k hk hS
        · exact h.prog.typed.owns h.row (by decide) k hk (.inl hS)
        · exact h.mach.typed.owns h.row (by decide) k hk hS
        · rw [tape0_S hS] at hk; exact owns_ne h.row ht (by decide) hk)
      newS := fun k hk => by have := h.newS k hk; omega
      newP := h.newP
      newK := fun k hk => by
        by_cases hlt : k < w.heap.size
        · exact h.newK k (hr.subK k hlt hk)
        · exact ⟨by omega, fun hS => by have := (h.newS k hS).2; omega⟩
      newI := fun k hk => by
        by_cases hlt : k < w.heap.size
        · exact h.newI k (hr.subI k hlt hk)
        · exact ⟨by omega, fun hS => by have := (h.newS k hS).2; omega⟩
      newA := h.newA
      side := fun p hp => ⟨(h.side p hp).1.fr hfr (by
        rintro (hS | hS | hS | hS)
        · exact h.sideOff hp h.inst.typed (by decide) (by decide) hS
        · exact h.sideOff hp h.prog.typed (by decide) (by decide) (.inl hS)
        · exact h.sideOff hp h.mach.typed (by decide) (by decide) hS
        · have := tape0_S hS
          have ht' : Typed w (fun k => k = bt) [88] := fun k e => by subst e; exact ⟨_, _, ht, by simp⟩
          exact h.sideOff hp ht' (by decide) (by decide) this), (h.side p hp).2⟩
      fr := h.fr.trans hfr (fun k hk hS => by have := (key k hS).1; omega) }
/-- a variable of the round -/
theorem RX.add (h : RX w0 w Y x m n d hi args) {b : Nat} {cs : Array Value} {t : TypeId} (hb : Has w b cs t) (ht : t = 39 ∨ t = 46) (h0 : w0.heap.size ≤ b ∧ ¬ Y.S b) : RX w0 w { Y with sd := (b, cs, t) :: Y.sd } x m n d hi args :=
  { h with
    side := fun p hp => by
      rcases List.mem_cons.1 hp with rfl | hp
      · exact ⟨hb, ht, h0⟩
      · exact h.side p hp }
theorem RX.drop (h : RX w0 w Y x m n d hi args) : RX w0 w { Y with sd := [] } x m n d hi args := { h with side := fun p hp => by cases hp }
theorem RX.off (h : RX w0 w Y x m n d hi args) {b : Nat} (hb : w.heap.size ≤ b) : ∀ p ∈ Y.sd, p.1 ≠ b := fun p hp e => by have := (h.side p hp).1.lt; omega
/-- the ground -/
theorem RX.ground {e : Ending} (hg : GroundPost w e w') : ∃ bb bp LP bk KK pm km Kb S, e = .returned (.pointer (some ⟨bb, 0, none⟩)) ∧ BelRep ⟨some ⟨bp, 0, none⟩, some ⟨bk, 0, none⟩, pm, km⟩ S w' bb Kb BelD.ground ∧ Fr (fun _ => False) w w' ∧
    ∀ bx w2, InRep w2 bx (.pointer (some ⟨bp, 0, none⟩)) (.pointer (some ⟨bk, 0, none⟩)) ⟨none, none, 0, 0⟩ ⟨[], [], 0, 0⟩ → Fr (fun _ => False) w' w2 → w'.heap.size ≤ bx → RX w w2 ⟨bb, bp, bk, bx, pm, km, S, Kb, LP, KK, ⟨none, none, 0, 0⟩, none, 0, []⟩ BelD.ground ModD.empty 0 (KD.zero 0 0) 0 [] := by
  obtain ⟨bb, K, S, bp, LP, bk, KK, pm, km, he, b1, b2, b3, b4, b5, b6, b7⟩ := hg
  refine ⟨bb, bp, LP, bk, KK, pm, km, K, S, he, b1, b7, fun bx w2 i1 i2 i3 => ?_⟩
  have q1 := b7.size
  have q2 := i2.size
  exact
    { bel := b1.newer i2
      prog := b2.kept i2 (fun _ _ h => h)
      mach := b3.fresh i2
      inst := i1
      row := World.ownsRow_nil _ _ _ _
      newS := fun k hk => by have := b4 k hk; omega
      newP := b5
      newK := b6
      newI := fun k hk => by
        rcases hk with rfl | hk | hk
        · exact ⟨by omega, fun hS => by have := (b4 _ hS).2; omega⟩
        · cases hk
        · cases hk
      newA := fun k hk => by cases hk
      side := fun p hp => by cases hp
      fr := b7.trans i2 (fun _ _ h => h) }
end
end Go.Proofs.Qxb6500575aGreatDoor
