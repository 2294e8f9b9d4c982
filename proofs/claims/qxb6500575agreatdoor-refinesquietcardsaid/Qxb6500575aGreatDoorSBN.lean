/-
  BOTH SIDES at a new module: Ground, Load, run.New, runm.New.
-/
import Derived.Test.Qxb6500575aGreatDoorSBX
namespace Go.Proofs.Qxb6500575aGreatDoor
open Go Go.RowKit
set_option linter.unusedVariables false
set_option linter.unusedSimpArgs false

theorem KD.zero_flat (a b : Nat) : (KD.zero a b).flat = List.replicate (a * 8) 0 := by
  apply List.ext_getElem
  · rw [KD.flat_len]; simp [KD.zero]
  · intro i h1 h2
    have hl : i < a * 8 := by simpa using h2
    simp only [KD.flat, KD.bytes, KD.zero, List.getElem_map, List.getElem_range, List.getElem_replicate, KD.byte]
    have : i / 8 < a := by omega
    simp [this]
/-- the Below has a program, a memory, for each side: the two instances are still to be made -/
structure PendN (w0 w : World) (bb bm bp bk bq bkm : Nat) (post : World → Nat → Nat → Prop) : Prop where
  here : ∃ c1, ∀ W, Fr (fun _ => False) w W → Has W bb #[.pointer (some ⟨bm, 0, none⟩), c1, .pointer (some ⟨bp, 0, none⟩), .pointer (some ⟨bk, 0, none⟩), .pointer (some ⟨bq, 0, none⟩), .pointer (some ⟨bkm, 0, none⟩)] 36
  next : ∀ bx w1, InRep w1 bx (.pointer (some ⟨bp, 0, none⟩)) (.pointer (some ⟨bk, 0, none⟩)) ⟨none, none, 0, 0⟩ ⟨[], [], 0, 0⟩ → Fr (fun _ => False) w w1 → w.heap.size ≤ bx →
    Calls Tryz.prog 44 #[.pointer (some ⟨bm, 0, none⟩), .pointer (some ⟨bq, 0, none⟩), .pointer (some ⟨bkm, 0, none⟩)] w1 fun e w2 => ∃ bn, e = .returned (.pointer (some ⟨bn, 0, none⟩)) ∧ post w2 bx bn
/-- what is laid ahead of the instances -/
structure Laid2 (w0 w : World) (v : VS) (S : Nat → Prop) (Kb : BelL) (bp bk bq bkm : Nat) (LP : ProgL) (KK : KL) (Lq : MPL) (sr : List (List Ins)) (MK : ML) : Prop where
  bel : BelRep ⟨some ⟨bp, 0, none⟩, some ⟨bk, 0, none⟩, some ⟨bq, 0, none⟩, some ⟨bkm, 0, none⟩⟩ S w v.bb Kb v.x
  prog : ProgRep (PS bp LP) w bp LP (v.x.m.progN 0)
  mach : KRep w bk KK (KD.zero v.x.m.min.toNat v.x.m.max.toNat)
  mprog : MProg (MPS bq Lq) w bq Lq v.x.m.progM sr
  mmach : MKRep w bkm MK (List.replicate (v.x.m.min.toNat * 8) 0) v.x.m.max.toNat
  newS : ∀ k, S k → w0.heap.size ≤ k ∧ k < w.heap.size
  newP : ∀ k, PS bp LP k → w0.heap.size ≤ k ∧ ¬ S k
  newK : ∀ k, KS bk KK k → w0.heap.size ≤ k ∧ ¬ S k
  newQ : ∀ k, MPS bq Lq k → w0.heap.size ≤ k ∧ ¬ S k
  newM : ∀ k, MKS bkm MK k → w0.heap.size ≤ k ∧ ¬ S k
  apK : ∀ k, MKS bkm MK k → ¬ KS bk KK k
  row : w.ownsRow 0 70 2 (.slice v.aa v.args.length v.ac) v.args.length (bvCells v.args)
  newA : ∀ k, (Value.slice v.aa 0 0).ownBlock = some k → w0.heap.size ≤ k ∧ ¬ S k
  side : ∀ p ∈ v.sd, Has w p.1 p.2.1 p.2.2 ∧ (p.2.2 = 39 ∨ p.2.2 = 46) ∧ w0.heap.size ≤ p.1 ∧ ¬ S p.1
  fr : Fr (fun _ => False) w0 w
  fit : BelFit v.x
  ok : v.x.m.load.2.2 = 0
  al : v.args.length ≤ 6
  a64 : ∀ b ∈ v.args, I64 b.v
section
variable {w0 w w' : World} {v : VS}
theorem Laid2.pend {S : Nat → Prop} {Kb : BelL} {bp bk bq bkm : Nat} {LP : ProgL} {KK : KL} {Lq : MPL} {sr : List (List Ins)} {MK : ML} (h : Laid2 w0 w v S Kb bp bk bq bkm LP KK Lq sr MK) :
    PendN w0 w v.bb Kb.bm bp bk bq bkm fun w2 bx bn => BS w0 w2 { v with bx := bx, bn := bn, m := v.x.m, n := 0, d := KD.zero v.x.m.min.toNat v.x.m.max.toNat, dm := KD.zero v.x.m.min.toNat v.x.m.max.toNat, fet := 0, lim := w2.heap.size } := by
  have lb : LoadB v.x.m := ⟨v.x, h.fit, rfl, h.ok⟩
  refine ⟨⟨_, fun W hW => (h.bel.newer hW).here⟩, fun bx w1 hI hF hbx => ?_⟩
  have hg := h.fit.good.m.ok
  have q0 := h.fr.size
  have q1 := hF.size
  have hb1 := h.bel.newer hF
  refine (yrnew_any _ Kb.bm Kb.L v.x.m w1 hb1.mod (by have := hg.nf; omega) (fun fn hfn => by have := hg.fc fn hfn; omega) (fun k hk => by have := (h.newS k hk.1).2; omega) bq bkm).mono ?_
  rintro e w2 ⟨bn, sa, sc, vs, he, hN⟩
  refine ⟨bn, he, ?_⟩
  have F2 : Fr (fun _ => False) w1 w2 := hN.fr
  have F12 := hF.trans F2 (fun _ _ h => h)
  have q2 := F2.size
  have hold : ∀ k, w.heap.size ≤ k → w0.heap.size ≤ k ∧ ¬ S k := fun k hk => ⟨by omega, fun hS => by have := (h.newS k hS).2; omega⟩
  have hx : RX w0 w2 ⟨v.bb, bp, bk, bx, some ⟨bq, 0, none⟩, some ⟨bkm, 0, none⟩, S, Kb, LP, KK, ⟨none, none, 0, 0⟩, v.aa, v.ac, v.sd⟩ v.x v.x.m 0 (KD.zero v.x.m.min.toNat v.x.m.max.toNat) 0 v.args :=
    { bel := h.bel.newer F12
      prog := h.prog.kept F12 (fun _ _ h => h)
      mach := h.mach.fresh F12
      inst := hI.fr' F2 (fun _ _ h => h)
      row := owns_fr h.row F12 (fun _ _ h => h)
      newS := fun k hk => ⟨(h.newS k hk).1, by have := (h.newS k hk).2; omega⟩
      newP := h.newP
      newK := h.newK
      newI := fun k hk => by
        rcases hk with rfl | hk | hk
        · exact hold _ hbx
        · cases hk
        · cases hk
      newA := h.newA
      side := fun p hp => ⟨(h.side p hp).1.fr F12 (fun h => h), (h.side p hp).2⟩
      fr := h.fr.trans F12 (fun _ _ h => h) }
  have hnb := hN.nb
  have hmw : MW ⟨bn, bq, bkm, Lq, v.x.m.progM, sr, ⟨sa, sc, vs⟩, v.x.m.srcs, v.x.m.max.toNat⟩ w2 ⟨none, 0⟩ MK ⟨ND.begin 0 false [] [], List.replicate (v.x.m.min.toNat * 8) 0⟩ :=
    ⟨⟨hN.here, World.ownsRow_nil _ _ _ _⟩, h.mprog.fresh F12, hN.src, h.mmach.fresh F12⟩
  have hmx : MX w0 w2 ⟨v.bb, bp, bk, bx, some ⟨bq, 0, none⟩, some ⟨bkm, 0, none⟩, S, Kb, LP, KK, ⟨none, none, 0, 0⟩, v.aa, v.ac, v.sd⟩ ⟨bn, bq, bkm, Lq, v.x.m.progM, sr, ⟨sa, sc, vs⟩, v.x.m.srcs, v.x.m.max.toNat⟩ ⟨none, 0⟩ MK ⟨ND.begin 0 false [] [], List.replicate (v.x.m.min.toNat * 8) 0⟩ :=
    { mw := hmw
      newN := fun k hk => by
        rcases hk with rfl | hk
        · exact hold _ (by omega)
        · cases hk
      newQ := h.newQ
      newC := fun k hk => hold k (by have := (hN.ns k hk).1; omega)
      newM := h.newM
      apK := h.apK
      apA := fun k hk hS => by
        have hlt : k < w.heap.size := owns_lt h.row k (by rw [ownBlock_any _ _ _ 0 0]; exact hk)
        rcases hS with rfl | hS
        · omega
        · cases hS }
  have hty := lb.tys
  refine ⟨_, 0, _, ⟨none, 0⟩, MK, _, { e := ⟨rfl, rfl, rfl, rfl, rfl, rfl, rfl⟩, rx := hx, mx := hmx, lk := ⟨lb.progM, rfl, rfl, (KD.zero_flat _ _).symm, ?_⟩, lb := lb, fit := h.fit, al := h.al, a64 := h.a64, lim := fun k hk => hmx.ltN hk }⟩
  have hpf : ∀ u ∈ v.x.m.progM.funs, u ∈ (v.x.m.progN 0).funs := fun u hu => by rw [← lb.progM]; exact hu
  exact
    { plen := by
        show v.x.m.progM.funs.length ≤ 1000
        have h1 := hg.ni
        have h2 := hg.nf
        simp [ModD.progM, ModD.sigs, ModD.nall]
        omega
      nimp := by
        show 0 ≤ v.x.m.progM.nimp ∧ v.x.m.progM.nimp ≤ 1000
        have h1 := hg.ni
        simp [ModD.progM]
        omega
      ps := fun u hu => by
        have := hty u (hpf u hu)
        exact ⟨this.1.1, this.1.2.1, this.1.2.2, this.2.2.1, this.2.2.2⟩
      slen := by
        have h2 := hg.nf
        simp only [List.length_map]
        omega
      src := fun s hs => by
        simp only [List.mem_map] at hs
        obtain ⟨fn, hfn, rfl⟩ := hs
        have := hg.fc fn hfn
        omega }
/-- Ground -/
theorem bs_ground {e : Ending} (hg : GroundPostM w e w') : ∃ bb bm bp bk bq bkm, e = .returned (.pointer (some ⟨bb, 0, none⟩)) ∧ PendN w w' bb bm bp bk bq bkm fun w2 bx bn => BS w w2 ⟨bb, bx, bn, none, 0, [], BelD.ground, ModD.empty, 0, KD.zero 0 0, KD.zero 0 0, 0, w2.heap.size, []⟩ := by
  obtain ⟨bb, Kb, S, bp, LP, bk, KK, bq, Lq, sr, bkm, MK, he, b1, b2, b3, b4, b5, c1, c2, c3, c4, c5, c6, c7⟩ := hg
  have hL : Laid2 w w' ⟨bb, 0, 0, none, 0, [], BelD.ground, ModD.empty, 0, KD.zero 0 0, KD.zero 0 0, 0, 0, []⟩ S Kb bp bk bq bkm LP KK Lq sr MK :=
    { bel := b1, prog := b2, mach := b3, mprog := b4, mmach := b5, newS := c1, newP := c2, newK := c3, newQ := c4, newM := c5, apK := c6
      row := World.ownsRow_nil _ _ _ _
      newA := fun k hk => by cases hk
      side := fun p hp => by cases hp
      fr := c7, fit := BelFit.ground, ok := rfl, al := by simp, a64 := fun b hb => by cases hb }
  exact ⟨bb, Kb.bm, bp, bk, bq, bkm, he, hL.pend⟩
/-- Load -/
theorem bs_load (h : BS w0 w v) (hgd : v.x.m.load.2.2 = 0) : Calls Tryz.prog 15 #[.pointer (some ⟨v.bb, 0, none⟩)] w fun e w' => e = .returned (.agg #[.int .i64 0, .int .i64 0, .int .i64 0, sv []]) ∧ Fr (fun _ => False) w0 w' ∧ ∃ bm bp bk bq bkm, PendN w0 w' v.bb bm bp bk bq bkm fun w2 bx bn => BS w0 w2 { v with bx := bx, bn := bn, m := v.x.m, n := 0, d := KD.zero v.x.m.min.toNat v.x.m.max.toNat, dm := KD.zero v.x.m.min.toNat v.x.m.max.toNat, fet := 0, lim := w2.heap.size } := by
  obtain ⟨Y, hi, M, L, K, mm, h⟩ := h
  obtain ⟨e1, e2, e3, e4, e5, e6, e7⟩ := h.e
  have hx := h.rx
  have hc := sload_good hx.bel (fun k hk => (hx.newS k hk).2) h.fit hgd
  rw [e1] at hc
  refine hc.mono ?_
  rintro e w1 ⟨bp, LP, bk, KK, bq, Lq, sr, bkm, MK, he, b1, b2, b3, b4, b5, c1, c2, c3, c4, c5, c6⟩
  have q0 := hx.fr.size
  have q1 := c6.size
  have hb0 := hx.newS _ hx.bel.own
  rw [e1] at hb0
  have old : ∀ k, w.heap.size ≤ k → w0.heap.size ≤ k ∧ ¬ Y.S k := fun k hk => ⟨by omega, fun hS => by have := (hx.newS k hS).2; omega⟩
  have hfr : Fr (fun _ => False) w0 w1 := hx.fr.trans c6 (fun k hk e => by subst e; omega)
  have hL : Laid2 w0 w1 v Y.S Y.Kb bp bk bq bkm LP KK Lq sr MK :=
    { bel := b1, prog := b2, mach := b3, mprog := b4, mmach := b5
      newS := fun k hk => ⟨(hx.newS k hk).1, by have := (hx.newS k hk).2; omega⟩
      newP := fun k hk => old k (c1 k hk)
      newK := fun k hk => old k (c2 k hk)
      newQ := fun k hk => old k (c3 k hk)
      newM := fun k hk => old k (c4 k hk)
      apK := c5
      row := by
        rw [← e4, ← e5]
        refine owns_fr hx.row c6 (fun k hk e => ?_)
        subst e
        rw [← e1] at hk
        exact owns_ne hx.row hx.bel.here (by decide) hk
      newA := fun k hk => by rw [← e4] at hk; exact hx.newA k hk
      side := fun p hp => by
        rw [← e6] at hp
        refine ⟨(hx.side p hp).1.fr c6 (fun e => (hx.side p hp).2.2.2 ?_), (hx.side p hp).2⟩
        rw [e, ← e1]
        exact hx.bel.own
      fr := hfr, fit := h.fit, ok := hgd, al := h.al, a64 := h.a64 }
  exact ⟨he, hfr, Y.Kb.bm, bp, bk, bq, bkm, hL.pend⟩
end
end Go.Proofs.Qxb6500575aGreatDoor
