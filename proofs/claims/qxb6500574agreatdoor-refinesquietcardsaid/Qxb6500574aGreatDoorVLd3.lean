/-
  THE WALK of vm: proto: its frame and state; the third loop, and the end. Written by tools/gen_ld3.py.
-/
import Derived.Test.Qxb6500574aGreatDoorVLd2
import Derived.Test.Qxb6500574aGreatDoorVLoopW
import Derived.Test.Qxb6500574aGreatDoorRegC
import Derived.Deep.LoopGhost
namespace Go.Proofs.Qxb6500574aGreatDoor
open Go Go.RowKit
set_option linter.unusedVariables false
set_option linter.unusedSimpArgs false
/-- the frame of proto -/
structure Fr40 (b br bp : Nat) (a : Act) : Prop where
  size : a.tmps.size = 190
  t0 : a.tmps[0]? = some (.pointer (some ⟨b, 0, none⟩))
  t1 : a.tmps[1]? = some (.pointer (some ⟨br, 0, none⟩))
  t4 : a.tmps[4]? = some (.pointer (some ⟨bp, 0, none⟩))
  df : a.defers = []
set_option maxRecDepth 100000 in
theorem List.range190 {α : Type} (u : Nat → α) : (List.range 190).map u = u 0 :: u 1 :: u 2 :: u 3 :: u 4 :: u 5 :: u 6 :: u 7 :: u 8 :: u 9 :: u 10 :: u 11 :: u 12 :: u 13 :: u 14 :: u 15 :: u 16 :: u 17 :: u 18 :: u 19 :: u 20 :: u 21 :: u 22 :: u 23 :: u 24 :: u 25 :: u 26 :: u 27 :: u 28 :: u 29 :: u 30 :: u 31 :: u 32 :: u 33 :: u 34 :: u 35 :: u 36 :: u 37 :: u 38 :: u 39 :: u 40 :: u 41 :: u 42 :: u 43 :: u 44 :: u 45 :: u 46 :: u 47 :: u 48 :: u 49 :: u 50 :: u 51 :: u 52 :: u 53 :: u 54 :: u 55 :: u 56 :: u 57 :: u 58 :: u 59 :: u 60 :: u 61 :: u 62 :: u 63 :: u 64 :: u 65 :: u 66 :: u 67 :: u 68 :: u 69 :: u 70 :: u 71 :: u 72 :: u 73 :: u 74 :: u 75 :: u 76 :: u 77 :: u 78 :: u 79 :: u 80 :: u 81 :: u 82 :: u 83 :: u 84 :: u 85 :: u 86 :: u 87 :: u 88 :: u 89 :: u 90 :: u 91 :: u 92 :: u 93 :: u 94 :: u 95 :: u 96 :: u 97 :: u 98 :: u 99 :: u 100 :: u 101 :: u 102 :: u 103 :: u 104 :: u 105 :: u 106 :: u 107 :: u 108 :: u 109 :: u 110 :: u 111 :: u 112 :: u 113 :: u 114 :: u 115 :: u 116 :: u 117 :: u 118 :: u 119 :: u 120 :: u 121 :: u 122 :: u 123 :: u 124 :: u 125 :: u 126 :: u 127 :: u 128 :: u 129 :: u 130 :: u 131 :: u 132 :: u 133 :: u 134 :: u 135 :: u 136 :: u 137 :: u 138 :: u 139 :: u 140 :: u 141 :: u 142 :: u 143 :: u 144 :: u 145 :: u 146 :: u 147 :: u 148 :: u 149 :: u 150 :: u 151 :: u 152 :: u 153 :: u 154 :: u 155 :: u 156 :: u 157 :: u 158 :: u 159 :: u 160 :: u 161 :: u 162 :: u 163 :: u 164 :: u 165 :: u 166 :: u 167 :: u 168 :: u 169 :: u 170 :: u 171 :: u 172 :: u 173 :: u 174 :: u 175 :: u 176 :: u 177 :: u 178 :: u 179 :: u 180 :: u 181 :: u 182 :: u 183 :: u 184 :: u 185 :: u 186 :: u 187 :: u 188 :: u 189 :: [] := rfl
set_option maxRecDepth 100000 in
theorem Fr40.form {b br bp : Nat} {a : Act} (H : Fr40 b br bp a) : ∃ u : Nat → Value, a = { tmps := List.toArray (.pointer (some ⟨b, 0, none⟩) :: .pointer (some ⟨br, 0, none⟩) :: u 2 :: u 3 :: .pointer (some ⟨bp, 0, none⟩) :: u 5 :: u 6 :: u 7 :: u 8 :: u 9 :: u 10 :: u 11 :: u 12 :: u 13 :: u 14 :: u 15 :: u 16 :: u 17 :: u 18 :: u 19 :: u 20 :: u 21 :: u 22 :: u 23 :: u 24 :: u 25 :: u 26 :: u 27 :: u 28 :: u 29 :: u 30 :: u 31 :: u 32 :: u 33 :: u 34 :: u 35 :: u 36 :: u 37 :: u 38 :: u 39 :: u 40 :: u 41 :: u 42 :: u 43 :: u 44 :: u 45 :: u 46 :: u 47 :: u 48 :: u 49 :: u 50 :: u 51 :: u 52 :: u 53 :: u 54 :: u 55 :: u 56 :: u 57 :: u 58 :: u 59 :: u 60 :: u 61 :: u 62 :: u 63 :: u 64 :: u 65 :: u 66 :: u 67 :: u 68 :: u 69 :: u 70 :: u 71 :: u 72 :: u 73 :: u 74 :: u 75 :: u 76 :: u 77 :: u 78 :: u 79 :: u 80 :: u 81 :: u 82 :: u 83 :: u 84 :: u 85 :: u 86 :: u 87 :: u 88 :: u 89 :: u 90 :: u 91 :: u 92 :: u 93 :: u 94 :: u 95 :: u 96 :: u 97 :: u 98 :: u 99 :: u 100 :: u 101 :: u 102 :: u 103 :: u 104 :: u 105 :: u 106 :: u 107 :: u 108 :: u 109 :: u 110 :: u 111 :: u 112 :: u 113 :: u 114 :: u 115 :: u 116 :: u 117 :: u 118 :: u 119 :: u 120 :: u 121 :: u 122 :: u 123 :: u 124 :: u 125 :: u 126 :: u 127 :: u 128 :: u 129 :: u 130 :: u 131 :: u 132 :: u 133 :: u 134 :: u 135 :: u 136 :: u 137 :: u 138 :: u 139 :: u 140 :: u 141 :: u 142 :: u 143 :: u 144 :: u 145 :: u 146 :: u 147 :: u 148 :: u 149 :: u 150 :: u 151 :: u 152 :: u 153 :: u 154 :: u 155 :: u 156 :: u 157 :: u 158 :: u 159 :: u 160 :: u 161 :: u 162 :: u 163 :: u 164 :: u 165 :: u 166 :: u 167 :: u 168 :: u 169 :: u 170 :: u 171 :: u 172 :: u 173 :: u 174 :: u 175 :: u 176 :: u 177 :: u 178 :: u 179 :: u 180 :: u 181 :: u 182 :: u 183 :: u 184 :: u 185 :: u 186 :: u 187 :: u 188 :: u 189 :: []), defers := [] } := by
  obtain ⟨tmps, defers⟩ := a
  obtain ⟨h1, h2, h3, h4, h5⟩ := H
  simp only at h1 h2 h3 h4 h5
  subst h5
  refine ⟨fun i => tmps.getD i undef, ?_⟩
  congr 1
  apply Array.ext'
  have e : tmps.toList = (List.range 190).map (fun i => tmps.getD i undef) := by
    apply List.ext_getElem
    · simpa using h1
    · intro i a1 a2
      simp at a1
      simp [Array.getD, a1]
  rw [e]
  have g0 : tmps.getD 0 undef = .pointer (some ⟨b, 0, none⟩) := by simp [Array.getD_eq_getD_getElem?, h2]
  have g1 : tmps.getD 1 undef = .pointer (some ⟨br, 0, none⟩) := by simp [Array.getD_eq_getD_getElem?, h3]
  have g4 : tmps.getD 4 undef = .pointer (some ⟨bp, 0, none⟩) := by simp [Array.getD_eq_getD_getElem?, h4]
  rw [← g0, ← g1, ← g4]
  exact List.range190 (fun i => tmps.getD i undef)
/-- the code: from the first loop on; from the second; from the third -/
def pc1 (c : Option Code) : Code := codeR (codeR (codeR (codeR (codeR (c.getD .skip)))))
def pc2 (c : Option Code) : Code := codeR (codeR (codeR (pc1 c)))
def pc3 (c : Option Code) : Code := codeR (codeR (codeR (pc2 c)))
/-! plain: protoP by its parts -/
def prC3 (im : ImD) (np ns nup nk : Nat) (ds : List (Nat × Nat)) (ks : List Vl) (r4 : Bs) : Option (ImD × Bs) :=
  match rdTake 2 r4 with
  | none => none
  | some (w2, r5) => match codeP (u16N w2) im.code r5 with
    | none => none
    | some (cs, r6) => some (⟨im.protos ++ [⟨np, ns, im.descs.length, nup, im.consts.length, nk, im.code.length, u16N w2⟩], ds, ks, cs⟩, r6)
def prC2 (im : ImD) (np ns nup : Nat) (ds : List (Nat × Nat)) (r2 : Bs) : Option (ImD × Bs) :=
  match rdTake 2 r2 with
  | none => none
  | some (w, r3) => match constsP (u16N w) im.consts r3 with
    | none => none
    | some (ks, r4) => prC3 im np ns nup (u16N w) ds ks r4
theorem protoP_is (im : ImD) (r : Bs) : protoP im r = match rdTake 3 r with
  | none => none
  | some (h, r1) => if (h.getD 0 0).toNat > 3 ∨ (h.getD 0 0).toNat > (h.getD 1 0).toNat ∨ (h.getD 1 0).toNat > 12 then none
    else match descsP (h.getD 2 0).toNat im.descs r1 with
      | none => none
      | some (ds, r2) => prC2 im (h.getD 0 0).toNat (h.getD 1 0).toNat (h.getD 2 0).toNat ds r2 := by
  unfold protoP prC2 prC3
  rfl
/-- the state within proto: p: what its own variable holds -/
structure PS (w : World) (A : VL) (m : VMD) (f e br bb c : Nat) (s : Bs) (i bp : Nat) (p : PrD) (wk : World) (Ak : VL) (mk : VMD) (ik : Nat) (bad : Bool) : Prop where
  ld : LD wk Ak mk f e br bb c s ik bad
  st : VSt isVM w A wk Ak
  pb : Has wk bp (pCells p).toArray 254 ∧ Ak.o bp = 0
  nw : w.heap.size ≤ bp
  bl : bb < w.heap.size
  le : i + 3 ≤ ik
  same : mk.ths = m.ths ∧ mk.tabs = m.tabs ∧ mk.out = m.out ∧ mk.clos = m.clos ∧ mk.upix = m.upix ∧ mk.cells = m.cells
  pr : mk.protos = m.protos
  ln : Lens mk ik
  l0 : Lens m i
/-- its plain answer -/
def prR (m : VMD) (s : Bs) (i : Nat) : Option (ImD × Bs) := protoP ⟨m.protos, m.descs, m.consts, m.code⟩ (s.drop i)
def PrPost (w : World) (A : VL) (m : VMD) (f e br bb c : Nat) (s : Bs) (i : Nat) : Ending → World → Prop :=
  LdPost w A m f e br bb c s i (fun m' r => ∃ im, prR m s i = some (im, r) ∧ m' = { m with protos := im.protos, descs := im.descs, consts := im.consts, code := im.code }) (fun _ => prR m s i = none)
section
variable {w wk w' : World} {A Ak A' : VL} {m mk m' : VMD} {f e br bb c i bp ik i' : Nat} {s : Bs} {p p' : PrD} {bad bad' : Bool}
theorem PS.ofRd (h : PS w A m f e br bb c s i bp p wk Ak mk ik bad) (r : Rd w' br bb c s i' bad') (hf : Fr (fun k => k = br) wk w') (hi : ik ≤ i') : PS w A m f e br bb c s i bp p w' Ak mk i' bad' := by
  obtain ⟨L, S⟩ := h.ld.ofRd r hf
  have hbr := h.ld.l1
  exact ⟨L, h.st.trans S, S.keep0 notVM0 h.pb.1 h.pb.2, h.nw, h.bl, by have := h.le; omega, h.same, h.pr, h.ln.le hi, h.l0⟩
theorem PS.fresh (h : PS w A m f e br bb c s i bp p wk Ak mk ik bad) (hf : Fr (fun _ => False) wk w') : PS w A m f e br bb c s i bp p w' Ak mk ik bad :=
  ⟨h.ld.fresh hf, h.st.trans (VSt.fresh hf), ⟨h.pb.1.fr hf (fun x => x), h.pb.2⟩, h.nw, h.bl, h.le, h.same, h.pr, h.ln, h.l0⟩
theorem PS.setP (h : PS w A m f e br bb c s i bp p wk Ak mk ik bad) (k : Nat) (u : Value) (hp : (pCells p).toArray.setIfInBounds k u = (pCells p').toArray) : PS w A m f e br bb c s i bp p' (wk.setCell ⟨bp, k, none⟩ u) Ak mk ik bad := by
  have t : Stp (fun l => l = 0) wk Ak.o (wk.setCell ⟨bp, k, none⟩ u) Ak.o := (Stp.refl _ _ _).setCell (p := ⟨bp, k, none⟩) h.pb.2 u
  have hf : Fr (fun k => k = bp) wk (wk.setCell ⟨bp, k, none⟩ u) := Fr.setCell (S := fun k => k = bp) (Fr.refl _ _) (p := ⟨bp, k, none⟩) (.inl rfl) _
  have n1 : br ≠ bp := fun e => by have h1 := h.ld.l1; rw [e, h.pb.2] at h1; omega
  have n2 : bb ≠ bp := by have := h.bl; have := h.nw; omega
  refine ⟨⟨h.ld.rep.zero t, h.ld.rd.fr hf n1 n2, h.ld.l1, h.ld.l2⟩, h.st.own h.nw u, ⟨?_, h.pb.2⟩, h.nw, h.bl, h.le, h.same, h.pr, h.ln, h.l0⟩
  rw [← hp]
  exact h.pb.1.put k u
/-- an arena has grown -/
theorem PS.ofVM {Q : Nat → Prop} (h : PS w A m f e br bb c s i bp p wk Ak mk ik bad) (r : VRep w' A' m' f e) (S : VSt Q wk Ak w' A') (h0 : ¬ Q 0) (h15 : ¬ Q 15) (hs : m'.ths = mk.ths ∧ m'.tabs = mk.tabs ∧ m'.out = mk.out ∧ m'.clos = mk.clos ∧ m'.upix = mk.upix ∧ m'.cells = mk.cells) (hp : m'.protos = mk.protos) (hl : Lens m' ik) : PS w A m f e br bb c s i bp p w' A' m' ik bad := by
  have S' : VSt isVM wk Ak w' A' := S.weaken (fun l hl => fun e => h0 (by rw [← e]; exact hl))
  obtain ⟨a1, a2, a3, a4, a5, a6⟩ := h.same
  obtain ⟨b1, b2, b3, b4, b5, b6⟩ := hs
  exact ⟨h.ld.ofVM r S h0 h15, h.st.trans S', S'.keep0 notVM0 h.pb.1 h.pb.2, h.nw, h.bl, h.le, ⟨b1.trans a1, b2.trans a2, b3.trans a3, b4.trans a4, b5.trans a5, b6.trans a6⟩, hp.trans h.pr, hl, h.l0⟩
/-- proto gives up -/
theorem PS.no (h : PS w A m f e br bb c s i bp p wk Ak mk ik true) (hr : prR m s i = none) : PrPost w A m f e br bb c s i (.returned (.tuple #[])) wk :=
  ⟨Ak, mk, ik, true, rfl, h.ld, h.st, by have := h.le; omega, h.same, h.ln, .inr ⟨rfl, hr⟩⟩
/-- a world with a fact -/
structure WC (P : World → Prop) where
  y : World
  f : P y
theorem WC.non {P : World → Prop} {w : World} (h : P w) : Nonempty (WC P) := ⟨⟨w, h⟩⟩
theorem PS.cells (h : PS w A m f e br bb c s i bp p wk Ak mk ik bad) : (wk.cell? ⟨br, 0, none⟩ = some (.slice (some ⟨bb, 0, none⟩) s.length c) ∧ wk.cell? ⟨br, 1, none⟩ = some (.int .i64 ik) ∧ wk.cell? ⟨br, 2, none⟩ = some (.bool bad) ∧ br < wk.heap.size ∧ wk.frozen? ⟨br, 2, none⟩ = false) ∧
    (wk.cell? ⟨bp, 0, none⟩ = some (.int .i64 p.np) ∧ wk.cell? ⟨bp, 1, none⟩ = some (.int .i64 p.ns) ∧ wk.cell? ⟨bp, 2, none⟩ = some (.int .i64 p.up) ∧ wk.cell? ⟨bp, 3, none⟩ = some (.int .i64 p.nup) ∧ wk.cell? ⟨bp, 4, none⟩ = some (.int .i64 p.k) ∧ wk.cell? ⟨bp, 5, none⟩ = some (.int .i64 p.nk) ∧ wk.cell? ⟨bp, 6, none⟩ = some (.int .i64 p.code) ∧ wk.cell? ⟨bp, 7, none⟩ = some (.int .i64 p.nc) ∧ bp < wk.heap.size ∧ (∀ k, wk.frozen? ⟨bp, k, none⟩ = false)) ∧
    (wk.cell? ⟨A.b, 2, none⟩ = some (Ak.C.protos.v mk.protos.length) ∧ wk.cell? ⟨A.b, 3, none⟩ = some (Ak.C.descs.v mk.descs.length) ∧ wk.cell? ⟨A.b, 4, none⟩ = some (Ak.C.consts.v mk.consts.length) ∧ wk.cell? ⟨A.b, 5, none⟩ = some (Ak.C.code.v mk.code.length) ∧ A.b < wk.heap.size ∧ (∀ k, wk.frozen? ⟨A.b, k, none⟩ = false)) := by
  obtain ⟨c0, c1, c2⟩ := h.ld.rd.cells
  have hb := h.ld.rep.core.here.has
  rw [h.st.b] at hb
  exact ⟨⟨c0, c1, c2, h.ld.rd.here.lt, h.ld.rd.here.frozen 2⟩, ⟨h.pb.1.cell 0, h.pb.1.cell 1, h.pb.1.cell 2, h.pb.1.cell 3, h.pb.1.cell 4, h.pb.1.cell 5, h.pb.1.cell 6, h.pb.1.cell 7, h.pb.1.lt, h.pb.1.frozen⟩, ⟨hb.cell 2, hb.cell 3, hb.cell 4, hb.cell 5, hb.lt, hb.frozen⟩⟩
end
end Go.Proofs.Qxb6500574aGreatDoor
