/-
  THE FLAT MACHINE, plain: frames, one instruction. No walk.
-/
import Derived.Test.Qxb6500575aGreatDoorPMem
import Derived.Test.Qxb6500575aGreatDoorRInv
namespace Go.Proofs.Qxb6500575aGreatDoor
open Go Go.RowKit
set_option linter.unusedVariables false
set_option linter.unusedSimpArgs false

/-- the type of the integer unit's answer; whether it takes two -/
def aTo (op : Int) : UInt8 := if (60 ≤ op ∧ op < 73) ∨ op = 32 ∨ op = 33 then 108 else 105
def aTwo (op : Int) : Bool := decide (40 ≤ op ∧ op < 56) || decide (60 ≤ op ∧ op < 76)
/-- a frame: ops, loc: the top first -/
structure FF where
  fn : Nat
  pc : Nat
  ops : List V
  loc : List V
/-- what an instruction comes to: t = 0: on · 1: the outermost frame is left, with vs · else: a trap; dn: fetches beyond its own -/
structure FO (τ : Type) where
  t : Int
  fr : List FF
  vs : List V
  mem : List UInt8
  s : τ
  dn : Int
/-- the stack, cut by the frames -/
def dec : List V → List Frm → List FF
  | _, [] => []
  | st, r :: rs => ⟨r.f.toNat, r.pc.toNat, st.take (st.length - r.floor), (st.drop (st.length - r.floor)).take (r.floor - r.base)⟩ :: dec (st.drop (st.length - r.base)) rs
theorem dec_cons {r : Frm} {rs : List Frm} {ops loc low : List V} {fn pc : Nat} (hf : r.f = fn) (hpc : r.pc = pc) (hb : r.base = low.length) (hfl : r.floor = loc.length + low.length) : dec (ops ++ (loc ++ low)) (r :: rs) = ⟨fn, pc, ops, loc⟩ :: dec low rs := by
  rw [dec]
  have e1 : (ops ++ (loc ++ low)).length - r.floor = ops.length := by simp; omega
  have e2 : (ops ++ (loc ++ low)).length - r.base = (ops ++ loc).length := by simp; omega
  rw [e1, e2, hf, hpc, List.take_left' rfl, List.drop_left' rfl, show r.floor - r.base = loc.length by omega, List.take_left' rfl, ← List.append_assoc, List.drop_left' rfl]
  simp
theorem dec_len : ∀ (st : List V) (rs : List Frm), (dec st rs).length = rs.length
  | _, [] => by rw [dec]; rfl
  | st, r :: rs => by rw [dec, List.length_cons, List.length_cons, dec_len]
def fjump (f : FF) (j : Flat) (ops : List V) : FF := { f with pc := j.imm.toNat, ops := ops.take j.keep.toNat ++ ops.drop (ops.length - j.cut.toNat) }
/-- the instructions that neither jump nor call: t = 0: on -/
structure LO where
  t : Int
  ops : List V
  loc : List V
  mem : List UInt8
def stuckL (ops loc : List V) (mem : List UInt8) : LO := ⟨10, ops, loc, mem⟩
def pushV (to : UInt8) (n : Int) : V := if to = 105 then V.w (wrap32 n) else V.d n
def aluL (op : Int) (a b : Int) (r loc : List V) (mem : List UInt8) : LO :=
  if (aluP op a b).2 = 0 then ⟨0, pushV (aTo op) (aluP op a b).1 :: r, loc, mem⟩ else ⟨(aluP op a b).2, r, loc, mem⟩
def lstep (i : Flat) (ops loc : List V) (mem : List UInt8) (max : Nat) : LO :=
  if i.op = 0 then ⟨13, ops, loc, mem⟩
  else if i.op = 11 then ⟨0, ops.tail, loc, mem⟩
  else if i.op = 12 then (match ops with | c :: b :: a :: r => ⟨0, (if c.num = 0 then b else a) :: r, loc, mem⟩ | _ => stuckL ops loc mem)
  else if i.op = 13 then (match loc.reverse[i.imm.toNat]? with | some v => ⟨0, v :: ops, loc, mem⟩ | none => stuckL ops loc mem)
  else if i.op = 14 then (match ops with | v :: r => ⟨0, r, (loc.reverse.set i.imm.toNat v).reverse, mem⟩ | _ => stuckL ops loc mem)
  else if i.op = 15 then ⟨0, V.w (wrap32 (mem.length / 8 : Nat)) :: ops, loc, mem⟩
  else if i.op = 16 then (match ops with | a :: r => ⟨0, V.w (wrap32 (growP mem max a.num).2) :: r, loc, (growP mem max a.num).1⟩ | _ => stuckL ops loc mem)
  else if i.op = 17 then ⟨0, V.w (wrap32 i.imm) :: ops, loc, mem⟩
  else if i.op = 18 then ⟨0, V.d i.imm :: ops, loc, mem⟩
  else if 19 ≤ i.op ∧ i.op ≤ 24 then (match ops with
    | a :: r => if (loadP mem i.op a.num i.imm).2 = 0 then ⟨0, (if i.op = 20 then V.d (loadP mem i.op a.num i.imm).1 else V.w (wrap32 (loadP mem i.op a.num i.imm).1)) :: r, loc, mem⟩ else ⟨(loadP mem i.op a.num i.imm).2, r, loc, mem⟩
    | _ => stuckL ops loc mem)
  else if 25 ≤ i.op ∧ i.op ≤ 28 then (match ops with
    | v :: a :: r => if (storeP mem i.op a.num i.imm v.num).2 = 0 then ⟨0, r, loc, (storeP mem i.op a.num i.imm v.num).1⟩ else ⟨(storeP mem i.op a.num i.imm v.num).2, r, loc, (storeP mem i.op a.num i.imm v.num).1⟩
    | _ => stuckL ops loc mem)
  else if aTwo i.op then (match ops with | b :: a :: r => aluL i.op a.num b.num r loc mem | _ => stuckL ops loc mem)
  else (match ops with | a :: r => aluL i.op a.num 0 r loc mem | _ => stuckL ops loc mem)
theorem lstep_alu1 {i : Flat} (h : 29 ≤ i.op ∧ i.op ≤ 33) (a : V) (r loc : List V) (mem : List UInt8) (max : Nat) : lstep i (a :: r) loc mem max = aluL i.op a.num 0 r loc mem := by
  have h2 : aTwo i.op = false := by unfold aTwo; simp; omega
  unfold lstep
  rw [if_neg (by omega), if_neg (by omega), if_neg (by omega), if_neg (by omega), if_neg (by omega), if_neg (by omega), if_neg (by omega), if_neg (by omega), if_neg (by omega), if_neg (by omega), if_neg (by omega), h2]
  rfl
theorem lstep_alu2 {i : Flat} (h : (40 ≤ i.op ∧ i.op < 56) ∨ (60 ≤ i.op ∧ i.op < 76)) (a b : V) (r loc : List V) (mem : List UInt8) (max : Nat) : lstep i (b :: a :: r) loc mem max = aluL i.op a.num b.num r loc mem := by
  have h2 : aTwo i.op = true := by unfold aTwo; simp; omega
  unfold lstep
  rw [if_neg (by omega), if_neg (by omega), if_neg (by omega), if_neg (by omega), if_neg (by omega), if_neg (by omega), if_neg (by omega), if_neg (by omega), if_neg (by omega), if_neg (by omega), if_neg (by omega), h2]
  rfl
theorem aluL_ok {op a b : Int} {t : UInt8} (r loc : List V) (mem : List UInt8) (h : (aluP op a b).2 = 0) (ht : aTo op = t) : aluL op a b r loc mem = ⟨0, pushV t (aluP op a b).1 :: r, loc, mem⟩ := by
  subst ht
  unfold aluL
  rw [if_pos h]
theorem aluL_no {op a b : Int} (r loc : List V) (mem : List UInt8) (h : (aluP op a b).2 = 11) : aluL op a b r loc mem = ⟨11, r, loc, mem⟩ := by
  unfold aluL
  rw [if_neg (by rw [h]; decide), h]
/-- a host: its state, the import, the arguments (the first first); an error or results -/
abbrev HF (τ : Type) := τ → Int → List V → τ × Int × List V
section
variable {τ : Type}
def fleave (P : ProgD) (f : FF) (rest : List FF) (mem : List UInt8) (s : τ) : FO τ :=
  match rest with
  | [] => ⟨1, [], f.ops.take ((P.funs[f.fn]?.map fun u => u.results.length).getD 0), mem, s, 0⟩
  | g :: r => ⟨0, { g with ops := f.ops.take ((P.funs[f.fn]?.map fun u => u.results.length).getD 0) ++ g.ops } :: r, [], mem, s, 0⟩
def fcall (P : ProgD) (H : HF τ) (i : Flat) (f : FF) (rest : List FF) (mem : List UInt8) (s : τ) : FO τ :=
  match P.funs[i.imm.toNat]? with
  | none => ⟨10, [], [], mem, s, 0⟩
  | some u =>
    if i.imm < P.nimp then
      (if (H s i.imm (f.ops.take u.params.length).reverse).2.1 = 0 then ⟨0, { f with pc := f.pc + 1, ops := (H s i.imm (f.ops.take u.params.length).reverse).2.2.reverse ++ f.ops.drop u.params.length } :: rest, [], mem, (H s i.imm (f.ops.take u.params.length).reverse).1, 0⟩
       else ⟨(H s i.imm (f.ops.take u.params.length).reverse).2.1, [], [], mem, (H s i.imm (f.ops.take u.params.length).reverse).1, 0⟩)
    else if rest.length + 1 < 4 then ⟨0, ⟨i.imm.toNat, 0, [], zeros u.locals ++ f.ops.take u.params.length⟩ :: { f with pc := f.pc + 1, ops := f.ops.drop u.params.length } :: rest, [], mem, s, 0⟩
    else ⟨14, [], [], mem, s, 0⟩
/-- one instruction, behind its fetch and its fuel -/
def fexec (P : ProgD) (H : HF τ) (c : List Flat) (i : Flat) (f : FF) (rest : List FF) (mem : List UInt8) (max : Nat) (s : τ) : FO τ :=
  if i.op = 3 then (match f.ops with | k :: r => ⟨0, { f with pc := if k.num = 0 then i.imm.toNat else f.pc + 1, ops := r } :: rest, [], mem, s, 0⟩ | _ => ⟨10, [], [], mem, s, 0⟩)
  else if i.op = 4 then ⟨0, { f with pc := i.imm.toNat } :: rest, [], mem, s, 0⟩
  else if i.op = 5 ∨ i.op = 9 then fleave P f rest mem s
  else if i.op = 6 then ⟨0, fjump f i f.ops :: rest, [], mem, s, 0⟩
  else if i.op = 7 then (match f.ops with | k :: r => ⟨0, (if k.num = 0 then { f with pc := f.pc + 1, ops := r } else fjump f i r) :: rest, [], mem, s, 0⟩ | _ => ⟨10, [], [], mem, s, 0⟩)
  else if i.op = 8 then (match f.ops with
    | k :: r => (match c[f.pc + 1 + (min (k.num % 4294967296) i.imm).toNat]? with | some j => ⟨0, fjump f j r :: rest, [], mem, s, 1⟩ | none => ⟨10, [], [], mem, s, 0⟩)
    | _ => ⟨10, [], [], mem, s, 0⟩)
  else if i.op = 10 then fcall P H i f rest mem s
  else
    if (lstep i f.ops f.loc mem max).t = 0 then ⟨0, { f with pc := f.pc + 1, ops := (lstep i f.ops f.loc mem max).ops, loc := (lstep i f.ops f.loc mem max).loc } :: rest, [], (lstep i f.ops f.loc mem max).mem, s, 0⟩
    else ⟨(lstep i f.ops f.loc mem max).t, [], [], (lstep i f.ops f.loc mem max).mem, s, 0⟩
/-- where no jump and no call is: by lstep -/
theorem fexec_l (P : ProgD) (H : HF τ) (c : List Flat) {i : Flat} (f : FF) (rest : List FF) (mem : List UInt8) (max : Nat) (s : τ) (h : i.op ≠ 3 ∧ i.op ≠ 4 ∧ i.op ≠ 5 ∧ i.op ≠ 9 ∧ i.op ≠ 6 ∧ i.op ≠ 7 ∧ i.op ≠ 8 ∧ i.op ≠ 10) {lo : LO} (hl : lstep i f.ops f.loc mem max = lo) :
    fexec P H c i f rest mem max s = if lo.t = 0 then ⟨0, { f with pc := f.pc + 1, ops := lo.ops, loc := lo.loc } :: rest, [], lo.mem, s, 0⟩ else ⟨lo.t, [], [], lo.mem, s, 0⟩ := by
  subst hl
  obtain ⟨h3, h4, h5, h9, h6, h7, h8, h10⟩ := h
  unfold fexec
  rw [if_neg h3, if_neg h4, if_neg (by omega), if_neg h6, if_neg h7, if_neg h8, if_neg h10]
end
end Go.Proofs.Qxb6500575aGreatDoor
