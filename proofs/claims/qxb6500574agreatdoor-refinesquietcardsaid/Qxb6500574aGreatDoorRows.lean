/-
  NARROWER THAN 'FOR EVERY INPUT', by the rows' own cells (each row's printed sentence says how): Keeps: laid · Refines: laid · RefinesQuiet: laid.
  DERIVED. THE GIVEN ROWS OF THIS SEAT. 3 by the template 'for every input the law returns true; each argument reads behind the call as it read before'; 0 by the template 'total and deterministic' (their statements: Qxb6500574aGreatDoorTotals.lean).
  GIVEN WITH THE SEED: the statements are not yours to turn. If you find one false, say at which input.
  Laid BY PROGRAM, IN A SANDBOX (cutbox-rows.mjs): the forced cells as the released guide's own fill.sh prints them over the translation 10bffe9d0a6b10a7… (all of the seat's roots in one cut). By AI agents, Wed Nov 11 2026. No macro, syntax, notation, axiom, sorry.
-/
import Derived.Test.Qxb6500574aGreatDoorChecked
import GoSem.Claim
import GoSem.ClaimJoined
import GoSem.ClaimMapViews
import Derived.JoinedTies
import Derived.KernelRfl
namespace Go.Proofs.Qxb6500574aGreatDoor
/- THE CELL 'sum', in the pinned program and in every row, IS THE sha256 OF THE DUMP (.gsa) THAT Qxb6500574aGreatDoorProg.lean LOADS. Nothing in Lean hashes anything: it is a label: what it is worth is what the hold of that sum in a sandbox is worth. -/
noncomputable def Tryz.pinned : Pinned := { name := "qxb6500574agreatdoor", sum := "10bffe9d0a6b10a720d21579905bcea89d56fc88a2a129b28dd02f0dfff5a366", checked := Tryz.checked }
namespace Rows
def none {H : Type} : Left H := { results := [], args := [] }

/- WHAT THE LISTED PACKAGE-LEVEL VARIABLES READ AS WHEN THE CALL BEGINS. Each datum BY PROGRAM (the guide's laid-datum.mjs) off the statement by which the dump's own 'gosem.cut.vars' lays the variable. In a bare row this is a premise. The card (Qxb6500574aGreatDoorCards.lean) ties it to the program's text. -/
def laid_e2e_syntax_keywords {H : Type} : DataW H := .slice [.lit (.string [98, 114, 101, 97, 107]), .lit (.string [100, 111]), .lit (.string [101, 108, 115, 101]), .lit (.string [101, 108, 115, 101, 105, 102]), .lit (.string [101, 110, 100]), .lit (.string [102, 97, 108, 115, 101]), .lit (.string [102, 111, 114]), .lit (.string [102, 117, 110, 99, 116, 105, 111, 110]), .lit (.string [105, 102]), .lit (.string [105, 110]), .lit (.string [108, 111, 99, 97, 108]), .lit (.string [110, 105, 108]), .lit (.string [110, 111, 116]), .lit (.string [114, 101, 116, 117, 114, 110]), .lit (.string [116, 104, 101, 110]), .lit (.string [116, 114, 117, 101]), .lit (.string [119, 104, 105, 108, 101]), .lit (.string [111, 114]), .lit (.string [97, 110, 100])] []
def laid_e2e_syntax_signs {H : Type} : DataW H := .slice [.lit (.string [61, 61]), .lit (.string [126, 61]), .lit (.string [60]), .lit (.string [60, 61]), .lit (.string [62]), .lit (.string [62, 61]), .lit (.string [46, 46]), .lit (.string [43]), .lit (.string [45]), .lit (.string [42]), .lit (.string [47]), .lit (.string [47, 47]), .lit (.string [37]), .lit (.string [35]), .lit (.string [61]), .lit (.string [40]), .lit (.string [41]), .lit (.string [123]), .lit (.string [125]), .lit (.string [91]), .lit (.string [93]), .lit (.string [44]), .lit (.string [46])] []
def laid_e2e_syntax_bindings {H : Type} : DataW H := .slice [.agg [.lit (.int .i64 1), .lit (.int .i64 25), .lit (.int .u64 0)], .agg [.lit (.int .i64 2), .lit (.int .i64 24), .lit (.int .u64 0)], .agg [.lit (.int .i64 3), .lit (.int .i64 22), .lit (.int .u64 11)], .agg [.lit (.int .i64 3), .lit (.int .i64 22), .lit (.int .u64 12)], .agg [.lit (.int .i64 3), .lit (.int .i64 22), .lit (.int .u64 13)], .agg [.lit (.int .i64 3), .lit (.int .i64 22), .lit (.int .u64 14)], .agg [.lit (.int .i64 3), .lit (.int .i64 22), .lit (.int .u64 15)], .agg [.lit (.int .i64 3), .lit (.int .i64 22), .lit (.int .u64 16)], .agg [.lit (.int .i64 4), .lit (.int .i64 22), .lit (.int .u64 20)], .agg [.lit (.int .i64 5), .lit (.int .i64 22), .lit (.int .u64 1)], .agg [.lit (.int .i64 5), .lit (.int .i64 22), .lit (.int .u64 2)], .agg [.lit (.int .i64 6), .lit (.int .i64 22), .lit (.int .u64 3)], .agg [.lit (.int .i64 6), .lit (.int .i64 22), .lit (.int .u64 4)], .agg [.lit (.int .i64 6), .lit (.int .i64 22), .lit (.int .u64 5)], .agg [.lit (.int .i64 6), .lit (.int .i64 22), .lit (.int .u64 6)]] []

/-- 'complaw.Keeps': WHATEVER THE INPUT: true; the input reads as it did. -/
def keepsSpec : ChangeSpec := { name := "keeps", fn := fun _ => fun
  | [d] => { results := [.lit (.bool true)], args := [d] }
  | _ => none }
def keepsRow : OpenClaim := { program := "qxb6500574agreatdoor", sum := "10bffe9d0a6b10a720d21579905bcea89d56fc88a2a129b28dd02f0dfff5a366", func := "e2e/complaw.Keeps", spec := "keeps", inPlace := ["math.Float64frombits", "math.Float64bits", "math.archFloor", "math.archTrunc"], unfollowed := true, recurses := true, named := ["e2e/syntax.keywords", "e2e/syntax.signs", "e2e/syntax.bindings"], apart := false, laid := [("e2e/syntax.keywords", laid_e2e_syntax_keywords), ("e2e/syntax.signs", laid_e2e_syntax_signs), ("e2e/syntax.bindings", laid_e2e_syntax_bindings)] }
def KeepsSaid : Prop := keepsRow.holds Tryz.pinned (OpenSpec.ofChange keepsSpec)

/-- ITS FALSE NEIGHBOUR: 'it returns false'. Refute it at one input. -/
def keepsWrong : ChangeSpec := { name := "keeps", fn := fun _ => fun
  | [d] => { results := [.lit (.bool false)], args := [d] }
  | _ => none }
def KeepsWrongFalsely : Prop := keepsRow.holds Tryz.pinned (OpenSpec.ofChange keepsWrong)

/-- 'complaw.Refines': WHATEVER THE INPUT: true; the input reads as it did. -/
def refinesSpec : ChangeSpec := { name := "refines", fn := fun _ => fun
  | [d] => { results := [.lit (.bool true)], args := [d] }
  | _ => none }
def refinesRow : OpenClaim := { program := "qxb6500574agreatdoor", sum := "10bffe9d0a6b10a720d21579905bcea89d56fc88a2a129b28dd02f0dfff5a366", func := "e2e/complaw.Refines", spec := "refines", inPlace := ["math.Float64bits", "math.Float64frombits", "math.archFloor", "math.archTrunc"], unfollowed := true, recurses := true, named := ["e2e/syntax.keywords", "e2e/syntax.signs", "e2e/syntax.bindings"], apart := false, laid := [("e2e/syntax.keywords", laid_e2e_syntax_keywords), ("e2e/syntax.signs", laid_e2e_syntax_signs), ("e2e/syntax.bindings", laid_e2e_syntax_bindings)] }
def RefinesSaid : Prop := refinesRow.holds Tryz.pinned (OpenSpec.ofChange refinesSpec)

/-- ITS FALSE NEIGHBOUR: 'it returns false'. Refute it at one input. -/
def refinesWrong : ChangeSpec := { name := "refines", fn := fun _ => fun
  | [d] => { results := [.lit (.bool false)], args := [d] }
  | _ => none }
def RefinesWrongFalsely : Prop := refinesRow.holds Tryz.pinned (OpenSpec.ofChange refinesWrong)

/-- 'complaw.RefinesQuiet': WHATEVER THE INPUT: true; the input reads as it did. -/
def refinesQuietSpec : ChangeSpec := { name := "refinesQuiet", fn := fun _ => fun
  | [d] => { results := [.lit (.bool true)], args := [d] }
  | _ => none }
def refinesQuietRow : OpenClaim := { program := "qxb6500574agreatdoor", sum := "10bffe9d0a6b10a720d21579905bcea89d56fc88a2a129b28dd02f0dfff5a366", func := "e2e/complaw.RefinesQuiet", spec := "refinesQuiet", inPlace := ["math.Float64bits", "math.Float64frombits", "math.archFloor", "math.archTrunc"], unfollowed := true, recurses := true, named := ["e2e/syntax.keywords", "e2e/syntax.signs", "e2e/syntax.bindings"], apart := false, laid := [("e2e/syntax.keywords", laid_e2e_syntax_keywords), ("e2e/syntax.signs", laid_e2e_syntax_signs), ("e2e/syntax.bindings", laid_e2e_syntax_bindings)] }
def RefinesQuietSaid : Prop := refinesQuietRow.holds Tryz.pinned (OpenSpec.ofChange refinesQuietSpec)

/-- ITS FALSE NEIGHBOUR: 'it returns false'. Refute it at one input. -/
def refinesQuietWrong : ChangeSpec := { name := "refinesQuiet", fn := fun _ => fun
  | [d] => { results := [.lit (.bool false)], args := [d] }
  | _ => none }
def RefinesQuietWrongFalsely : Prop := refinesQuietRow.holds Tryz.pinned (OpenSpec.ofChange refinesQuietWrong)

end Rows
end Go.Proofs.Qxb6500574aGreatDoor
