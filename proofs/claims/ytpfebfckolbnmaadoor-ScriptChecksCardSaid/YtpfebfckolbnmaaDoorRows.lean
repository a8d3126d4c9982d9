/-
  NARROWER THAN 'FOR EVERY INPUT', by the rows' own cells (each row's printed sentence says how): ScriptChecks: laid.
  DERIVED. THE GIVEN ROWS OF THIS SEAT. 1 by the template 'for every input the law returns true; each argument reads behind the call as it read before'; 0 by the template 'total and deterministic' (their statements: YtpfebfckolbnmaaDoorTotals.lean).
  GIVEN WITH THE SEED: the statements are not yours to turn. If you find one false, say at which input.
  Laid BY PROGRAM, IN A SANDBOX (cutbox-rows.mjs): the forced cells as the released guide's own fill.sh prints them over the translation 0cc33f3727c334e1… (all of the seat's roots in one cut). By AI agents, Wed Nov 11 2026. No macro, syntax, notation, axiom, sorry.
-/
import Derived.Test.YtpfebfckolbnmaaDoorChecked
import GoSem.Claim
import GoSem.ClaimJoined
import GoSem.ClaimMapViews
import Derived.JoinedTies
import Derived.KernelRfl
namespace Go.Proofs.YtpfebfckolbnmaaDoor
/- THE CELL 'sum', in the pinned program and in every row, IS THE sha256 OF THE DUMP (.gsa) THAT YtpfebfckolbnmaaDoorProg.lean LOADS. Nothing in Lean hashes anything: it is a label: what it is worth is what the hold of that sum in a sandbox is worth. -/
noncomputable def Tryd.pinned : Pinned := { name := "ytpfebfckolbnmaadoor", sum := "0cc33f3727c334e127edde2d67b172a5bb37a949f2eecbee4038d40b07e4d5e7", checked := Tryd.checked }
namespace Rows
def none {H : Type} : Left H := { results := [], args := [] }

/- WHAT THE LISTED PACKAGE-LEVEL VARIABLES READ AS WHEN THE CALL BEGINS. Each datum BY PROGRAM (the guide's laid-datum.mjs) off the statement by which the dump's own 'gosem.cut.vars' lays the variable. In a bare row this is a premise. The card (YtpfebfckolbnmaaDoorCards.lean) ties it to the program's text. -/
def laid_errors_errorType {H : Type} : DataW H := .iface "internal/reflectlite.rtype" (.agg [.ptr (.lit (.string [101, 114, 114, 111, 114]))])
def laid_bursar_script_forms {H : Type} : DataW H := .agg [.agg [.lit (.string []), .lit (.string [])], .agg [.lit (.string [98, 101, 103, 105, 110]), .lit (.string [99])], .agg [.lit (.string [114, 101, 97, 100]), .lit (.string [99, 107])], .agg [.lit (.string [119, 114, 105, 116, 101]), .lit (.string [99, 107, 118])], .agg [.lit (.string [100, 101, 108, 101, 116, 101]), .lit (.string [99, 107])], .agg [.lit (.string [99, 111, 109, 109, 105, 116]), .lit (.string [99])], .agg [.lit (.string [97, 98, 111, 114, 116]), .lit (.string [99])], .agg [.lit (.string [112, 111, 107, 101]), .lit (.string [99])], .agg [.lit (.string [101, 108, 101, 99, 116]), .lit (.string [97, 116])], .agg [.lit (.string [98, 101, 97, 116]), .lit (.string [97, 116])], .agg [.lit (.string [114, 101, 115, 111, 108, 118, 101]), .lit (.string [97, 116])], .agg [.lit (.string [99, 111, 109, 112, 97, 99, 116]), .lit (.string [97, 116])], .agg [.lit (.string [100, 101, 108, 105, 118, 101, 114]), .lit (.string [110, 116])], .agg [.lit (.string [100, 111, 117, 98, 108, 101]), .lit (.string [110])], .agg [.lit (.string [100, 114, 111, 112]), .lit (.string [110])], .agg [.lit (.string [99, 114, 97, 115, 104]), .lit (.string [97])], .agg [.lit (.string [114, 101, 115, 116, 97, 114, 116]), .lit (.string [97, 116])], .agg [.lit (.string [112, 97, 114, 116]), .lit (.string [97])], .agg [.lit (.string [104, 101, 97, 108]), .lit (.string [97])]]

/-- 'bursarlaw26.ScriptChecks': WHATEVER THE INPUT: true; the input reads as it did. -/
def scriptChecksSpec : ChangeSpec := { name := "scriptChecks", fn := fun _ => fun
  | [d] => { results := [.lit (.bool true)], args := [d] }
  | _ => none }
def scriptChecksRow : OpenClaim := { program := "ytpfebfckolbnmaadoor", sum := "0cc33f3727c334e127edde2d67b172a5bb37a949f2eecbee4038d40b07e4d5e7", func := "bursar/bursarlaw26.ScriptChecks", spec := "scriptChecks", inPlace := ["internal/reflectlite.ValueOf", "(internal/reflectlite.Value).Type", "(internal/reflectlite.Value).IsNil", "internal/reflectlite.TypeOf", "(internal/reflectlite.Value).Elem", "(internal/reflectlite.Value).Set"], unfollowed := true, recurses := true, named := ["bursar/script.forms", "errors.errorType"], apart := false, laid := [("errors.errorType", laid_errors_errorType), ("bursar/script.forms", laid_bursar_script_forms)] }
def ScriptChecksSaid : Prop := scriptChecksRow.holds Tryd.pinned (OpenSpec.ofChange scriptChecksSpec)

/-- ITS FALSE NEIGHBOUR: 'it returns false'. Refute it at one input. -/
def scriptChecksWrong : ChangeSpec := { name := "scriptChecks", fn := fun _ => fun
  | [d] => { results := [.lit (.bool false)], args := [d] }
  | _ => none }
def ScriptChecksWrongFalsely : Prop := scriptChecksRow.holds Tryd.pinned (OpenSpec.ofChange scriptChecksWrong)

/- THE SECOND FORM. 'bulk': how many values and letters a reading holds, each counted each time it is reached (what is shared counts as often as it is met; a slice's spare places count too). A statement '..UptoSaid' is the law's where the arguments, and the package variables that the reading takes, are together of bulk at most 1048576: NARROWER than '..Said'. Prove '..Said' where nothing that the law and all that it calls make is longer than what came in: it says more and counts as full. Else prove '..UptoSaid'. A law counts once. -/
mutual
def uptoBulk {H : Type} : DataW H → Nat
  | .lit (.string bytes) => bytes.length + 1
  | .lit _ => 1
  | .nil => 1
  | .ptr d => uptoBulk d + 1
  | .slice elems spare => uptoBulkAll elems + uptoBulkAll spare + 1
  | .agg parts => uptoBulkAll parts + 1
  | .iface _ d => uptoBulk d + 1
  | .map entries => uptoBulkEntries entries + 1
  | .held _ => 1
def uptoBulkAll {H : Type} : List (DataW H) → Nat
  | [] => 0
  | d :: r => uptoBulk d + uptoBulkAll r
def uptoBulkEntries {H : Type} : List (Lit × DataW H) → Nat
  | [] => 0
  | x :: r => uptoBulkEntry x + uptoBulkEntries r
def uptoBulkEntry {H : Type} : Lit × DataW H → Nat
  | (.string bytes, d) => bytes.length + uptoBulk d + 1
  | (_, d) => uptoBulk d + 1
 end
def uptoSmall : (H : Type) → List (DataW H) → Bool := fun _ ds => decide (uptoBulkAll ds ≤ 1048576)
def OpenSpec.upto (s : _root_.Go.ChangeSpec) : _root_.Go.OpenSpec := { _root_.Go.OpenSpec.ofChange s with cond := some uptoSmall }

/-- 'bursarlaw26.ScriptChecks', WHERE WHAT IT READS IS OF BULK AT MOST 1048576: true; the input reads as it did. -/
def scriptChecksUptoRow : OpenClaim := { program := "ytpfebfckolbnmaadoor", sum := "0cc33f3727c334e127edde2d67b172a5bb37a949f2eecbee4038d40b07e4d5e7", func := "bursar/bursarlaw26.ScriptChecks", spec := "scriptChecks", inPlace := ["internal/reflectlite.ValueOf", "(internal/reflectlite.Value).Type", "(internal/reflectlite.Value).IsNil", "internal/reflectlite.TypeOf", "(internal/reflectlite.Value).Elem", "(internal/reflectlite.Value).Set"], unfollowed := true, recurses := true, named := ["bursar/script.forms", "errors.errorType"], apart := false, laid := [("errors.errorType", laid_errors_errorType), ("bursar/script.forms", laid_bursar_script_forms)], narrowed := true }
def ScriptChecksUptoSaid : Prop := scriptChecksUptoRow.holds Tryd.pinned (OpenSpec.upto scriptChecksSpec)

end Rows
end Go.Proofs.YtpfebfckolbnmaaDoor
