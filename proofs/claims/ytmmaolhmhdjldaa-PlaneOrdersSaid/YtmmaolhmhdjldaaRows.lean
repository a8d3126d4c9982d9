/-
  No cell of these rows narrows 'for every input' (looked for: loops, veiled, ifaces, maps, wideKeys, modest, calm, conditions, laid).
  DERIVED. THE GIVEN ROWS OF THIS SEAT. 17 by the template 'for every input the law returns true; each argument reads behind the call as it read before'; 0 by the template 'total and deterministic' (their statements: YtmmaolhmhdjldaaTotals.lean).
  GIVEN WITH THE SEED: the statements are not yours to turn. If you find one false, say at which input.
  Laid BY PROGRAM, IN A SANDBOX (cutbox-rows.mjs): the forced cells as the released guide's own fill.sh prints them over the translation a72d8b9891611e7e… (all of the seat's roots in one cut). By AI agents, Wed Nov 11 2026. No macro, syntax, notation, axiom, sorry.
-/
import Derived.Test.YtmmaolhmhdjldaaChecked
import GoSem.Claim
import GoSem.ClaimJoined
import GoSem.ClaimMapViews
import Derived.JoinedTies
import Derived.KernelRfl
namespace Go.Proofs.Ytmmaolhmhdjldaa
/- THE CELL 'sum', in the pinned program and in every row, IS THE sha256 OF THE DUMP (.gsa) THAT YtmmaolhmhdjldaaProg.lean LOADS. Nothing in Lean hashes anything: it is a label: what it is worth is what the hold of that sum in a sandbox is worth. -/
noncomputable def Try.pinned : Pinned := { name := "ytmmaolhmhdjldaa", sum := "a72d8b9891611e7e5c996f0e7d11bf171241aa45447c3f714afb0a03de52de9a", checked := Try.checked }
namespace Rows
def none {H : Type} : Left H := { results := [], args := [] }

/-- 'bursarlaw02.AgeChecks': WHATEVER THE INPUT: true; the input reads as it did. -/
def ageChecksSpec : ChangeSpec := { name := "ageChecks", fn := fun _ => fun
  | [d1, d2, d3] => { results := [.lit (.bool true)], args := [d1, d2, d3] }
  | _ => none }
def ageChecksRow : OpenClaim := { program := "ytmmaolhmhdjldaa", sum := "a72d8b9891611e7e5c996f0e7d11bf171241aa45447c3f714afb0a03de52de9a", func := "bursar/bursarlaw02.AgeChecks", spec := "ageChecks", plainKeys := false, apart := false }
def AgeChecksSaid : Prop := ageChecksRow.holds Try.pinned (OpenSpec.ofChange ageChecksSpec)

/-- ITS FALSE NEIGHBOUR: 'it returns false'. Refute it at one input. -/
def ageChecksWrong : ChangeSpec := { name := "ageChecks", fn := fun _ => fun
  | [d1, d2, d3] => { results := [.lit (.bool false)], args := [d1, d2, d3] }
  | _ => none }
def AgeChecksWrongFalsely : Prop := ageChecksRow.holds Try.pinned (OpenSpec.ofChange ageChecksWrong)

/-- 'bursarlaw04.PlaneFars': WHATEVER THE INPUT: true; the input reads as it did. -/
def planeFarsSpec : ChangeSpec := { name := "planeFars", fn := fun _ => fun
  | [d1, d2, d3, d4] => { results := [.lit (.bool true)], args := [d1, d2, d3, d4] }
  | _ => none }
def planeFarsRow : OpenClaim := { program := "ytmmaolhmhdjldaa", sum := "a72d8b9891611e7e5c996f0e7d11bf171241aa45447c3f714afb0a03de52de9a", func := "bursar/bursarlaw04.PlaneFars", spec := "planeFars", plainKeys := false, apart := false }
def PlaneFarsSaid : Prop := planeFarsRow.holds Try.pinned (OpenSpec.ofChange planeFarsSpec)

/-- ITS FALSE NEIGHBOUR: 'it returns false'. Refute it at one input. -/
def planeFarsWrong : ChangeSpec := { name := "planeFars", fn := fun _ => fun
  | [d1, d2, d3, d4] => { results := [.lit (.bool false)], args := [d1, d2, d3, d4] }
  | _ => none }
def PlaneFarsWrongFalsely : Prop := planeFarsRow.holds Try.pinned (OpenSpec.ofChange planeFarsWrong)

/-- 'bursarlaw02.AgeOrders': WHATEVER THE INPUT: true; the input reads as it did. -/
def ageOrdersSpec : ChangeSpec := { name := "ageOrders", fn := fun _ => fun
  | [d1, d2, d3, d4] => { results := [.lit (.bool true)], args := [d1, d2, d3, d4] }
  | _ => none }
def ageOrdersRow : OpenClaim := { program := "ytmmaolhmhdjldaa", sum := "a72d8b9891611e7e5c996f0e7d11bf171241aa45447c3f714afb0a03de52de9a", func := "bursar/bursarlaw02.AgeOrders", spec := "ageOrders", plainKeys := false, apart := false }
def AgeOrdersSaid : Prop := ageOrdersRow.holds Try.pinned (OpenSpec.ofChange ageOrdersSpec)

/-- ITS FALSE NEIGHBOUR: 'it returns false'. Refute it at one input. -/
def ageOrdersWrong : ChangeSpec := { name := "ageOrders", fn := fun _ => fun
  | [d1, d2, d3, d4] => { results := [.lit (.bool false)], args := [d1, d2, d3, d4] }
  | _ => none }
def AgeOrdersWrongFalsely : Prop := ageOrdersRow.holds Try.pinned (OpenSpec.ofChange ageOrdersWrong)

/-- 'bursarlaw04.PlanePoints': WHATEVER THE INPUT: true; the input reads as it did. -/
def planePointsSpec : ChangeSpec := { name := "planePoints", fn := fun _ => fun
  | [d1, d2, d3] => { results := [.lit (.bool true)], args := [d1, d2, d3] }
  | _ => none }
def planePointsRow : OpenClaim := { program := "ytmmaolhmhdjldaa", sum := "a72d8b9891611e7e5c996f0e7d11bf171241aa45447c3f714afb0a03de52de9a", func := "bursar/bursarlaw04.PlanePoints", spec := "planePoints", plainKeys := false, apart := false }
def PlanePointsSaid : Prop := planePointsRow.holds Try.pinned (OpenSpec.ofChange planePointsSpec)

/-- ITS FALSE NEIGHBOUR: 'it returns false'. Refute it at one input. -/
def planePointsWrong : ChangeSpec := { name := "planePoints", fn := fun _ => fun
  | [d1, d2, d3] => { results := [.lit (.bool false)], args := [d1, d2, d3] }
  | _ => none }
def PlanePointsWrongFalsely : Prop := planePointsRow.holds Try.pinned (OpenSpec.ofChange planePointsWrong)

/-- 'bursarlaw04.PlaneBack': WHATEVER THE INPUT: true; the input reads as it did. -/
def planeBackSpec : ChangeSpec := { name := "planeBack", fn := fun _ => fun
  | [d1, d2, d3] => { results := [.lit (.bool true)], args := [d1, d2, d3] }
  | _ => none }
def planeBackRow : OpenClaim := { program := "ytmmaolhmhdjldaa", sum := "a72d8b9891611e7e5c996f0e7d11bf171241aa45447c3f714afb0a03de52de9a", func := "bursar/bursarlaw04.PlaneBack", spec := "planeBack", plainKeys := false, apart := false }
def PlaneBackSaid : Prop := planeBackRow.holds Try.pinned (OpenSpec.ofChange planeBackSpec)

/-- ITS FALSE NEIGHBOUR: 'it returns false'. Refute it at one input. -/
def planeBackWrong : ChangeSpec := { name := "planeBack", fn := fun _ => fun
  | [d1, d2, d3] => { results := [.lit (.bool false)], args := [d1, d2, d3] }
  | _ => none }
def PlaneBackWrongFalsely : Prop := planeBackRow.holds Try.pinned (OpenSpec.ofChange planeBackWrong)

/-- 'bursarlaw04.PlaneDigits': WHATEVER THE INPUT: true; the input reads as it did. -/
def planeDigitsSpec : ChangeSpec := { name := "planeDigits", fn := fun _ => fun
  | [d] => { results := [.lit (.bool true)], args := [d] }
  | _ => none }
def planeDigitsRow : OpenClaim := { program := "ytmmaolhmhdjldaa", sum := "a72d8b9891611e7e5c996f0e7d11bf171241aa45447c3f714afb0a03de52de9a", func := "bursar/bursarlaw04.PlaneDigits", spec := "planeDigits", plainKeys := false, apart := false }
def PlaneDigitsSaid : Prop := planeDigitsRow.holds Try.pinned (OpenSpec.ofChange planeDigitsSpec)

/-- ITS FALSE NEIGHBOUR: 'it returns false'. Refute it at one input. -/
def planeDigitsWrong : ChangeSpec := { name := "planeDigits", fn := fun _ => fun
  | [d] => { results := [.lit (.bool false)], args := [d] }
  | _ => none }
def PlaneDigitsWrongFalsely : Prop := planeDigitsRow.holds Try.pinned (OpenSpec.ofChange planeDigitsWrong)

/-- 'bursarlaw27.HistoryChecks': WHATEVER THE INPUT: true; the input reads as it did. -/
def historyChecksSpec : ChangeSpec := { name := "historyChecks", fn := fun _ => fun
  | [d] => { results := [.lit (.bool true)], args := [d] }
  | _ => none }
def historyChecksRow : OpenClaim := { program := "ytmmaolhmhdjldaa", sum := "a72d8b9891611e7e5c996f0e7d11bf171241aa45447c3f714afb0a03de52de9a", func := "bursar/bursarlaw27.HistoryChecks", spec := "historyChecks", plainKeys := false, apart := false }
def HistoryChecksSaid : Prop := historyChecksRow.holds Try.pinned (OpenSpec.ofChange historyChecksSpec)

/-- ITS FALSE NEIGHBOUR: 'it returns false'. Refute it at one input. -/
def historyChecksWrong : ChangeSpec := { name := "historyChecks", fn := fun _ => fun
  | [d] => { results := [.lit (.bool false)], args := [d] }
  | _ => none }
def HistoryChecksWrongFalsely : Prop := historyChecksRow.holds Try.pinned (OpenSpec.ofChange historyChecksWrong)

/-- 'bursarlaw10.BagFull': WHATEVER THE INPUT: true; the input reads as it did. -/
def bagFullSpec : ChangeSpec := { name := "bagFull", fn := fun _ => fun
  | [d1, d2] => { results := [.lit (.bool true)], args := [d1, d2] }
  | _ => none }
def bagFullRow : OpenClaim := { program := "ytmmaolhmhdjldaa", sum := "a72d8b9891611e7e5c996f0e7d11bf171241aa45447c3f714afb0a03de52de9a", func := "bursar/bursarlaw10.BagFull", spec := "bagFull", plainKeys := false, apart := false }
def BagFullSaid : Prop := bagFullRow.holds Try.pinned (OpenSpec.ofChange bagFullSpec)

/-- ITS FALSE NEIGHBOUR: 'it returns false'. Refute it at one input. -/
def bagFullWrong : ChangeSpec := { name := "bagFull", fn := fun _ => fun
  | [d1, d2] => { results := [.lit (.bool false)], args := [d1, d2] }
  | _ => none }
def BagFullWrongFalsely : Prop := bagFullRow.holds Try.pinned (OpenSpec.ofChange bagFullWrong)

/-- 'bursarlaw10.BagCounts': WHATEVER THE INPUT: true; the input reads as it did. -/
def bagCountsSpec : ChangeSpec := { name := "bagCounts", fn := fun _ => fun
  | [d] => { results := [.lit (.bool true)], args := [d] }
  | _ => none }
def bagCountsRow : OpenClaim := { program := "ytmmaolhmhdjldaa", sum := "a72d8b9891611e7e5c996f0e7d11bf171241aa45447c3f714afb0a03de52de9a", func := "bursar/bursarlaw10.BagCounts", spec := "bagCounts", plainKeys := false, apart := false }
def BagCountsSaid : Prop := bagCountsRow.holds Try.pinned (OpenSpec.ofChange bagCountsSpec)

/-- ITS FALSE NEIGHBOUR: 'it returns false'. Refute it at one input. -/
def bagCountsWrong : ChangeSpec := { name := "bagCounts", fn := fun _ => fun
  | [d] => { results := [.lit (.bool false)], args := [d] }
  | _ => none }
def BagCountsWrongFalsely : Prop := bagCountsRow.holds Try.pinned (OpenSpec.ofChange bagCountsWrong)

/-- 'bursarlaw04.PlaneOrders': WHATEVER THE INPUT: true; the input reads as it did. -/
def planeOrdersSpec : ChangeSpec := { name := "planeOrders", fn := fun _ => fun
  | [d1, d2] => { results := [.lit (.bool true)], args := [d1, d2] }
  | _ => none }
def planeOrdersRow : OpenClaim := { program := "ytmmaolhmhdjldaa", sum := "a72d8b9891611e7e5c996f0e7d11bf171241aa45447c3f714afb0a03de52de9a", func := "bursar/bursarlaw04.PlaneOrders", spec := "planeOrders", unfollowed := true, recurses := true, plainKeys := false, apart := false }
def PlaneOrdersSaid : Prop := planeOrdersRow.holds Try.pinned (OpenSpec.ofChange planeOrdersSpec)

/-- ITS FALSE NEIGHBOUR: 'it returns false'. Refute it at one input. -/
def planeOrdersWrong : ChangeSpec := { name := "planeOrders", fn := fun _ => fun
  | [d1, d2] => { results := [.lit (.bool false)], args := [d1, d2] }
  | _ => none }
def PlaneOrdersWrongFalsely : Prop := planeOrdersRow.holds Try.pinned (OpenSpec.ofChange planeOrdersWrong)

/-- 'bursarlaw04.PlaneTurns': WHATEVER THE INPUT: true; the input reads as it did. -/
def planeTurnsSpec : ChangeSpec := { name := "planeTurns", fn := fun _ => fun
  | [d1, d2, d3] => { results := [.lit (.bool true)], args := [d1, d2, d3] }
  | _ => none }
def planeTurnsRow : OpenClaim := { program := "ytmmaolhmhdjldaa", sum := "a72d8b9891611e7e5c996f0e7d11bf171241aa45447c3f714afb0a03de52de9a", func := "bursar/bursarlaw04.PlaneTurns", spec := "planeTurns", unfollowed := true, recurses := true, plainKeys := false, apart := false }
def PlaneTurnsSaid : Prop := planeTurnsRow.holds Try.pinned (OpenSpec.ofChange planeTurnsSpec)

/-- ITS FALSE NEIGHBOUR: 'it returns false'. Refute it at one input. -/
def planeTurnsWrong : ChangeSpec := { name := "planeTurns", fn := fun _ => fun
  | [d1, d2, d3] => { results := [.lit (.bool false)], args := [d1, d2, d3] }
  | _ => none }
def PlaneTurnsWrongFalsely : Prop := planeTurnsRow.holds Try.pinned (OpenSpec.ofChange planeTurnsWrong)

/-- 'bursarlaw02.AgeLists': WHATEVER THE INPUT: true; the input reads as it did. -/
def ageListsSpec : ChangeSpec := { name := "ageLists", fn := fun _ => fun
  | [d] => { results := [.lit (.bool true)], args := [d] }
  | _ => none }
def ageListsRow : OpenClaim := { program := "ytmmaolhmhdjldaa", sum := "a72d8b9891611e7e5c996f0e7d11bf171241aa45447c3f714afb0a03de52de9a", func := "bursar/bursarlaw02.AgeLists", spec := "ageLists", unfollowed := true, recurses := true, plainKeys := false, apart := false }
def AgeListsSaid : Prop := ageListsRow.holds Try.pinned (OpenSpec.ofChange ageListsSpec)

/-- ITS FALSE NEIGHBOUR: 'it returns false'. Refute it at one input. -/
def ageListsWrong : ChangeSpec := { name := "ageLists", fn := fun _ => fun
  | [d] => { results := [.lit (.bool false)], args := [d] }
  | _ => none }
def AgeListsWrongFalsely : Prop := ageListsRow.holds Try.pinned (OpenSpec.ofChange ageListsWrong)

/-- 'bursarlaw10.BagParts': WHATEVER THE INPUT: true; the input reads as it did. -/
def bagPartsSpec : ChangeSpec := { name := "bagParts", fn := fun _ => fun
  | [d1, d2, d3] => { results := [.lit (.bool true)], args := [d1, d2, d3] }
  | _ => none }
def bagPartsRow : OpenClaim := { program := "ytmmaolhmhdjldaa", sum := "a72d8b9891611e7e5c996f0e7d11bf171241aa45447c3f714afb0a03de52de9a", func := "bursar/bursarlaw10.BagParts", spec := "bagParts", unfollowed := true, recurses := true, plainKeys := false, apart := false }
def BagPartsSaid : Prop := bagPartsRow.holds Try.pinned (OpenSpec.ofChange bagPartsSpec)

/-- ITS FALSE NEIGHBOUR: 'it returns false'. Refute it at one input. -/
def bagPartsWrong : ChangeSpec := { name := "bagParts", fn := fun _ => fun
  | [d1, d2, d3] => { results := [.lit (.bool false)], args := [d1, d2, d3] }
  | _ => none }
def BagPartsWrongFalsely : Prop := bagPartsRow.holds Try.pinned (OpenSpec.ofChange bagPartsWrong)

/-- 'bursarlaw27.HistoryEdges': WHATEVER THE INPUT: true; the input reads as it did. -/
def historyEdgesSpec : ChangeSpec := { name := "historyEdges", fn := fun _ => fun
  | [d1, d2] => { results := [.lit (.bool true)], args := [d1, d2] }
  | _ => none }
def historyEdgesRow : OpenClaim := { program := "ytmmaolhmhdjldaa", sum := "a72d8b9891611e7e5c996f0e7d11bf171241aa45447c3f714afb0a03de52de9a", func := "bursar/bursarlaw27.HistoryEdges", spec := "historyEdges", unfollowed := true, recurses := true, plainKeys := false, apart := false }
def HistoryEdgesSaid : Prop := historyEdgesRow.holds Try.pinned (OpenSpec.ofChange historyEdgesSpec)

/-- ITS FALSE NEIGHBOUR: 'it returns false'. Refute it at one input. -/
def historyEdgesWrong : ChangeSpec := { name := "historyEdges", fn := fun _ => fun
  | [d1, d2] => { results := [.lit (.bool false)], args := [d1, d2] }
  | _ => none }
def HistoryEdgesWrongFalsely : Prop := historyEdgesRow.holds Try.pinned (OpenSpec.ofChange historyEdgesWrong)

/-- 'bursarlaw10.BagPlays': WHATEVER THE INPUT: true; the input reads as it did. -/
def bagPlaysSpec : ChangeSpec := { name := "bagPlays", fn := fun _ => fun
  | [d1, d2] => { results := [.lit (.bool true)], args := [d1, d2] }
  | _ => none }
def bagPlaysRow : OpenClaim := { program := "ytmmaolhmhdjldaa", sum := "a72d8b9891611e7e5c996f0e7d11bf171241aa45447c3f714afb0a03de52de9a", func := "bursar/bursarlaw10.BagPlays", spec := "bagPlays", inPlace := ["maps.clone"], unfollowed := true, recurses := true, plainKeys := false, apart := false }
def BagPlaysSaid : Prop := bagPlaysRow.holds Try.pinned (OpenSpec.ofChange bagPlaysSpec)

/-- ITS FALSE NEIGHBOUR: 'it returns false'. Refute it at one input. -/
def bagPlaysWrong : ChangeSpec := { name := "bagPlays", fn := fun _ => fun
  | [d1, d2] => { results := [.lit (.bool false)], args := [d1, d2] }
  | _ => none }
def BagPlaysWrongFalsely : Prop := bagPlaysRow.holds Try.pinned (OpenSpec.ofChange bagPlaysWrong)

/-- 'bursarlaw27.HistorySerial': WHATEVER THE INPUT: true; the input reads as it did. -/
def historySerialSpec : ChangeSpec := { name := "historySerial", fn := fun _ => fun
  | [d1, d2] => { results := [.lit (.bool true)], args := [d1, d2] }
  | _ => none }
def historySerialRow : OpenClaim := { program := "ytmmaolhmhdjldaa", sum := "a72d8b9891611e7e5c996f0e7d11bf171241aa45447c3f714afb0a03de52de9a", func := "bursar/bursarlaw27.HistorySerial", spec := "historySerial", unfollowed := true, recurses := true, plainKeys := false, apart := false }
def HistorySerialSaid : Prop := historySerialRow.holds Try.pinned (OpenSpec.ofChange historySerialSpec)

/-- ITS FALSE NEIGHBOUR: 'it returns false'. Refute it at one input. -/
def historySerialWrong : ChangeSpec := { name := "historySerial", fn := fun _ => fun
  | [d1, d2] => { results := [.lit (.bool false)], args := [d1, d2] }
  | _ => none }
def HistorySerialWrongFalsely : Prop := historySerialRow.holds Try.pinned (OpenSpec.ofChange historySerialWrong)

/-- 'bursarlaw27.HistoryFollows': WHATEVER THE INPUT: true; the input reads as it did. -/
def historyFollowsSpec : ChangeSpec := { name := "historyFollows", fn := fun _ => fun
  | [d1, d2] => { results := [.lit (.bool true)], args := [d1, d2] }
  | _ => none }
def historyFollowsRow : OpenClaim := { program := "ytmmaolhmhdjldaa", sum := "a72d8b9891611e7e5c996f0e7d11bf171241aa45447c3f714afb0a03de52de9a", func := "bursar/bursarlaw27.HistoryFollows", spec := "historyFollows", unfollowed := true, recurses := true, plainKeys := false, apart := false }
def HistoryFollowsSaid : Prop := historyFollowsRow.holds Try.pinned (OpenSpec.ofChange historyFollowsSpec)

/-- ITS FALSE NEIGHBOUR: 'it returns false'. Refute it at one input. -/
def historyFollowsWrong : ChangeSpec := { name := "historyFollows", fn := fun _ => fun
  | [d1, d2] => { results := [.lit (.bool false)], args := [d1, d2] }
  | _ => none }
def HistoryFollowsWrongFalsely : Prop := historyFollowsRow.holds Try.pinned (OpenSpec.ofChange historyFollowsWrong)

/- THE SECOND FORM. 'bulk': how many values and letters a reading holds, each counted each time it is reached (what is shared counts as often as it is met; a slice's spare places count too). A statement '..UptoSaid' is the law's where the arguments, and the package variables that the reading takes, are together of bulk at most 1048576: NARROWER than '..Said'. Prove '..Said' where nothing that the law and all that it calls make is longer than what came in: it says more and counts as full. Else prove '..UptoSaid'. A law counts once. -/
mutual
def uptoBulk {H : Type} : DataW H → Nat
  | .lit (.string bytes) => bytes.length + 1
  | .lit _ => 1
  | .nil => 1
  | .ptr d => uptoBulk d + 1
  | .slice elems spare => uptoBulkAll elems + uptoBulkAll spare + 1
  | .agg parts => uptoBulkAll parts + 1
  | .iface _ d => uptoBulk d + 1
  | .map entries => uptoBulkEntries entries + 1
  | .held _ => 1
def uptoBulkAll {H : Type} : List (DataW H) → Nat
  | [] => 0
  | d :: r => uptoBulk d + uptoBulkAll r
def uptoBulkEntries {H : Type} : List (Lit × DataW H) → Nat
  | [] => 0
  | x :: r => uptoBulkEntry x + uptoBulkEntries r
def uptoBulkEntry {H : Type} : Lit × DataW H → Nat
  | (.string bytes, d) => bytes.length + uptoBulk d + 1
  | (_, d) => uptoBulk d + 1
 end
def uptoSmall : (H : Type) → List (DataW H) → Bool := fun _ ds => decide (uptoBulkAll ds ≤ 1048576)
def OpenSpec.upto (s : _root_.Go.ChangeSpec) : _root_.Go.OpenSpec := { _root_.Go.OpenSpec.ofChange s with cond := some uptoSmall }

/-- 'bursarlaw02.AgeChecks', WHERE WHAT IT READS IS OF BULK AT MOST 1048576: true; the input reads as it did. -/
def ageChecksUptoRow : OpenClaim := { program := "ytmmaolhmhdjldaa", sum := "a72d8b9891611e7e5c996f0e7d11bf171241aa45447c3f714afb0a03de52de9a", func := "bursar/bursarlaw02.AgeChecks", spec := "ageChecks", plainKeys := false, apart := false, narrowed := true }
def AgeChecksUptoSaid : Prop := ageChecksUptoRow.holds Try.pinned (OpenSpec.upto ageChecksSpec)

/-- 'bursarlaw04.PlaneFars', WHERE WHAT IT READS IS OF BULK AT MOST 1048576: true; the input reads as it did. -/
def planeFarsUptoRow : OpenClaim := { program := "ytmmaolhmhdjldaa", sum := "a72d8b9891611e7e5c996f0e7d11bf171241aa45447c3f714afb0a03de52de9a", func := "bursar/bursarlaw04.PlaneFars", spec := "planeFars", plainKeys := false, apart := false, narrowed := true }
def PlaneFarsUptoSaid : Prop := planeFarsUptoRow.holds Try.pinned (OpenSpec.upto planeFarsSpec)

/-- 'bursarlaw02.AgeOrders', WHERE WHAT IT READS IS OF BULK AT MOST 1048576: true; the input reads as it did. -/
def ageOrdersUptoRow : OpenClaim := { program := "ytmmaolhmhdjldaa", sum := "a72d8b9891611e7e5c996f0e7d11bf171241aa45447c3f714afb0a03de52de9a", func := "bursar/bursarlaw02.AgeOrders", spec := "ageOrders", plainKeys := false, apart := false, narrowed := true }
def AgeOrdersUptoSaid : Prop := ageOrdersUptoRow.holds Try.pinned (OpenSpec.upto ageOrdersSpec)

/-- 'bursarlaw04.PlanePoints', WHERE WHAT IT READS IS OF BULK AT MOST 1048576: true; the input reads as it did. -/
def planePointsUptoRow : OpenClaim := { program := "ytmmaolhmhdjldaa", sum := "a72d8b9891611e7e5c996f0e7d11bf171241aa45447c3f714afb0a03de52de9a", func := "bursar/bursarlaw04.PlanePoints", spec := "planePoints", plainKeys := false, apart := false, narrowed := true }
def PlanePointsUptoSaid : Prop := planePointsUptoRow.holds Try.pinned (OpenSpec.upto planePointsSpec)

/-- 'bursarlaw04.PlaneBack', WHERE WHAT IT READS IS OF BULK AT MOST 1048576: true; the input reads as it did. -/
def planeBackUptoRow : OpenClaim := { program := "ytmmaolhmhdjldaa", sum := "a72d8b9891611e7e5c996f0e7d11bf171241aa45447c3f714afb0a03de52de9a", func := "bursar/bursarlaw04.PlaneBack", spec := "planeBack", plainKeys := false, apart := false, narrowed := true }
def PlaneBackUptoSaid : Prop := planeBackUptoRow.holds Try.pinned (OpenSpec.upto planeBackSpec)

/-- 'bursarlaw04.PlaneDigits', WHERE WHAT IT READS IS OF BULK AT MOST 1048576: true; the input reads as it did. -/
def planeDigitsUptoRow : OpenClaim := { program := "ytmmaolhmhdjldaa", sum := "a72d8b9891611e7e5c996f0e7d11bf171241aa45447c3f714afb0a03de52de9a", func := "bursar/bursarlaw04.PlaneDigits", spec := "planeDigits", plainKeys := false, apart := false, narrowed := true }
def PlaneDigitsUptoSaid : Prop := planeDigitsUptoRow.holds Try.pinned (OpenSpec.upto planeDigitsSpec)

/-- 'bursarlaw27.HistoryChecks', WHERE WHAT IT READS IS OF BULK AT MOST 1048576: true; the input reads as it did. -/
def historyChecksUptoRow : OpenClaim := { program := "ytmmaolhmhdjldaa", sum := "a72d8b9891611e7e5c996f0e7d11bf171241aa45447c3f714afb0a03de52de9a", func := "bursar/bursarlaw27.HistoryChecks", spec := "historyChecks", plainKeys := false, apart := false, narrowed := true }
def HistoryChecksUptoSaid : Prop := historyChecksUptoRow.holds Try.pinned (OpenSpec.upto historyChecksSpec)

/-- 'bursarlaw10.BagFull', WHERE WHAT IT READS IS OF BULK AT MOST 1048576: true; the input reads as it did. -/
def bagFullUptoRow : OpenClaim := { program := "ytmmaolhmhdjldaa", sum := "a72d8b9891611e7e5c996f0e7d11bf171241aa45447c3f714afb0a03de52de9a", func := "bursar/bursarlaw10.BagFull", spec := "bagFull", plainKeys := false, apart := false, narrowed := true }
def BagFullUptoSaid : Prop := bagFullUptoRow.holds Try.pinned (OpenSpec.upto bagFullSpec)

/-- 'bursarlaw10.BagCounts', WHERE WHAT IT READS IS OF BULK AT MOST 1048576: true; the input reads as it did. -/
def bagCountsUptoRow : OpenClaim := { program := "ytmmaolhmhdjldaa", sum := "a72d8b9891611e7e5c996f0e7d11bf171241aa45447c3f714afb0a03de52de9a", func := "bursar/bursarlaw10.BagCounts", spec := "bagCounts", plainKeys := false, apart := false, narrowed := true }
def BagCountsUptoSaid : Prop := bagCountsUptoRow.holds Try.pinned (OpenSpec.upto bagCountsSpec)

/-- 'bursarlaw04.PlaneOrders', WHERE WHAT IT READS IS OF BULK AT MOST 1048576: true; the input reads as it did. -/
def planeOrdersUptoRow : OpenClaim := { program := "ytmmaolhmhdjldaa", sum := "a72d8b9891611e7e5c996f0e7d11bf171241aa45447c3f714afb0a03de52de9a", func := "bursar/bursarlaw04.PlaneOrders", spec := "planeOrders", unfollowed := true, recurses := true, plainKeys := false, apart := false, narrowed := true }
def PlaneOrdersUptoSaid : Prop := planeOrdersUptoRow.holds Try.pinned (OpenSpec.upto planeOrdersSpec)

/-- 'bursarlaw04.PlaneTurns', WHERE WHAT IT READS IS OF BULK AT MOST 1048576: true; the input reads as it did. -/
def planeTurnsUptoRow : OpenClaim := { program := "ytmmaolhmhdjldaa", sum := "a72d8b9891611e7e5c996f0e7d11bf171241aa45447c3f714afb0a03de52de9a", func := "bursar/bursarlaw04.PlaneTurns", spec := "planeTurns", unfollowed := true, recurses := true, plainKeys := false, apart := false, narrowed := true }
def PlaneTurnsUptoSaid : Prop := planeTurnsUptoRow.holds Try.pinned (OpenSpec.upto planeTurnsSpec)

/-- 'bursarlaw02.AgeLists', WHERE WHAT IT READS IS OF BULK AT MOST 1048576: true; the input reads as it did. -/
def ageListsUptoRow : OpenClaim := { program := "ytmmaolhmhdjldaa", sum := "a72d8b9891611e7e5c996f0e7d11bf171241aa45447c3f714afb0a03de52de9a", func := "bursar/bursarlaw02.AgeLists", spec := "ageLists", unfollowed := true, recurses := true, plainKeys := false, apart := false, narrowed := true }
def AgeListsUptoSaid : Prop := ageListsUptoRow.holds Try.pinned (OpenSpec.upto ageListsSpec)

/-- 'bursarlaw10.BagParts', WHERE WHAT IT READS IS OF BULK AT MOST 1048576: true; the input reads as it did. -/
def bagPartsUptoRow : OpenClaim := { program := "ytmmaolhmhdjldaa", sum := "a72d8b9891611e7e5c996f0e7d11bf171241aa45447c3f714afb0a03de52de9a", func := "bursar/bursarlaw10.BagParts", spec := "bagParts", unfollowed := true, recurses := true, plainKeys := false, apart := false, narrowed := true }
def BagPartsUptoSaid : Prop := bagPartsUptoRow.holds Try.pinned (OpenSpec.upto bagPartsSpec)

/-- 'bursarlaw27.HistoryEdges', WHERE WHAT IT READS IS OF BULK AT MOST 1048576: true; the input reads as it did. -/
def historyEdgesUptoRow : OpenClaim := { program := "ytmmaolhmhdjldaa", sum := "a72d8b9891611e7e5c996f0e7d11bf171241aa45447c3f714afb0a03de52de9a", func := "bursar/bursarlaw27.HistoryEdges", spec := "historyEdges", unfollowed := true, recurses := true, plainKeys := false, apart := false, narrowed := true }
def HistoryEdgesUptoSaid : Prop := historyEdgesUptoRow.holds Try.pinned (OpenSpec.upto historyEdgesSpec)

/-- 'bursarlaw10.BagPlays', WHERE WHAT IT READS IS OF BULK AT MOST 1048576: true; the input reads as it did. -/
def bagPlaysUptoRow : OpenClaim := { program := "ytmmaolhmhdjldaa", sum := "a72d8b9891611e7e5c996f0e7d11bf171241aa45447c3f714afb0a03de52de9a", func := "bursar/bursarlaw10.BagPlays", spec := "bagPlays", inPlace := ["maps.clone"], unfollowed := true, recurses := true, plainKeys := false, apart := false, narrowed := true }
def BagPlaysUptoSaid : Prop := bagPlaysUptoRow.holds Try.pinned (OpenSpec.upto bagPlaysSpec)

/-- 'bursarlaw27.HistorySerial', WHERE WHAT IT READS IS OF BULK AT MOST 1048576: true; the input reads as it did. -/
def historySerialUptoRow : OpenClaim := { program := "ytmmaolhmhdjldaa", sum := "a72d8b9891611e7e5c996f0e7d11bf171241aa45447c3f714afb0a03de52de9a", func := "bursar/bursarlaw27.HistorySerial", spec := "historySerial", unfollowed := true, recurses := true, plainKeys := false, apart := false, narrowed := true }
def HistorySerialUptoSaid : Prop := historySerialUptoRow.holds Try.pinned (OpenSpec.upto historySerialSpec)

/-- 'bursarlaw27.HistoryFollows', WHERE WHAT IT READS IS OF BULK AT MOST 1048576: true; the input reads as it did. -/
def historyFollowsUptoRow : OpenClaim := { program := "ytmmaolhmhdjldaa", sum := "a72d8b9891611e7e5c996f0e7d11bf171241aa45447c3f714afb0a03de52de9a", func := "bursar/bursarlaw27.HistoryFollows", spec := "historyFollows", unfollowed := true, recurses := true, plainKeys := false, apart := false, narrowed := true }
def HistoryFollowsUptoSaid : Prop := historyFollowsUptoRow.holds Try.pinned (OpenSpec.upto historyFollowsSpec)

end Rows
end Go.Proofs.Ytmmaolhmhdjldaa
