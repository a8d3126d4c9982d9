/-
  No cell of these rows narrows 'for every input' (looked for: loops, veiled, ifaces, maps, wideKeys, modest, calm, conditions, laid).
  DERIVED. THE GIVEN ROWS OF THIS SEAT. 4 by the template 'for every input the law returns true; each argument reads behind the call as it read before'; 0 by the template 'total and deterministic' (their statements: YtpaihfdmjkfegaaTotals.lean).
  GIVEN WITH THE SEED: the statements are not yours to turn. If you find one false, say at which input.
  Laid BY PROGRAM, IN A SANDBOX (cutbox-rows.mjs): the forced cells as the released guide's own fill.sh prints them over the translation 78626500cdf76f3a… (all of the seat's roots in one cut). By AI agents, Wed Nov 11 2026. No macro, syntax, notation, axiom, sorry.
-/
import Derived.Test.YtpaihfdmjkfegaaChecked
import GoSem.Claim
import GoSem.ClaimJoined
import GoSem.ClaimMapViews
import Derived.JoinedTies
import Derived.KernelRfl
namespace Go.Proofs.Ytpaihfdmjkfegaa
/- THE CELL 'sum', in the pinned program and in every row, IS THE sha256 OF THE DUMP (.gsa) THAT YtpaihfdmjkfegaaProg.lean LOADS. Nothing in Lean hashes anything: it is a label: what it is worth is what the hold of that sum in a sandbox is worth. -/
noncomputable def Try.pinned : Pinned := { name := "ytpaihfdmjkfegaa", sum := "78626500cdf76f3a6010060b78c03aaa549ae1873f28182d1384c583d307f48a", checked := Try.checked }
namespace Rows
def none {H : Type} : Left H := { results := [], args := [] }

/-- 'bursarlaw23.ClientChecks': WHATEVER THE INPUT: true; the input reads as it did. -/
def clientChecksSpec : ChangeSpec := { name := "clientChecks", fn := fun _ => fun
  | [d1, d2] => { results := [.lit (.bool true)], args := [d1, d2] }
  | _ => none }
def clientChecksRow : OpenClaim := { program := "ytpaihfdmjkfegaa", sum := "78626500cdf76f3a6010060b78c03aaa549ae1873f28182d1384c583d307f48a", func := "bursar/bursarlaw23.ClientChecks", spec := "clientChecks", unfollowed := true, recurses := true, apart := false }
def ClientChecksSaid : Prop := clientChecksRow.holds Try.pinned (OpenSpec.ofChange clientChecksSpec)

/-- ITS FALSE NEIGHBOUR: 'it returns false'. Refute it at one input. -/
def clientChecksWrong : ChangeSpec := { name := "clientChecks", fn := fun _ => fun
  | [d1, d2] => { results := [.lit (.bool false)], args := [d1, d2] }
  | _ => none }
def ClientChecksWrongFalsely : Prop := clientChecksRow.holds Try.pinned (OpenSpec.ofChange clientChecksWrong)

/-- 'bursarlaw23.ClientOwn': WHATEVER THE INPUT: true; the input reads as it did. -/
def clientOwnSpec : ChangeSpec := { name := "clientOwn", fn := fun _ => fun
  | [d] => { results := [.lit (.bool true)], args := [d] }
  | _ => none }
def clientOwnRow : OpenClaim := { program := "ytpaihfdmjkfegaa", sum := "78626500cdf76f3a6010060b78c03aaa549ae1873f28182d1384c583d307f48a", func := "bursar/bursarlaw23.ClientOwn", spec := "clientOwn", inPlace := ["slices.overlaps[int]"], unfollowed := true, recurses := true, apart := false }
def ClientOwnSaid : Prop := clientOwnRow.holds Try.pinned (OpenSpec.ofChange clientOwnSpec)

/-- ITS FALSE NEIGHBOUR: 'it returns false'. Refute it at one input. -/
def clientOwnWrong : ChangeSpec := { name := "clientOwn", fn := fun _ => fun
  | [d] => { results := [.lit (.bool false)], args := [d] }
  | _ => none }
def ClientOwnWrongFalsely : Prop := clientOwnRow.holds Try.pinned (OpenSpec.ofChange clientOwnWrong)

/-- 'bursarlaw23.ClientAges': WHATEVER THE INPUT: true; the input reads as it did. -/
def clientAgesSpec : ChangeSpec := { name := "clientAges", fn := fun _ => fun
  | [d1, d2] => { results := [.lit (.bool true)], args := [d1, d2] }
  | _ => none }
def clientAgesRow : OpenClaim := { program := "ytpaihfdmjkfegaa", sum := "78626500cdf76f3a6010060b78c03aaa549ae1873f28182d1384c583d307f48a", func := "bursar/bursarlaw23.ClientAges", spec := "clientAges", inPlace := ["slices.overlaps[int]"], unfollowed := true, recurses := true, apart := false }
def ClientAgesSaid : Prop := clientAgesRow.holds Try.pinned (OpenSpec.ofChange clientAgesSpec)

/-- ITS FALSE NEIGHBOUR: 'it returns false'. Refute it at one input. -/
def clientAgesWrong : ChangeSpec := { name := "clientAges", fn := fun _ => fun
  | [d1, d2] => { results := [.lit (.bool false)], args := [d1, d2] }
  | _ => none }
def ClientAgesWrongFalsely : Prop := clientAgesRow.holds Try.pinned (OpenSpec.ofChange clientAgesWrong)

/-- 'bursarlaw23.ClientPokes': WHATEVER THE INPUT: true; the input reads as it did. -/
def clientPokesSpec : ChangeSpec := { name := "clientPokes", fn := fun _ => fun
  | [d1, d2, d3, d4] => { results := [.lit (.bool true)], args := [d1, d2, d3, d4] }
  | _ => none }
def clientPokesRow : OpenClaim := { program := "ytpaihfdmjkfegaa", sum := "78626500cdf76f3a6010060b78c03aaa549ae1873f28182d1384c583d307f48a", func := "bursar/bursarlaw23.ClientPokes", spec := "clientPokes", inPlace := ["slices.overlaps[int]"], unfollowed := true, recurses := true, apart := false }
def ClientPokesSaid : Prop := clientPokesRow.holds Try.pinned (OpenSpec.ofChange clientPokesSpec)

/-- ITS FALSE NEIGHBOUR: 'it returns false'. Refute it at one input. -/
def clientPokesWrong : ChangeSpec := { name := "clientPokes", fn := fun _ => fun
  | [d1, d2, d3, d4] => { results := [.lit (.bool false)], args := [d1, d2, d3, d4] }
  | _ => none }
def ClientPokesWrongFalsely : Prop := clientPokesRow.holds Try.pinned (OpenSpec.ofChange clientPokesWrong)

/- THE SECOND FORM. 'bulk': how many values and letters a reading holds, each counted each time it is reached (what is shared counts as often as it is met; a slice's spare places count too). A statement '..UptoSaid' is the law's where the arguments, and the package variables that the reading takes, are together of bulk at most 1048576: NARROWER than '..Said'. Prove '..Said' where nothing that the law and all that it calls make is longer than what came in: it says more and counts as full. Else prove '..UptoSaid'. A law counts once. -/
mutual
def uptoBulk {H : Type} : DataW H → Nat
  | .lit (.string bytes) => bytes.length + 1
  | .lit _ => 1
  | .nil => 1
  | .ptr d => uptoBulk d + 1
  | .slice elems spare => uptoBulkAll elems + uptoBulkAll spare + 1
  | .agg parts => uptoBulkAll parts + 1
  | .iface _ d => uptoBulk d + 1
  | .map entries => uptoBulkEntries entries + 1
  | .held _ => 1
def uptoBulkAll {H : Type} : List (DataW H) → Nat
  | [] => 0
  | d :: r => uptoBulk d + uptoBulkAll r
def uptoBulkEntries {H : Type} : List (Lit × DataW H) → Nat
  | [] => 0
  | x :: r => uptoBulkEntry x + uptoBulkEntries r
def uptoBulkEntry {H : Type} : Lit × DataW H → Nat
  | (.string bytes, d) => bytes.length + uptoBulk d + 1
  | (_, d) => uptoBulk d + 1
 end
def uptoSmall : (H : Type) → List (DataW H) → Bool := fun _ ds => decide (uptoBulkAll ds ≤ 1048576)
def OpenSpec.upto (s : _root_.Go.ChangeSpec) : _root_.Go.OpenSpec := { _root_.Go.OpenSpec.ofChange s with cond := some uptoSmall }

/-- 'bursarlaw23.ClientChecks', WHERE WHAT IT READS IS OF BULK AT MOST 1048576: true; the input reads as it did. -/
def clientChecksUptoRow : OpenClaim := { program := "ytpaihfdmjkfegaa", sum := "78626500cdf76f3a6010060b78c03aaa549ae1873f28182d1384c583d307f48a", func := "bursar/bursarlaw23.ClientChecks", spec := "clientChecks", unfollowed := true, recurses := true, apart := false, narrowed := true }
def ClientChecksUptoSaid : Prop := clientChecksUptoRow.holds Try.pinned (OpenSpec.upto clientChecksSpec)

/-- 'bursarlaw23.ClientOwn', WHERE WHAT IT READS IS OF BULK AT MOST 1048576: true; the input reads as it did. -/
def clientOwnUptoRow : OpenClaim := { program := "ytpaihfdmjkfegaa", sum := "78626500cdf76f3a6010060b78c03aaa549ae1873f28182d1384c583d307f48a", func := "bursar/bursarlaw23.ClientOwn", spec := "clientOwn", inPlace := ["slices.overlaps[int]"], unfollowed := true, recurses := true, apart := false, narrowed := true }
def ClientOwnUptoSaid : Prop := clientOwnUptoRow.holds Try.pinned (OpenSpec.upto clientOwnSpec)

/-- 'bursarlaw23.ClientAges', WHERE WHAT IT READS IS OF BULK AT MOST 1048576: true; the input reads as it did. -/
def clientAgesUptoRow : OpenClaim := { program := "ytpaihfdmjkfegaa", sum := "78626500cdf76f3a6010060b78c03aaa549ae1873f28182d1384c583d307f48a", func := "bursar/bursarlaw23.ClientAges", spec := "clientAges", inPlace := ["slices.overlaps[int]"], unfollowed := true, recurses := true, apart := false, narrowed := true }
def ClientAgesUptoSaid : Prop := clientAgesUptoRow.holds Try.pinned (OpenSpec.upto clientAgesSpec)

/-- 'bursarlaw23.ClientPokes', WHERE WHAT IT READS IS OF BULK AT MOST 1048576: true; the input reads as it did. -/
def clientPokesUptoRow : OpenClaim := { program := "ytpaihfdmjkfegaa", sum := "78626500cdf76f3a6010060b78c03aaa549ae1873f28182d1384c583d307f48a", func := "bursar/bursarlaw23.ClientPokes", spec := "clientPokes", inPlace := ["slices.overlaps[int]"], unfollowed := true, recurses := true, apart := false, narrowed := true }
def ClientPokesUptoSaid : Prop := clientPokesUptoRow.holds Try.pinned (OpenSpec.upto clientPokesSpec)

end Rows
end Go.Proofs.Ytpaihfdmjkfegaa
