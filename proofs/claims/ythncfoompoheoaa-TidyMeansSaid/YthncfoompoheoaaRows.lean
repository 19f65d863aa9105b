/-
  No cell of these rows narrows 'for every input' (looked for: loops, veiled, ifaces, maps, wideKeys, modest, calm, conditions, laid).
  DERIVED. THE GIVEN ROWS OF THIS SEAT. 12 by the template 'for every input the law returns true; each argument reads behind the call as it read before'; 0 by the template 'total and deterministic' (their statements: YthncfoompoheoaaTotals.lean).
  GIVEN WITH THE SEED: the statements are not yours to turn. If you find one false, say at which input.
  Laid BY PROGRAM, IN A SANDBOX (cutbox-rows.mjs): the forced cells as the released guide's own fill.sh prints them over the translation 75185003d5b25d4b… (all of the seat's roots in one cut). By AI agents, Wed Nov 11 2026. No macro, syntax, notation, axiom, sorry.
-/
import Derived.Test.YthncfoompoheoaaChecked
import GoSem.Claim
import GoSem.ClaimJoined
import GoSem.ClaimMapViews
import Derived.JoinedTies
import Derived.KernelRfl
namespace Go.Proofs.Ythncfoompoheoaa
/- THE CELL 'sum', in the pinned program and in every row, IS THE sha256 OF THE DUMP (.gsa) THAT YthncfoompoheoaaProg.lean LOADS. Nothing in Lean hashes anything: it is a label: what it is worth is what the hold of that sum in a sandbox is worth. -/
noncomputable def Try.pinned : Pinned := { name := "ythncfoompoheoaa", sum := "75185003d5b25d4b49d1cee7ad4c7091f9c45a4423d8b56b6a4e68c76b3ac62c", checked := Try.checked }
namespace Rows
def none {H : Type} : Left H := { results := [], args := [] }

/-- 'backstitchlaw20.SegmentTells': WHATEVER THE INPUT: true; the input reads as it did. -/
def segmentTellsSpec : ChangeSpec := { name := "segmentTells", fn := fun _ => fun
  | [d1, d2, d3, d4] => { results := [.lit (.bool true)], args := [d1, d2, d3, d4] }
  | _ => none }
def segmentTellsRow : OpenClaim := { program := "ythncfoompoheoaa", sum := "75185003d5b25d4b49d1cee7ad4c7091f9c45a4423d8b56b6a4e68c76b3ac62c", func := "backstitch/backstitchlaw20.SegmentTells", spec := "segmentTells", unfollowed := true, recurses := true, apart := false }
def SegmentTellsSaid : Prop := segmentTellsRow.holds Try.pinned (OpenSpec.ofChange segmentTellsSpec)

/-- ITS FALSE NEIGHBOUR: 'it returns false'. Refute it at one input. -/
def segmentTellsWrong : ChangeSpec := { name := "segmentTells", fn := fun _ => fun
  | [d1, d2, d3, d4] => { results := [.lit (.bool false)], args := [d1, d2, d3, d4] }
  | _ => none }
def SegmentTellsWrongFalsely : Prop := segmentTellsRow.holds Try.pinned (OpenSpec.ofChange segmentTellsWrong)

/-- 'backstitchlaw22.SweepDuals': WHATEVER THE INPUT: true; the input reads as it did. -/
def sweepDualsSpec : ChangeSpec := { name := "sweepDuals", fn := fun _ => fun
  | [d1, d2, d3] => { results := [.lit (.bool true)], args := [d1, d2, d3] }
  | _ => none }
def sweepDualsRow : OpenClaim := { program := "ythncfoompoheoaa", sum := "75185003d5b25d4b49d1cee7ad4c7091f9c45a4423d8b56b6a4e68c76b3ac62c", func := "backstitch/backstitchlaw22.SweepDuals", spec := "sweepDuals", unfollowed := true, recurses := true, apart := false }
def SweepDualsSaid : Prop := sweepDualsRow.holds Try.pinned (OpenSpec.ofChange sweepDualsSpec)

/-- ITS FALSE NEIGHBOUR: 'it returns false'. Refute it at one input. -/
def sweepDualsWrong : ChangeSpec := { name := "sweepDuals", fn := fun _ => fun
  | [d1, d2, d3] => { results := [.lit (.bool false)], args := [d1, d2, d3] }
  | _ => none }
def SweepDualsWrongFalsely : Prop := sweepDualsRow.holds Try.pinned (OpenSpec.ofChange sweepDualsWrong)

/-- 'backstitchlaw14.JetRuns': WHATEVER THE INPUT: true; the input reads as it did. -/
def jetRunsSpec : ChangeSpec := { name := "jetRuns", fn := fun _ => fun
  | [d1, d2] => { results := [.lit (.bool true)], args := [d1, d2] }
  | _ => none }
def jetRunsRow : OpenClaim := { program := "ythncfoompoheoaa", sum := "75185003d5b25d4b49d1cee7ad4c7091f9c45a4423d8b56b6a4e68c76b3ac62c", func := "backstitch/backstitchlaw14.JetRuns", spec := "jetRuns", unfollowed := true, recurses := true, apart := false }
def JetRunsSaid : Prop := jetRunsRow.holds Try.pinned (OpenSpec.ofChange jetRunsSpec)

/-- ITS FALSE NEIGHBOUR: 'it returns false'. Refute it at one input. -/
def jetRunsWrong : ChangeSpec := { name := "jetRuns", fn := fun _ => fun
  | [d1, d2] => { results := [.lit (.bool false)], args := [d1, d2] }
  | _ => none }
def JetRunsWrongFalsely : Prop := jetRunsRow.holds Try.pinned (OpenSpec.ofChange jetRunsWrong)

/-- 'backstitchlaw14.JetDerives': WHATEVER THE INPUT: true; the input reads as it did. -/
def jetDerivesSpec : ChangeSpec := { name := "jetDerives", fn := fun _ => fun
  | [d1, d2, d3, d4] => { results := [.lit (.bool true)], args := [d1, d2, d3, d4] }
  | _ => none }
def jetDerivesRow : OpenClaim := { program := "ythncfoompoheoaa", sum := "75185003d5b25d4b49d1cee7ad4c7091f9c45a4423d8b56b6a4e68c76b3ac62c", func := "backstitch/backstitchlaw14.JetDerives", spec := "jetDerives", unfollowed := true, recurses := true, apart := false }
def JetDerivesSaid : Prop := jetDerivesRow.holds Try.pinned (OpenSpec.ofChange jetDerivesSpec)

/-- ITS FALSE NEIGHBOUR: 'it returns false'. Refute it at one input. -/
def jetDerivesWrong : ChangeSpec := { name := "jetDerives", fn := fun _ => fun
  | [d1, d2, d3, d4] => { results := [.lit (.bool false)], args := [d1, d2, d3, d4] }
  | _ => none }
def JetDerivesWrongFalsely : Prop := jetDerivesRow.holds Try.pinned (OpenSpec.ofChange jetDerivesWrong)

/-- 'backstitchlaw21.TapeWas': WHATEVER THE INPUT: true; the input reads as it did. -/
def tapeWasSpec : ChangeSpec := { name := "tapeWas", fn := fun _ => fun
  | [d1, d2, d3, d4] => { results := [.lit (.bool true)], args := [d1, d2, d3, d4] }
  | _ => none }
def tapeWasRow : OpenClaim := { program := "ythncfoompoheoaa", sum := "75185003d5b25d4b49d1cee7ad4c7091f9c45a4423d8b56b6a4e68c76b3ac62c", func := "backstitch/backstitchlaw21.TapeWas", spec := "tapeWas", unfollowed := true, recurses := true, apart := false }
def TapeWasSaid : Prop := tapeWasRow.holds Try.pinned (OpenSpec.ofChange tapeWasSpec)

/-- ITS FALSE NEIGHBOUR: 'it returns false'. Refute it at one input. -/
def tapeWasWrong : ChangeSpec := { name := "tapeWas", fn := fun _ => fun
  | [d1, d2, d3, d4] => { results := [.lit (.bool false)], args := [d1, d2, d3, d4] }
  | _ => none }
def TapeWasWrongFalsely : Prop := tapeWasRow.holds Try.pinned (OpenSpec.ofChange tapeWasWrong)

/-- 'backstitchlaw17.TidyTells': WHATEVER THE INPUT: true; the input reads as it did. -/
def tidyTellsSpec : ChangeSpec := { name := "tidyTells", fn := fun _ => fun
  | [d1, d2] => { results := [.lit (.bool true)], args := [d1, d2] }
  | _ => none }
def tidyTellsRow : OpenClaim := { program := "ythncfoompoheoaa", sum := "75185003d5b25d4b49d1cee7ad4c7091f9c45a4423d8b56b6a4e68c76b3ac62c", func := "backstitch/backstitchlaw17.TidyTells", spec := "tidyTells", unfollowed := true, recurses := true, apart := false }
def TidyTellsSaid : Prop := tidyTellsRow.holds Try.pinned (OpenSpec.ofChange tidyTellsSpec)

/-- ITS FALSE NEIGHBOUR: 'it returns false'. Refute it at one input. -/
def tidyTellsWrong : ChangeSpec := { name := "tidyTells", fn := fun _ => fun
  | [d1, d2] => { results := [.lit (.bool false)], args := [d1, d2] }
  | _ => none }
def TidyTellsWrongFalsely : Prop := tidyTellsRow.holds Try.pinned (OpenSpec.ofChange tidyTellsWrong)

/-- 'backstitchlaw17.TidyPacks': WHATEVER THE INPUT: true; the input reads as it did. -/
def tidyPacksSpec : ChangeSpec := { name := "tidyPacks", fn := fun _ => fun
  | [d1, d2] => { results := [.lit (.bool true)], args := [d1, d2] }
  | _ => none }
def tidyPacksRow : OpenClaim := { program := "ythncfoompoheoaa", sum := "75185003d5b25d4b49d1cee7ad4c7091f9c45a4423d8b56b6a4e68c76b3ac62c", func := "backstitch/backstitchlaw17.TidyPacks", spec := "tidyPacks", unfollowed := true, recurses := true, apart := false }
def TidyPacksSaid : Prop := tidyPacksRow.holds Try.pinned (OpenSpec.ofChange tidyPacksSpec)

/-- ITS FALSE NEIGHBOUR: 'it returns false'. Refute it at one input. -/
def tidyPacksWrong : ChangeSpec := { name := "tidyPacks", fn := fun _ => fun
  | [d1, d2] => { results := [.lit (.bool false)], args := [d1, d2] }
  | _ => none }
def TidyPacksWrongFalsely : Prop := tidyPacksRow.holds Try.pinned (OpenSpec.ofChange tidyPacksWrong)

/-- 'backstitchlaw22.SweepJoined': WHATEVER THE INPUT: true; the input reads as it did. -/
def sweepJoinedSpec : ChangeSpec := { name := "sweepJoined", fn := fun _ => fun
  | [d1, d2, d3, d4, d5] => { results := [.lit (.bool true)], args := [d1, d2, d3, d4, d5] }
  | _ => none }
def sweepJoinedRow : OpenClaim := { program := "ythncfoompoheoaa", sum := "75185003d5b25d4b49d1cee7ad4c7091f9c45a4423d8b56b6a4e68c76b3ac62c", func := "backstitch/backstitchlaw22.SweepJoined", spec := "sweepJoined", unfollowed := true, recurses := true, apart := false }
def SweepJoinedSaid : Prop := sweepJoinedRow.holds Try.pinned (OpenSpec.ofChange sweepJoinedSpec)

/-- ITS FALSE NEIGHBOUR: 'it returns false'. Refute it at one input. -/
def sweepJoinedWrong : ChangeSpec := { name := "sweepJoined", fn := fun _ => fun
  | [d1, d2, d3, d4, d5] => { results := [.lit (.bool false)], args := [d1, d2, d3, d4, d5] }
  | _ => none }
def SweepJoinedWrongFalsely : Prop := sweepJoinedRow.holds Try.pinned (OpenSpec.ofChange sweepJoinedWrong)

/-- 'backstitchlaw14.JetChain': WHATEVER THE INPUT: true; the input reads as it did. -/
def jetChainSpec : ChangeSpec := { name := "jetChain", fn := fun _ => fun
  | [d1, d2, d3, d4] => { results := [.lit (.bool true)], args := [d1, d2, d3, d4] }
  | _ => none }
def jetChainRow : OpenClaim := { program := "ythncfoompoheoaa", sum := "75185003d5b25d4b49d1cee7ad4c7091f9c45a4423d8b56b6a4e68c76b3ac62c", func := "backstitch/backstitchlaw14.JetChain", spec := "jetChain", unfollowed := true, recurses := true, apart := false }
def JetChainSaid : Prop := jetChainRow.holds Try.pinned (OpenSpec.ofChange jetChainSpec)

/-- ITS FALSE NEIGHBOUR: 'it returns false'. Refute it at one input. -/
def jetChainWrong : ChangeSpec := { name := "jetChain", fn := fun _ => fun
  | [d1, d2, d3, d4] => { results := [.lit (.bool false)], args := [d1, d2, d3, d4] }
  | _ => none }
def JetChainWrongFalsely : Prop := jetChainRow.holds Try.pinned (OpenSpec.ofChange jetChainWrong)

/-- 'backstitchlaw14.JetValues': WHATEVER THE INPUT: true; the input reads as it did. -/
def jetValuesSpec : ChangeSpec := { name := "jetValues", fn := fun _ => fun
  | [d1, d2, d3] => { results := [.lit (.bool true)], args := [d1, d2, d3] }
  | _ => none }
def jetValuesRow : OpenClaim := { program := "ythncfoompoheoaa", sum := "75185003d5b25d4b49d1cee7ad4c7091f9c45a4423d8b56b6a4e68c76b3ac62c", func := "backstitch/backstitchlaw14.JetValues", spec := "jetValues", unfollowed := true, recurses := true, apart := false }
def JetValuesSaid : Prop := jetValuesRow.holds Try.pinned (OpenSpec.ofChange jetValuesSpec)

/-- ITS FALSE NEIGHBOUR: 'it returns false'. Refute it at one input. -/
def jetValuesWrong : ChangeSpec := { name := "jetValues", fn := fun _ => fun
  | [d1, d2, d3] => { results := [.lit (.bool false)], args := [d1, d2, d3] }
  | _ => none }
def JetValuesWrongFalsely : Prop := jetValuesRow.holds Try.pinned (OpenSpec.ofChange jetValuesWrong)

/-- 'backstitchlaw17.TidyMeans': WHATEVER THE INPUT: true; the input reads as it did. -/
def tidyMeansSpec : ChangeSpec := { name := "tidyMeans", fn := fun _ => fun
  | [d1, d2, d3] => { results := [.lit (.bool true)], args := [d1, d2, d3] }
  | _ => none }
def tidyMeansRow : OpenClaim := { program := "ythncfoompoheoaa", sum := "75185003d5b25d4b49d1cee7ad4c7091f9c45a4423d8b56b6a4e68c76b3ac62c", func := "backstitch/backstitchlaw17.TidyMeans", spec := "tidyMeans", unfollowed := true, recurses := true, apart := false }
def TidyMeansSaid : Prop := tidyMeansRow.holds Try.pinned (OpenSpec.ofChange tidyMeansSpec)

/-- ITS FALSE NEIGHBOUR: 'it returns false'. Refute it at one input. -/
def tidyMeansWrong : ChangeSpec := { name := "tidyMeans", fn := fun _ => fun
  | [d1, d2, d3] => { results := [.lit (.bool false)], args := [d1, d2, d3] }
  | _ => none }
def TidyMeansWrongFalsely : Prop := tidyMeansRow.holds Try.pinned (OpenSpec.ofChange tidyMeansWrong)

/-- 'backstitchlaw17.TidyPacked': WHATEVER THE INPUT: true; the input reads as it did. -/
def tidyPackedSpec : ChangeSpec := { name := "tidyPacked", fn := fun _ => fun
  | [d1, d2, d3] => { results := [.lit (.bool true)], args := [d1, d2, d3] }
  | _ => none }
def tidyPackedRow : OpenClaim := { program := "ythncfoompoheoaa", sum := "75185003d5b25d4b49d1cee7ad4c7091f9c45a4423d8b56b6a4e68c76b3ac62c", func := "backstitch/backstitchlaw17.TidyPacked", spec := "tidyPacked", unfollowed := true, recurses := true, apart := false }
def TidyPackedSaid : Prop := tidyPackedRow.holds Try.pinned (OpenSpec.ofChange tidyPackedSpec)

/-- ITS FALSE NEIGHBOUR: 'it returns false'. Refute it at one input. -/
def tidyPackedWrong : ChangeSpec := { name := "tidyPacked", fn := fun _ => fun
  | [d1, d2, d3] => { results := [.lit (.bool false)], args := [d1, d2, d3] }
  | _ => none }
def TidyPackedWrongFalsely : Prop := tidyPackedRow.holds Try.pinned (OpenSpec.ofChange tidyPackedWrong)

/- THE SECOND FORM. 'bulk': how many values and letters a reading holds, each counted each time it is reached (what is shared counts as often as it is met; a slice's spare places count too). A statement '..UptoSaid' is the law's where the arguments, and the package variables that the reading takes, are together of bulk at most 1048576: NARROWER than '..Said'. Prove '..Said' where nothing that the law and all that it calls make is longer than what came in: it says more and counts as full. Else prove '..UptoSaid'. A law counts once. -/
mutual
def uptoBulk {H : Type} : DataW H → Nat
  | .lit (.string bytes) => bytes.length + 1
  | .lit _ => 1
  | .nil => 1
  | .ptr d => uptoBulk d + 1
  | .slice elems spare => uptoBulkAll elems + uptoBulkAll spare + 1
  | .agg parts => uptoBulkAll parts + 1
  | .iface _ d => uptoBulk d + 1
  | .map entries => uptoBulkEntries entries + 1
  | .held _ => 1
def uptoBulkAll {H : Type} : List (DataW H) → Nat
  | [] => 0
  | d :: r => uptoBulk d + uptoBulkAll r
def uptoBulkEntries {H : Type} : List (Lit × DataW H) → Nat
  | [] => 0
  | x :: r => uptoBulkEntry x + uptoBulkEntries r
def uptoBulkEntry {H : Type} : Lit × DataW H → Nat
  | (.string bytes, d) => bytes.length + uptoBulk d + 1
  | (_, d) => uptoBulk d + 1
 end
def uptoSmall : (H : Type) → List (DataW H) → Bool := fun _ ds => decide (uptoBulkAll ds ≤ 1048576)
def OpenSpec.upto (s : _root_.Go.ChangeSpec) : _root_.Go.OpenSpec := { _root_.Go.OpenSpec.ofChange s with cond := some uptoSmall }

/-- 'backstitchlaw20.SegmentTells', WHERE WHAT IT READS IS OF BULK AT MOST 1048576: true; the input reads as it did. -/
def segmentTellsUptoRow : OpenClaim := { program := "ythncfoompoheoaa", sum := "75185003d5b25d4b49d1cee7ad4c7091f9c45a4423d8b56b6a4e68c76b3ac62c", func := "backstitch/backstitchlaw20.SegmentTells", spec := "segmentTells", unfollowed := true, recurses := true, apart := false, narrowed := true }
def SegmentTellsUptoSaid : Prop := segmentTellsUptoRow.holds Try.pinned (OpenSpec.upto segmentTellsSpec)

/-- 'backstitchlaw22.SweepDuals', WHERE WHAT IT READS IS OF BULK AT MOST 1048576: true; the input reads as it did. -/
def sweepDualsUptoRow : OpenClaim := { program := "ythncfoompoheoaa", sum := "75185003d5b25d4b49d1cee7ad4c7091f9c45a4423d8b56b6a4e68c76b3ac62c", func := "backstitch/backstitchlaw22.SweepDuals", spec := "sweepDuals", unfollowed := true, recurses := true, apart := false, narrowed := true }
def SweepDualsUptoSaid : Prop := sweepDualsUptoRow.holds Try.pinned (OpenSpec.upto sweepDualsSpec)

/-- 'backstitchlaw14.JetRuns', WHERE WHAT IT READS IS OF BULK AT MOST 1048576: true; the input reads as it did. -/
def jetRunsUptoRow : OpenClaim := { program := "ythncfoompoheoaa", sum := "75185003d5b25d4b49d1cee7ad4c7091f9c45a4423d8b56b6a4e68c76b3ac62c", func := "backstitch/backstitchlaw14.JetRuns", spec := "jetRuns", unfollowed := true, recurses := true, apart := false, narrowed := true }
def JetRunsUptoSaid : Prop := jetRunsUptoRow.holds Try.pinned (OpenSpec.upto jetRunsSpec)

/-- 'backstitchlaw14.JetDerives', WHERE WHAT IT READS IS OF BULK AT MOST 1048576: true; the input reads as it did. -/
def jetDerivesUptoRow : OpenClaim := { program := "ythncfoompoheoaa", sum := "75185003d5b25d4b49d1cee7ad4c7091f9c45a4423d8b56b6a4e68c76b3ac62c", func := "backstitch/backstitchlaw14.JetDerives", spec := "jetDerives", unfollowed := true, recurses := true, apart := false, narrowed := true }
def JetDerivesUptoSaid : Prop := jetDerivesUptoRow.holds Try.pinned (OpenSpec.upto jetDerivesSpec)

/-- 'backstitchlaw21.TapeWas', WHERE WHAT IT READS IS OF BULK AT MOST 1048576: true; the input reads as it did. -/
def tapeWasUptoRow : OpenClaim := { program := "ythncfoompoheoaa", sum := "75185003d5b25d4b49d1cee7ad4c7091f9c45a4423d8b56b6a4e68c76b3ac62c", func := "backstitch/backstitchlaw21.TapeWas", spec := "tapeWas", unfollowed := true, recurses := true, apart := false, narrowed := true }
def TapeWasUptoSaid : Prop := tapeWasUptoRow.holds Try.pinned (OpenSpec.upto tapeWasSpec)

/-- 'backstitchlaw17.TidyTells', WHERE WHAT IT READS IS OF BULK AT MOST 1048576: true; the input reads as it did. -/
def tidyTellsUptoRow : OpenClaim := { program := "ythncfoompoheoaa", sum := "75185003d5b25d4b49d1cee7ad4c7091f9c45a4423d8b56b6a4e68c76b3ac62c", func := "backstitch/backstitchlaw17.TidyTells", spec := "tidyTells", unfollowed := true, recurses := true, apart := false, narrowed := true }
def TidyTellsUptoSaid : Prop := tidyTellsUptoRow.holds Try.pinned (OpenSpec.upto tidyTellsSpec)

/-- 'backstitchlaw17.TidyPacks', WHERE WHAT IT READS IS OF BULK AT MOST 1048576: true; the input reads as it did. -/
def tidyPacksUptoRow : OpenClaim := { program := "ythncfoompoheoaa", sum := "75185003d5b25d4b49d1cee7ad4c7091f9c45a4423d8b56b6a4e68c76b3ac62c", func := "backstitch/backstitchlaw17.TidyPacks", spec := "tidyPacks", unfollowed := true, recurses := true, apart := false, narrowed := true }
def TidyPacksUptoSaid : Prop := tidyPacksUptoRow.holds Try.pinned (OpenSpec.upto tidyPacksSpec)

/-- 'backstitchlaw22.SweepJoined', WHERE WHAT IT READS IS OF BULK AT MOST 1048576: true; the input reads as it did. -/
def sweepJoinedUptoRow : OpenClaim := { program := "ythncfoompoheoaa", sum := "75185003d5b25d4b49d1cee7ad4c7091f9c45a4423d8b56b6a4e68c76b3ac62c", func := "backstitch/backstitchlaw22.SweepJoined", spec := "sweepJoined", unfollowed := true, recurses := true, apart := false, narrowed := true }
def SweepJoinedUptoSaid : Prop := sweepJoinedUptoRow.holds Try.pinned (OpenSpec.upto sweepJoinedSpec)

/-- 'backstitchlaw14.JetChain', WHERE WHAT IT READS IS OF BULK AT MOST 1048576: true; the input reads as it did. -/
def jetChainUptoRow : OpenClaim := { program := "ythncfoompoheoaa", sum := "75185003d5b25d4b49d1cee7ad4c7091f9c45a4423d8b56b6a4e68c76b3ac62c", func := "backstitch/backstitchlaw14.JetChain", spec := "jetChain", unfollowed := true, recurses := true, apart := false, narrowed := true }
def JetChainUptoSaid : Prop := jetChainUptoRow.holds Try.pinned (OpenSpec.upto jetChainSpec)

/-- 'backstitchlaw14.JetValues', WHERE WHAT IT READS IS OF BULK AT MOST 1048576: true; the input reads as it did. -/
def jetValuesUptoRow : OpenClaim := { program := "ythncfoompoheoaa", sum := "75185003d5b25d4b49d1cee7ad4c7091f9c45a4423d8b56b6a4e68c76b3ac62c", func := "backstitch/backstitchlaw14.JetValues", spec := "jetValues", unfollowed := true, recurses := true, apart := false, narrowed := true }
def JetValuesUptoSaid : Prop := jetValuesUptoRow.holds Try.pinned (OpenSpec.upto jetValuesSpec)

/-- 'backstitchlaw17.TidyMeans', WHERE WHAT IT READS IS OF BULK AT MOST 1048576: true; the input reads as it did. -/
def tidyMeansUptoRow : OpenClaim := { program := "ythncfoompoheoaa", sum := "75185003d5b25d4b49d1cee7ad4c7091f9c45a4423d8b56b6a4e68c76b3ac62c", func := "backstitch/backstitchlaw17.TidyMeans", spec := "tidyMeans", unfollowed := true, recurses := true, apart := false, narrowed := true }
def TidyMeansUptoSaid : Prop := tidyMeansUptoRow.holds Try.pinned (OpenSpec.upto tidyMeansSpec)

/-- 'backstitchlaw17.TidyPacked', WHERE WHAT IT READS IS OF BULK AT MOST 1048576: true; the input reads as it did. -/
def tidyPackedUptoRow : OpenClaim := { program := "ythncfoompoheoaa", sum := "75185003d5b25d4b49d1cee7ad4c7091f9c45a4423d8b56b6a4e68c76b3ac62c", func := "backstitch/backstitchlaw17.TidyPacked", spec := "tidyPacked", unfollowed := true, recurses := true, apart := false, narrowed := true }
def TidyPackedUptoSaid : Prop := tidyPackedUptoRow.holds Try.pinned (OpenSpec.upto tidyPackedSpec)

end Rows
end Go.Proofs.Ythncfoompoheoaa
