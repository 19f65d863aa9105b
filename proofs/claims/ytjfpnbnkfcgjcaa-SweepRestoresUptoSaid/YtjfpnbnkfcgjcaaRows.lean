/-
  No cell of these rows narrows 'for every input' (looked for: loops, veiled, ifaces, maps, wideKeys, modest, calm, conditions, laid).
  DERIVED. THE GIVEN ROWS OF THIS SEAT. 10 by the template 'for every input the law returns true; each argument reads behind the call as it read before'; 0 by the template 'total and deterministic' (their statements: YtjfpnbnkfcgjcaaTotals.lean).
  GIVEN WITH THE SEED: the statements are not yours to turn. If you find one false, say at which input.
  Laid BY PROGRAM, IN A SANDBOX (cutbox-rows.mjs): the forced cells as the released guide's own fill.sh prints them over the translation 6261da6cba18982f… (all of the seat's roots in one cut). By AI agents, Wed Nov 11 2026. No macro, syntax, notation, axiom, sorry.
-/
import Derived.Test.YtjfpnbnkfcgjcaaChecked
import GoSem.Claim
import GoSem.ClaimJoined
import GoSem.ClaimMapViews
import Derived.JoinedTies
import Derived.KernelRfl
namespace Go.Proofs.Ytjfpnbnkfcgjcaa
/- THE CELL 'sum', in the pinned program and in every row, IS THE sha256 OF THE DUMP (.gsa) THAT YtjfpnbnkfcgjcaaProg.lean LOADS. Nothing in Lean hashes anything: it is a label: what it is worth is what the hold of that sum in a sandbox is worth. -/
noncomputable def Try.pinned : Pinned := { name := "ytjfpnbnkfcgjcaa", sum := "6261da6cba18982faeb5c177e6860541eb00f297454fc11765b4f0132631786a", checked := Try.checked }
namespace Rows
def none {H : Type} : Left H := { results := [], args := [] }

/-- 'backstitchlaw22.SweepDuals': WHATEVER THE INPUT: true; the input reads as it did. -/
def sweepDualsSpec : ChangeSpec := { name := "sweepDuals", fn := fun _ => fun
  | [d1, d2, d3] => { results := [.lit (.bool true)], args := [d1, d2, d3] }
  | _ => none }
def sweepDualsRow : OpenClaim := { program := "ytjfpnbnkfcgjcaa", sum := "6261da6cba18982faeb5c177e6860541eb00f297454fc11765b4f0132631786a", func := "backstitch/backstitchlaw22.SweepDuals", spec := "sweepDuals", unfollowed := true, recurses := true, apart := false }
def SweepDualsSaid : Prop := sweepDualsRow.holds Try.pinned (OpenSpec.ofChange sweepDualsSpec)

/-- ITS FALSE NEIGHBOUR: 'it returns false'. Refute it at one input. -/
def sweepDualsWrong : ChangeSpec := { name := "sweepDuals", fn := fun _ => fun
  | [d1, d2, d3] => { results := [.lit (.bool false)], args := [d1, d2, d3] }
  | _ => none }
def SweepDualsWrongFalsely : Prop := sweepDualsRow.holds Try.pinned (OpenSpec.ofChange sweepDualsWrong)

/-- 'backstitchlaw21.TapeWas': WHATEVER THE INPUT: true; the input reads as it did. -/
def tapeWasSpec : ChangeSpec := { name := "tapeWas", fn := fun _ => fun
  | [d1, d2, d3, d4] => { results := [.lit (.bool true)], args := [d1, d2, d3, d4] }
  | _ => none }
def tapeWasRow : OpenClaim := { program := "ytjfpnbnkfcgjcaa", sum := "6261da6cba18982faeb5c177e6860541eb00f297454fc11765b4f0132631786a", func := "backstitch/backstitchlaw21.TapeWas", spec := "tapeWas", unfollowed := true, recurses := true, apart := false }
def TapeWasSaid : Prop := tapeWasRow.holds Try.pinned (OpenSpec.ofChange tapeWasSpec)

/-- ITS FALSE NEIGHBOUR: 'it returns false'. Refute it at one input. -/
def tapeWasWrong : ChangeSpec := { name := "tapeWas", fn := fun _ => fun
  | [d1, d2, d3, d4] => { results := [.lit (.bool false)], args := [d1, d2, d3, d4] }
  | _ => none }
def TapeWasWrongFalsely : Prop := tapeWasRow.holds Try.pinned (OpenSpec.ofChange tapeWasWrong)

/-- 'backstitchlaw22.SweepBacks': WHATEVER THE INPUT: true; the input reads as it did. -/
def sweepBacksSpec : ChangeSpec := { name := "sweepBacks", fn := fun _ => fun
  | [d1, d2, d3, d4] => { results := [.lit (.bool true)], args := [d1, d2, d3, d4] }
  | _ => none }
def sweepBacksRow : OpenClaim := { program := "ytjfpnbnkfcgjcaa", sum := "6261da6cba18982faeb5c177e6860541eb00f297454fc11765b4f0132631786a", func := "backstitch/backstitchlaw22.SweepBacks", spec := "sweepBacks", unfollowed := true, recurses := true, apart := false }
def SweepBacksSaid : Prop := sweepBacksRow.holds Try.pinned (OpenSpec.ofChange sweepBacksSpec)

/-- ITS FALSE NEIGHBOUR: 'it returns false'. Refute it at one input. -/
def sweepBacksWrong : ChangeSpec := { name := "sweepBacks", fn := fun _ => fun
  | [d1, d2, d3, d4] => { results := [.lit (.bool false)], args := [d1, d2, d3, d4] }
  | _ => none }
def SweepBacksWrongFalsely : Prop := sweepBacksRow.holds Try.pinned (OpenSpec.ofChange sweepBacksWrong)

/-- 'backstitchlaw22.SweepPulls': WHATEVER THE INPUT: true; the input reads as it did. -/
def sweepPullsSpec : ChangeSpec := { name := "sweepPulls", fn := fun _ => fun
  | [d1, d2, d3] => { results := [.lit (.bool true)], args := [d1, d2, d3] }
  | _ => none }
def sweepPullsRow : OpenClaim := { program := "ytjfpnbnkfcgjcaa", sum := "6261da6cba18982faeb5c177e6860541eb00f297454fc11765b4f0132631786a", func := "backstitch/backstitchlaw22.SweepPulls", spec := "sweepPulls", unfollowed := true, recurses := true, apart := false }
def SweepPullsSaid : Prop := sweepPullsRow.holds Try.pinned (OpenSpec.ofChange sweepPullsSpec)

/-- ITS FALSE NEIGHBOUR: 'it returns false'. Refute it at one input. -/
def sweepPullsWrong : ChangeSpec := { name := "sweepPulls", fn := fun _ => fun
  | [d1, d2, d3] => { results := [.lit (.bool false)], args := [d1, d2, d3] }
  | _ => none }
def SweepPullsWrongFalsely : Prop := sweepPullsRow.holds Try.pinned (OpenSpec.ofChange sweepPullsWrong)

/-- 'backstitchlaw22.SweepRestores': WHATEVER THE INPUT: true; the input reads as it did. -/
def sweepRestoresSpec : ChangeSpec := { name := "sweepRestores", fn := fun _ => fun
  | [d1, d2, d3, d4] => { results := [.lit (.bool true)], args := [d1, d2, d3, d4] }
  | _ => none }
def sweepRestoresRow : OpenClaim := { program := "ytjfpnbnkfcgjcaa", sum := "6261da6cba18982faeb5c177e6860541eb00f297454fc11765b4f0132631786a", func := "backstitch/backstitchlaw22.SweepRestores", spec := "sweepRestores", unfollowed := true, recurses := true, apart := false }
def SweepRestoresSaid : Prop := sweepRestoresRow.holds Try.pinned (OpenSpec.ofChange sweepRestoresSpec)

/-- ITS FALSE NEIGHBOUR: 'it returns false'. Refute it at one input. -/
def sweepRestoresWrong : ChangeSpec := { name := "sweepRestores", fn := fun _ => fun
  | [d1, d2, d3, d4] => { results := [.lit (.bool false)], args := [d1, d2, d3, d4] }
  | _ => none }
def SweepRestoresWrongFalsely : Prop := sweepRestoresRow.holds Try.pinned (OpenSpec.ofChange sweepRestoresWrong)

/-- 'backstitchlaw22.SweepJoined': WHATEVER THE INPUT: true; the input reads as it did. -/
def sweepJoinedSpec : ChangeSpec := { name := "sweepJoined", fn := fun _ => fun
  | [d1, d2, d3, d4, d5] => { results := [.lit (.bool true)], args := [d1, d2, d3, d4, d5] }
  | _ => none }
def sweepJoinedRow : OpenClaim := { program := "ytjfpnbnkfcgjcaa", sum := "6261da6cba18982faeb5c177e6860541eb00f297454fc11765b4f0132631786a", func := "backstitch/backstitchlaw22.SweepJoined", spec := "sweepJoined", unfollowed := true, recurses := true, apart := false }
def SweepJoinedSaid : Prop := sweepJoinedRow.holds Try.pinned (OpenSpec.ofChange sweepJoinedSpec)

/-- ITS FALSE NEIGHBOUR: 'it returns false'. Refute it at one input. -/
def sweepJoinedWrong : ChangeSpec := { name := "sweepJoined", fn := fun _ => fun
  | [d1, d2, d3, d4, d5] => { results := [.lit (.bool false)], args := [d1, d2, d3, d4, d5] }
  | _ => none }
def SweepJoinedWrongFalsely : Prop := sweepJoinedRow.holds Try.pinned (OpenSpec.ofChange sweepJoinedWrong)

/-- 'backstitchlaw21.TapeRecords': WHATEVER THE INPUT: true; the input reads as it did. -/
def tapeRecordsSpec : ChangeSpec := { name := "tapeRecords", fn := fun _ => fun
  | [d1, d2, d3] => { results := [.lit (.bool true)], args := [d1, d2, d3] }
  | _ => none }
def tapeRecordsRow : OpenClaim := { program := "ytjfpnbnkfcgjcaa", sum := "6261da6cba18982faeb5c177e6860541eb00f297454fc11765b4f0132631786a", func := "backstitch/backstitchlaw21.TapeRecords", spec := "tapeRecords", unfollowed := true, recurses := true, apart := false }
def TapeRecordsSaid : Prop := tapeRecordsRow.holds Try.pinned (OpenSpec.ofChange tapeRecordsSpec)

/-- ITS FALSE NEIGHBOUR: 'it returns false'. Refute it at one input. -/
def tapeRecordsWrong : ChangeSpec := { name := "tapeRecords", fn := fun _ => fun
  | [d1, d2, d3] => { results := [.lit (.bool false)], args := [d1, d2, d3] }
  | _ => none }
def TapeRecordsWrongFalsely : Prop := tapeRecordsRow.holds Try.pinned (OpenSpec.ofChange tapeRecordsWrong)

/-- 'backstitchlaw21.TapeSegments': WHATEVER THE INPUT: true; the input reads as it did. -/
def tapeSegmentsSpec : ChangeSpec := { name := "tapeSegments", fn := fun _ => fun
  | [d1, d2, d3] => { results := [.lit (.bool true)], args := [d1, d2, d3] }
  | _ => none }
def tapeSegmentsRow : OpenClaim := { program := "ytjfpnbnkfcgjcaa", sum := "6261da6cba18982faeb5c177e6860541eb00f297454fc11765b4f0132631786a", func := "backstitch/backstitchlaw21.TapeSegments", spec := "tapeSegments", unfollowed := true, recurses := true, apart := false }
def TapeSegmentsSaid : Prop := tapeSegmentsRow.holds Try.pinned (OpenSpec.ofChange tapeSegmentsSpec)

/-- ITS FALSE NEIGHBOUR: 'it returns false'. Refute it at one input. -/
def tapeSegmentsWrong : ChangeSpec := { name := "tapeSegments", fn := fun _ => fun
  | [d1, d2, d3] => { results := [.lit (.bool false)], args := [d1, d2, d3] }
  | _ => none }
def TapeSegmentsWrongFalsely : Prop := tapeSegmentsRow.holds Try.pinned (OpenSpec.ofChange tapeSegmentsWrong)

/-- 'backstitchlaw21.TapeBack': WHATEVER THE INPUT: true; the input reads as it did. -/
def tapeBackSpec : ChangeSpec := { name := "tapeBack", fn := fun _ => fun
  | [d1, d2, d3] => { results := [.lit (.bool true)], args := [d1, d2, d3] }
  | _ => none }
def tapeBackRow : OpenClaim := { program := "ytjfpnbnkfcgjcaa", sum := "6261da6cba18982faeb5c177e6860541eb00f297454fc11765b4f0132631786a", func := "backstitch/backstitchlaw21.TapeBack", spec := "tapeBack", unfollowed := true, recurses := true, apart := false }
def TapeBackSaid : Prop := tapeBackRow.holds Try.pinned (OpenSpec.ofChange tapeBackSpec)

/-- ITS FALSE NEIGHBOUR: 'it returns false'. Refute it at one input. -/
def tapeBackWrong : ChangeSpec := { name := "tapeBack", fn := fun _ => fun
  | [d1, d2, d3] => { results := [.lit (.bool false)], args := [d1, d2, d3] }
  | _ => none }
def TapeBackWrongFalsely : Prop := tapeBackRow.holds Try.pinned (OpenSpec.ofChange tapeBackWrong)

/-- 'backstitchlaw23.ChainNil': WHATEVER THE INPUT: true; the input reads as it did. -/
def chainNilSpec : ChangeSpec := { name := "chainNil", fn := fun _ => fun
  | [d1, d2] => { results := [.lit (.bool true)], args := [d1, d2] }
  | _ => none }
def chainNilRow : OpenClaim := { program := "ytjfpnbnkfcgjcaa", sum := "6261da6cba18982faeb5c177e6860541eb00f297454fc11765b4f0132631786a", func := "backstitch/backstitchlaw23.ChainNil", spec := "chainNil", unfollowed := true, recurses := true, apart := false }
def ChainNilSaid : Prop := chainNilRow.holds Try.pinned (OpenSpec.ofChange chainNilSpec)

/-- ITS FALSE NEIGHBOUR: 'it returns false'. Refute it at one input. -/
def chainNilWrong : ChangeSpec := { name := "chainNil", fn := fun _ => fun
  | [d1, d2] => { results := [.lit (.bool false)], args := [d1, d2] }
  | _ => none }
def ChainNilWrongFalsely : Prop := chainNilRow.holds Try.pinned (OpenSpec.ofChange chainNilWrong)

/- THE SECOND FORM. 'bulk': how many values and letters a reading holds, each counted each time it is reached (what is shared counts as often as it is met; a slice's spare places count too). A statement '..UptoSaid' is the law's where the arguments, and the package variables that the reading takes, are together of bulk at most 1048576: NARROWER than '..Said'. Prove '..Said' where nothing that the law and all that it calls make is longer than what came in: it says more and counts as full. Else prove '..UptoSaid'. A law counts once. -/
mutual
def uptoBulk {H : Type} : DataW H → Nat
  | .lit (.string bytes) => bytes.length + 1
  | .lit _ => 1
  | .nil => 1
  | .ptr d => uptoBulk d + 1
  | .slice elems spare => uptoBulkAll elems + uptoBulkAll spare + 1
  | .agg parts => uptoBulkAll parts + 1
  | .iface _ d => uptoBulk d + 1
  | .map entries => uptoBulkEntries entries + 1
  | .held _ => 1
def uptoBulkAll {H : Type} : List (DataW H) → Nat
  | [] => 0
  | d :: r => uptoBulk d + uptoBulkAll r
def uptoBulkEntries {H : Type} : List (Lit × DataW H) → Nat
  | [] => 0
  | x :: r => uptoBulkEntry x + uptoBulkEntries r
def uptoBulkEntry {H : Type} : Lit × DataW H → Nat
  | (.string bytes, d) => bytes.length + uptoBulk d + 1
  | (_, d) => uptoBulk d + 1
 end
def uptoSmall : (H : Type) → List (DataW H) → Bool := fun _ ds => decide (uptoBulkAll ds ≤ 1048576)
def OpenSpec.upto (s : _root_.Go.ChangeSpec) : _root_.Go.OpenSpec := { _root_.Go.OpenSpec.ofChange s with cond := some uptoSmall }

/-- 'backstitchlaw22.SweepDuals', WHERE WHAT IT READS IS OF BULK AT MOST 1048576: true; the input reads as it did. -/
def sweepDualsUptoRow : OpenClaim := { program := "ytjfpnbnkfcgjcaa", sum := "6261da6cba18982faeb5c177e6860541eb00f297454fc11765b4f0132631786a", func := "backstitch/backstitchlaw22.SweepDuals", spec := "sweepDuals", unfollowed := true, recurses := true, apart := false, narrowed := true }
def SweepDualsUptoSaid : Prop := sweepDualsUptoRow.holds Try.pinned (OpenSpec.upto sweepDualsSpec)

/-- 'backstitchlaw21.TapeWas', WHERE WHAT IT READS IS OF BULK AT MOST 1048576: true; the input reads as it did. -/
def tapeWasUptoRow : OpenClaim := { program := "ytjfpnbnkfcgjcaa", sum := "6261da6cba18982faeb5c177e6860541eb00f297454fc11765b4f0132631786a", func := "backstitch/backstitchlaw21.TapeWas", spec := "tapeWas", unfollowed := true, recurses := true, apart := false, narrowed := true }
def TapeWasUptoSaid : Prop := tapeWasUptoRow.holds Try.pinned (OpenSpec.upto tapeWasSpec)

/-- 'backstitchlaw22.SweepBacks', WHERE WHAT IT READS IS OF BULK AT MOST 1048576: true; the input reads as it did. -/
def sweepBacksUptoRow : OpenClaim := { program := "ytjfpnbnkfcgjcaa", sum := "6261da6cba18982faeb5c177e6860541eb00f297454fc11765b4f0132631786a", func := "backstitch/backstitchlaw22.SweepBacks", spec := "sweepBacks", unfollowed := true, recurses := true, apart := false, narrowed := true }
def SweepBacksUptoSaid : Prop := sweepBacksUptoRow.holds Try.pinned (OpenSpec.upto sweepBacksSpec)

/-- 'backstitchlaw22.SweepPulls', WHERE WHAT IT READS IS OF BULK AT MOST 1048576: true; the input reads as it did. -/
def sweepPullsUptoRow : OpenClaim := { program := "ytjfpnbnkfcgjcaa", sum := "6261da6cba18982faeb5c177e6860541eb00f297454fc11765b4f0132631786a", func := "backstitch/backstitchlaw22.SweepPulls", spec := "sweepPulls", unfollowed := true, recurses := true, apart := false, narrowed := true }
def SweepPullsUptoSaid : Prop := sweepPullsUptoRow.holds Try.pinned (OpenSpec.upto sweepPullsSpec)

/-- 'backstitchlaw22.SweepRestores', WHERE WHAT IT READS IS OF BULK AT MOST 1048576: true; the input reads as it did. -/
def sweepRestoresUptoRow : OpenClaim := { program := "ytjfpnbnkfcgjcaa", sum := "6261da6cba18982faeb5c177e6860541eb00f297454fc11765b4f0132631786a", func := "backstitch/backstitchlaw22.SweepRestores", spec := "sweepRestores", unfollowed := true, recurses := true, apart := false, narrowed := true }
def SweepRestoresUptoSaid : Prop := sweepRestoresUptoRow.holds Try.pinned (OpenSpec.upto sweepRestoresSpec)

/-- 'backstitchlaw22.SweepJoined', WHERE WHAT IT READS IS OF BULK AT MOST 1048576: true; the input reads as it did. -/
def sweepJoinedUptoRow : OpenClaim := { program := "ytjfpnbnkfcgjcaa", sum := "6261da6cba18982faeb5c177e6860541eb00f297454fc11765b4f0132631786a", func := "backstitch/backstitchlaw22.SweepJoined", spec := "sweepJoined", unfollowed := true, recurses := true, apart := false, narrowed := true }
def SweepJoinedUptoSaid : Prop := sweepJoinedUptoRow.holds Try.pinned (OpenSpec.upto sweepJoinedSpec)

/-- 'backstitchlaw21.TapeRecords', WHERE WHAT IT READS IS OF BULK AT MOST 1048576: true; the input reads as it did. -/
def tapeRecordsUptoRow : OpenClaim := { program := "ytjfpnbnkfcgjcaa", sum := "6261da6cba18982faeb5c177e6860541eb00f297454fc11765b4f0132631786a", func := "backstitch/backstitchlaw21.TapeRecords", spec := "tapeRecords", unfollowed := true, recurses := true, apart := false, narrowed := true }
def TapeRecordsUptoSaid : Prop := tapeRecordsUptoRow.holds Try.pinned (OpenSpec.upto tapeRecordsSpec)

/-- 'backstitchlaw21.TapeSegments', WHERE WHAT IT READS IS OF BULK AT MOST 1048576: true; the input reads as it did. -/
def tapeSegmentsUptoRow : OpenClaim := { program := "ytjfpnbnkfcgjcaa", sum := "6261da6cba18982faeb5c177e6860541eb00f297454fc11765b4f0132631786a", func := "backstitch/backstitchlaw21.TapeSegments", spec := "tapeSegments", unfollowed := true, recurses := true, apart := false, narrowed := true }
def TapeSegmentsUptoSaid : Prop := tapeSegmentsUptoRow.holds Try.pinned (OpenSpec.upto tapeSegmentsSpec)

/-- 'backstitchlaw21.TapeBack', WHERE WHAT IT READS IS OF BULK AT MOST 1048576: true; the input reads as it did. -/
def tapeBackUptoRow : OpenClaim := { program := "ytjfpnbnkfcgjcaa", sum := "6261da6cba18982faeb5c177e6860541eb00f297454fc11765b4f0132631786a", func := "backstitch/backstitchlaw21.TapeBack", spec := "tapeBack", unfollowed := true, recurses := true, apart := false, narrowed := true }
def TapeBackUptoSaid : Prop := tapeBackUptoRow.holds Try.pinned (OpenSpec.upto tapeBackSpec)

/-- 'backstitchlaw23.ChainNil', WHERE WHAT IT READS IS OF BULK AT MOST 1048576: true; the input reads as it did. -/
def chainNilUptoRow : OpenClaim := { program := "ytjfpnbnkfcgjcaa", sum := "6261da6cba18982faeb5c177e6860541eb00f297454fc11765b4f0132631786a", func := "backstitch/backstitchlaw23.ChainNil", spec := "chainNil", unfollowed := true, recurses := true, apart := false, narrowed := true }
def ChainNilUptoSaid : Prop := chainNilUptoRow.holds Try.pinned (OpenSpec.upto chainNilSpec)

end Rows
end Go.Proofs.Ytjfpnbnkfcgjcaa
