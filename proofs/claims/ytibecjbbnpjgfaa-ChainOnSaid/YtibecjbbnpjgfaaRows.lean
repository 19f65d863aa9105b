/-
  No cell of these rows narrows 'for every input' (looked for: loops, veiled, ifaces, maps, wideKeys, modest, calm, conditions, laid).
  DERIVED. THE GIVEN ROWS OF THIS SEAT. 9 by the template 'for every input the law returns true; each argument reads behind the call as it read before'; 0 by the template 'total and deterministic' (their statements: YtibecjbbnpjgfaaTotals.lean).
  GIVEN WITH THE SEED: the statements are not yours to turn. If you find one false, say at which input.
  Laid BY PROGRAM, IN A SANDBOX (cutbox-rows.mjs): the forced cells as the released guide's own fill.sh prints them over the translation 4393e8e23ea4bc0b… (all of the seat's roots in one cut). By AI agents, Wed Nov 11 2026. No macro, syntax, notation, axiom, sorry.
-/
import Derived.Test.YtibecjbbnpjgfaaChecked
import GoSem.Claim
import GoSem.ClaimJoined
import GoSem.ClaimMapViews
import Derived.JoinedTies
import Derived.KernelRfl
namespace Go.Proofs.Ytibecjbbnpjgfaa
/- THE CELL 'sum', in the pinned program and in every row, IS THE sha256 OF THE DUMP (.gsa) THAT YtibecjbbnpjgfaaProg.lean LOADS. Nothing in Lean hashes anything: it is a label: what it is worth is what the hold of that sum in a sandbox is worth. -/
noncomputable def Try.pinned : Pinned := { name := "ytibecjbbnpjgfaa", sum := "4393e8e23ea4bc0b45d572039198a08e7b742b5ddd0d85e215fb54232b6f6d89", checked := Try.checked }
namespace Rows
def none {H : Type} : Left H := { results := [], args := [] }

/-- 'backstitchlaw22.SweepDuals': WHATEVER THE INPUT: true; the input reads as it did. -/
def sweepDualsSpec : ChangeSpec := { name := "sweepDuals", fn := fun _ => fun
  | [d1, d2, d3] => { results := [.lit (.bool true)], args := [d1, d2, d3] }
  | _ => none }
def sweepDualsRow : OpenClaim := { program := "ytibecjbbnpjgfaa", sum := "4393e8e23ea4bc0b45d572039198a08e7b742b5ddd0d85e215fb54232b6f6d89", func := "backstitch/backstitchlaw22.SweepDuals", spec := "sweepDuals", unfollowed := true, recurses := true, apart := false }
def SweepDualsSaid : Prop := sweepDualsRow.holds Try.pinned (OpenSpec.ofChange sweepDualsSpec)

/-- ITS FALSE NEIGHBOUR: 'it returns false'. Refute it at one input. -/
def sweepDualsWrong : ChangeSpec := { name := "sweepDuals", fn := fun _ => fun
  | [d1, d2, d3] => { results := [.lit (.bool false)], args := [d1, d2, d3] }
  | _ => none }
def SweepDualsWrongFalsely : Prop := sweepDualsRow.holds Try.pinned (OpenSpec.ofChange sweepDualsWrong)

/-- 'backstitchlaw23.ChainSteps': WHATEVER THE INPUT: true; the input reads as it did. -/
def chainStepsSpec : ChangeSpec := { name := "chainSteps", fn := fun _ => fun
  | [d1, d2, d3] => { results := [.lit (.bool true)], args := [d1, d2, d3] }
  | _ => none }
def chainStepsRow : OpenClaim := { program := "ytibecjbbnpjgfaa", sum := "4393e8e23ea4bc0b45d572039198a08e7b742b5ddd0d85e215fb54232b6f6d89", func := "backstitch/backstitchlaw23.ChainSteps", spec := "chainSteps", unfollowed := true, recurses := true, apart := false }
def ChainStepsSaid : Prop := chainStepsRow.holds Try.pinned (OpenSpec.ofChange chainStepsSpec)

/-- ITS FALSE NEIGHBOUR: 'it returns false'. Refute it at one input. -/
def chainStepsWrong : ChangeSpec := { name := "chainSteps", fn := fun _ => fun
  | [d1, d2, d3] => { results := [.lit (.bool false)], args := [d1, d2, d3] }
  | _ => none }
def ChainStepsWrongFalsely : Prop := chainStepsRow.holds Try.pinned (OpenSpec.ofChange chainStepsWrong)

/-- 'backstitchlaw23.ChainRuns': WHATEVER THE INPUT: true; the input reads as it did. -/
def chainRunsSpec : ChangeSpec := { name := "chainRuns", fn := fun _ => fun
  | [d1, d2, d3] => { results := [.lit (.bool true)], args := [d1, d2, d3] }
  | _ => none }
def chainRunsRow : OpenClaim := { program := "ytibecjbbnpjgfaa", sum := "4393e8e23ea4bc0b45d572039198a08e7b742b5ddd0d85e215fb54232b6f6d89", func := "backstitch/backstitchlaw23.ChainRuns", spec := "chainRuns", unfollowed := true, recurses := true, apart := false }
def ChainRunsSaid : Prop := chainRunsRow.holds Try.pinned (OpenSpec.ofChange chainRunsSpec)

/-- ITS FALSE NEIGHBOUR: 'it returns false'. Refute it at one input. -/
def chainRunsWrong : ChangeSpec := { name := "chainRuns", fn := fun _ => fun
  | [d1, d2, d3] => { results := [.lit (.bool false)], args := [d1, d2, d3] }
  | _ => none }
def ChainRunsWrongFalsely : Prop := chainRunsRow.holds Try.pinned (OpenSpec.ofChange chainRunsWrong)

/-- 'backstitchlaw23.ChainOn': WHATEVER THE INPUT: true; the input reads as it did. -/
def chainOnSpec : ChangeSpec := { name := "chainOn", fn := fun _ => fun
  | [d1, d2, d3, d4] => { results := [.lit (.bool true)], args := [d1, d2, d3, d4] }
  | _ => none }
def chainOnRow : OpenClaim := { program := "ytibecjbbnpjgfaa", sum := "4393e8e23ea4bc0b45d572039198a08e7b742b5ddd0d85e215fb54232b6f6d89", func := "backstitch/backstitchlaw23.ChainOn", spec := "chainOn", unfollowed := true, recurses := true, apart := false }
def ChainOnSaid : Prop := chainOnRow.holds Try.pinned (OpenSpec.ofChange chainOnSpec)

/-- ITS FALSE NEIGHBOUR: 'it returns false'. Refute it at one input. -/
def chainOnWrong : ChangeSpec := { name := "chainOn", fn := fun _ => fun
  | [d1, d2, d3, d4] => { results := [.lit (.bool false)], args := [d1, d2, d3, d4] }
  | _ => none }
def ChainOnWrongFalsely : Prop := chainOnRow.holds Try.pinned (OpenSpec.ofChange chainOnWrong)

/-- 'backstitchlaw22.SweepBacks': WHATEVER THE INPUT: true; the input reads as it did. -/
def sweepBacksSpec : ChangeSpec := { name := "sweepBacks", fn := fun _ => fun
  | [d1, d2, d3, d4] => { results := [.lit (.bool true)], args := [d1, d2, d3, d4] }
  | _ => none }
def sweepBacksRow : OpenClaim := { program := "ytibecjbbnpjgfaa", sum := "4393e8e23ea4bc0b45d572039198a08e7b742b5ddd0d85e215fb54232b6f6d89", func := "backstitch/backstitchlaw22.SweepBacks", spec := "sweepBacks", unfollowed := true, recurses := true, apart := false }
def SweepBacksSaid : Prop := sweepBacksRow.holds Try.pinned (OpenSpec.ofChange sweepBacksSpec)

/-- ITS FALSE NEIGHBOUR: 'it returns false'. Refute it at one input. -/
def sweepBacksWrong : ChangeSpec := { name := "sweepBacks", fn := fun _ => fun
  | [d1, d2, d3, d4] => { results := [.lit (.bool false)], args := [d1, d2, d3, d4] }
  | _ => none }
def SweepBacksWrongFalsely : Prop := sweepBacksRow.holds Try.pinned (OpenSpec.ofChange sweepBacksWrong)

/-- 'backstitchlaw22.SweepPulls': WHATEVER THE INPUT: true; the input reads as it did. -/
def sweepPullsSpec : ChangeSpec := { name := "sweepPulls", fn := fun _ => fun
  | [d1, d2, d3] => { results := [.lit (.bool true)], args := [d1, d2, d3] }
  | _ => none }
def sweepPullsRow : OpenClaim := { program := "ytibecjbbnpjgfaa", sum := "4393e8e23ea4bc0b45d572039198a08e7b742b5ddd0d85e215fb54232b6f6d89", func := "backstitch/backstitchlaw22.SweepPulls", spec := "sweepPulls", unfollowed := true, recurses := true, apart := false }
def SweepPullsSaid : Prop := sweepPullsRow.holds Try.pinned (OpenSpec.ofChange sweepPullsSpec)

/-- ITS FALSE NEIGHBOUR: 'it returns false'. Refute it at one input. -/
def sweepPullsWrong : ChangeSpec := { name := "sweepPulls", fn := fun _ => fun
  | [d1, d2, d3] => { results := [.lit (.bool false)], args := [d1, d2, d3] }
  | _ => none }
def SweepPullsWrongFalsely : Prop := sweepPullsRow.holds Try.pinned (OpenSpec.ofChange sweepPullsWrong)

/-- 'backstitchlaw22.SweepRestores': WHATEVER THE INPUT: true; the input reads as it did. -/
def sweepRestoresSpec : ChangeSpec := { name := "sweepRestores", fn := fun _ => fun
  | [d1, d2, d3, d4] => { results := [.lit (.bool true)], args := [d1, d2, d3, d4] }
  | _ => none }
def sweepRestoresRow : OpenClaim := { program := "ytibecjbbnpjgfaa", sum := "4393e8e23ea4bc0b45d572039198a08e7b742b5ddd0d85e215fb54232b6f6d89", func := "backstitch/backstitchlaw22.SweepRestores", spec := "sweepRestores", unfollowed := true, recurses := true, apart := false }
def SweepRestoresSaid : Prop := sweepRestoresRow.holds Try.pinned (OpenSpec.ofChange sweepRestoresSpec)

/-- ITS FALSE NEIGHBOUR: 'it returns false'. Refute it at one input. -/
def sweepRestoresWrong : ChangeSpec := { name := "sweepRestores", fn := fun _ => fun
  | [d1, d2, d3, d4] => { results := [.lit (.bool false)], args := [d1, d2, d3, d4] }
  | _ => none }
def SweepRestoresWrongFalsely : Prop := sweepRestoresRow.holds Try.pinned (OpenSpec.ofChange sweepRestoresWrong)

/-- 'backstitchlaw22.SweepJoined': WHATEVER THE INPUT: true; the input reads as it did. -/
def sweepJoinedSpec : ChangeSpec := { name := "sweepJoined", fn := fun _ => fun
  | [d1, d2, d3, d4, d5] => { results := [.lit (.bool true)], args := [d1, d2, d3, d4, d5] }
  | _ => none }
def sweepJoinedRow : OpenClaim := { program := "ytibecjbbnpjgfaa", sum := "4393e8e23ea4bc0b45d572039198a08e7b742b5ddd0d85e215fb54232b6f6d89", func := "backstitch/backstitchlaw22.SweepJoined", spec := "sweepJoined", unfollowed := true, recurses := true, apart := false }
def SweepJoinedSaid : Prop := sweepJoinedRow.holds Try.pinned (OpenSpec.ofChange sweepJoinedSpec)

/-- ITS FALSE NEIGHBOUR: 'it returns false'. Refute it at one input. -/
def sweepJoinedWrong : ChangeSpec := { name := "sweepJoined", fn := fun _ => fun
  | [d1, d2, d3, d4, d5] => { results := [.lit (.bool false)], args := [d1, d2, d3, d4, d5] }
  | _ => none }
def SweepJoinedWrongFalsely : Prop := sweepJoinedRow.holds Try.pinned (OpenSpec.ofChange sweepJoinedWrong)

/-- 'backstitchlaw23.ChainNil': WHATEVER THE INPUT: true; the input reads as it did. -/
def chainNilSpec : ChangeSpec := { name := "chainNil", fn := fun _ => fun
  | [d1, d2] => { results := [.lit (.bool true)], args := [d1, d2] }
  | _ => none }
def chainNilRow : OpenClaim := { program := "ytibecjbbnpjgfaa", sum := "4393e8e23ea4bc0b45d572039198a08e7b742b5ddd0d85e215fb54232b6f6d89", func := "backstitch/backstitchlaw23.ChainNil", spec := "chainNil", unfollowed := true, recurses := true, apart := false }
def ChainNilSaid : Prop := chainNilRow.holds Try.pinned (OpenSpec.ofChange chainNilSpec)

/-- ITS FALSE NEIGHBOUR: 'it returns false'. Refute it at one input. -/
def chainNilWrong : ChangeSpec := { name := "chainNil", fn := fun _ => fun
  | [d1, d2] => { results := [.lit (.bool false)], args := [d1, d2] }
  | _ => none }
def ChainNilWrongFalsely : Prop := chainNilRow.holds Try.pinned (OpenSpec.ofChange chainNilWrong)

/- THE SECOND FORM. 'bulk': how many values and letters a reading holds, each counted each time it is reached (what is shared counts as often as it is met; a slice's spare places count too). A statement '..UptoSaid' is the law's where the arguments, and the package variables that the reading takes, are together of bulk at most 1048576: NARROWER than '..Said'. Prove '..Said' where nothing that the law and all that it calls make is longer than what came in: it says more and counts as full. Else prove '..UptoSaid'. A law counts once. -/
mutual
def uptoBulk {H : Type} : DataW H → Nat
  | .lit (.string bytes) => bytes.length + 1
  | .lit _ => 1
  | .nil => 1
  | .ptr d => uptoBulk d + 1
  | .slice elems spare => uptoBulkAll elems + uptoBulkAll spare + 1
  | .agg parts => uptoBulkAll parts + 1
  | .iface _ d => uptoBulk d + 1
  | .map entries => uptoBulkEntries entries + 1
  | .held _ => 1
def uptoBulkAll {H : Type} : List (DataW H) → Nat
  | [] => 0
  | d :: r => uptoBulk d + uptoBulkAll r
def uptoBulkEntries {H : Type} : List (Lit × DataW H) → Nat
  | [] => 0
  | x :: r => uptoBulkEntry x + uptoBulkEntries r
def uptoBulkEntry {H : Type} : Lit × DataW H → Nat
  | (.string bytes, d) => bytes.length + uptoBulk d + 1
  | (_, d) => uptoBulk d + 1
 end
def uptoSmall : (H : Type) → List (DataW H) → Bool := fun _ ds => decide (uptoBulkAll ds ≤ 1048576)
def OpenSpec.upto (s : _root_.Go.ChangeSpec) : _root_.Go.OpenSpec := { _root_.Go.OpenSpec.ofChange s with cond := some uptoSmall }

/-- 'backstitchlaw22.SweepDuals', WHERE WHAT IT READS IS OF BULK AT MOST 1048576: true; the input reads as it did. -/
def sweepDualsUptoRow : OpenClaim := { program := "ytibecjbbnpjgfaa", sum := "4393e8e23ea4bc0b45d572039198a08e7b742b5ddd0d85e215fb54232b6f6d89", func := "backstitch/backstitchlaw22.SweepDuals", spec := "sweepDuals", unfollowed := true, recurses := true, apart := false, narrowed := true }
def SweepDualsUptoSaid : Prop := sweepDualsUptoRow.holds Try.pinned (OpenSpec.upto sweepDualsSpec)

/-- 'backstitchlaw23.ChainSteps', WHERE WHAT IT READS IS OF BULK AT MOST 1048576: true; the input reads as it did. -/
def chainStepsUptoRow : OpenClaim := { program := "ytibecjbbnpjgfaa", sum := "4393e8e23ea4bc0b45d572039198a08e7b742b5ddd0d85e215fb54232b6f6d89", func := "backstitch/backstitchlaw23.ChainSteps", spec := "chainSteps", unfollowed := true, recurses := true, apart := false, narrowed := true }
def ChainStepsUptoSaid : Prop := chainStepsUptoRow.holds Try.pinned (OpenSpec.upto chainStepsSpec)

/-- 'backstitchlaw23.ChainRuns', WHERE WHAT IT READS IS OF BULK AT MOST 1048576: true; the input reads as it did. -/
def chainRunsUptoRow : OpenClaim := { program := "ytibecjbbnpjgfaa", sum := "4393e8e23ea4bc0b45d572039198a08e7b742b5ddd0d85e215fb54232b6f6d89", func := "backstitch/backstitchlaw23.ChainRuns", spec := "chainRuns", unfollowed := true, recurses := true, apart := false, narrowed := true }
def ChainRunsUptoSaid : Prop := chainRunsUptoRow.holds Try.pinned (OpenSpec.upto chainRunsSpec)

/-- 'backstitchlaw23.ChainOn', WHERE WHAT IT READS IS OF BULK AT MOST 1048576: true; the input reads as it did. -/
def chainOnUptoRow : OpenClaim := { program := "ytibecjbbnpjgfaa", sum := "4393e8e23ea4bc0b45d572039198a08e7b742b5ddd0d85e215fb54232b6f6d89", func := "backstitch/backstitchlaw23.ChainOn", spec := "chainOn", unfollowed := true, recurses := true, apart := false, narrowed := true }
def ChainOnUptoSaid : Prop := chainOnUptoRow.holds Try.pinned (OpenSpec.upto chainOnSpec)

/-- 'backstitchlaw22.SweepBacks', WHERE WHAT IT READS IS OF BULK AT MOST 1048576: true; the input reads as it did. -/
def sweepBacksUptoRow : OpenClaim := { program := "ytibecjbbnpjgfaa", sum := "4393e8e23ea4bc0b45d572039198a08e7b742b5ddd0d85e215fb54232b6f6d89", func := "backstitch/backstitchlaw22.SweepBacks", spec := "sweepBacks", unfollowed := true, recurses := true, apart := false, narrowed := true }
def SweepBacksUptoSaid : Prop := sweepBacksUptoRow.holds Try.pinned (OpenSpec.upto sweepBacksSpec)

/-- 'backstitchlaw22.SweepPulls', WHERE WHAT IT READS IS OF BULK AT MOST 1048576: true; the input reads as it did. -/
def sweepPullsUptoRow : OpenClaim := { program := "ytibecjbbnpjgfaa", sum := "4393e8e23ea4bc0b45d572039198a08e7b742b5ddd0d85e215fb54232b6f6d89", func := "backstitch/backstitchlaw22.SweepPulls", spec := "sweepPulls", unfollowed := true, recurses := true, apart := false, narrowed := true }
def SweepPullsUptoSaid : Prop := sweepPullsUptoRow.holds Try.pinned (OpenSpec.upto sweepPullsSpec)

/-- 'backstitchlaw22.SweepRestores', WHERE WHAT IT READS IS OF BULK AT MOST 1048576: true; the input reads as it did. -/
def sweepRestoresUptoRow : OpenClaim := { program := "ytibecjbbnpjgfaa", sum := "4393e8e23ea4bc0b45d572039198a08e7b742b5ddd0d85e215fb54232b6f6d89", func := "backstitch/backstitchlaw22.SweepRestores", spec := "sweepRestores", unfollowed := true, recurses := true, apart := false, narrowed := true }
def SweepRestoresUptoSaid : Prop := sweepRestoresUptoRow.holds Try.pinned (OpenSpec.upto sweepRestoresSpec)

/-- 'backstitchlaw22.SweepJoined', WHERE WHAT IT READS IS OF BULK AT MOST 1048576: true; the input reads as it did. -/
def sweepJoinedUptoRow : OpenClaim := { program := "ytibecjbbnpjgfaa", sum := "4393e8e23ea4bc0b45d572039198a08e7b742b5ddd0d85e215fb54232b6f6d89", func := "backstitch/backstitchlaw22.SweepJoined", spec := "sweepJoined", unfollowed := true, recurses := true, apart := false, narrowed := true }
def SweepJoinedUptoSaid : Prop := sweepJoinedUptoRow.holds Try.pinned (OpenSpec.upto sweepJoinedSpec)

/-- 'backstitchlaw23.ChainNil', WHERE WHAT IT READS IS OF BULK AT MOST 1048576: true; the input reads as it did. -/
def chainNilUptoRow : OpenClaim := { program := "ytibecjbbnpjgfaa", sum := "4393e8e23ea4bc0b45d572039198a08e7b742b5ddd0d85e215fb54232b6f6d89", func := "backstitch/backstitchlaw23.ChainNil", spec := "chainNil", unfollowed := true, recurses := true, apart := false, narrowed := true }
def ChainNilUptoSaid : Prop := chainNilUptoRow.holds Try.pinned (OpenSpec.upto chainNilSpec)

end Rows
end Go.Proofs.Ytibecjbbnpjgfaa
