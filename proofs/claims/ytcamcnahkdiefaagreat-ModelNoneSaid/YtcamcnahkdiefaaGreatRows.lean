/-
  No cell of these rows narrows 'for every input' (looked for: loops, veiled, ifaces, maps, wideKeys, modest, calm, conditions, laid).
  DERIVED. THE GIVEN ROWS OF THIS SEAT. 7 by the template 'for every input the law returns true; each argument reads behind the call as it read before'; 0 by the template 'total and deterministic' (their statements: YtcamcnahkdiefaaGreatTotals.lean).
  GIVEN WITH THE SEED: the statements are not yours to turn. If you find one false, say at which input.
  Laid BY PROGRAM, IN A SANDBOX (cutbox-rows.mjs): the forced cells as the released guide's own fill.sh prints them over the translation a404cb9da2ffcb0c… (all of the seat's roots in one cut). By AI agents, Wed Nov 11 2026. No macro, syntax, notation, axiom, sorry.
-/
import Derived.Test.YtcamcnahkdiefaaGreatChecked
import GoSem.Claim
import GoSem.ClaimJoined
import GoSem.ClaimMapViews
import Derived.JoinedTies
import Derived.KernelRfl
namespace Go.Proofs.YtcamcnahkdiefaaGreat
/- THE CELL 'sum', in the pinned program and in every row, IS THE sha256 OF THE DUMP (.gsa) THAT YtcamcnahkdiefaaGreatProg.lean LOADS. Nothing in Lean hashes anything: it is a label: what it is worth is what the hold of that sum in a sandbox is worth. -/
noncomputable def Tryz.pinned : Pinned := { name := "ytcamcnahkdiefaagreat", sum := "a404cb9da2ffcb0ced405461fbb1964dda51526f2bcd07cfbe910e0d59f5c8eb", checked := Tryz.checked }
namespace Rows
def none {H : Type} : Left H := { results := [], args := [] }

/-- 'backstitchlaw15.SymbolTells': WHATEVER THE INPUT: true; the input reads as it did. -/
def symbolTellsSpec : ChangeSpec := { name := "symbolTells", fn := fun _ => fun
  | [d1, d2] => { results := [.lit (.bool true)], args := [d1, d2] }
  | _ => none }
def symbolTellsRow : OpenClaim := { program := "ytcamcnahkdiefaagreat", sum := "a404cb9da2ffcb0ced405461fbb1964dda51526f2bcd07cfbe910e0d59f5c8eb", func := "backstitch/backstitchlaw15.SymbolTells", spec := "symbolTells", unfollowed := true, recurses := true, plainKeys := false, apart := false }
def SymbolTellsSaid : Prop := symbolTellsRow.holds Tryz.pinned (OpenSpec.ofChange symbolTellsSpec)

/-- ITS FALSE NEIGHBOUR: 'it returns false'. Refute it at one input. -/
def symbolTellsWrong : ChangeSpec := { name := "symbolTells", fn := fun _ => fun
  | [d1, d2] => { results := [.lit (.bool false)], args := [d1, d2] }
  | _ => none }
def SymbolTellsWrongFalsely : Prop := symbolTellsRow.holds Tryz.pinned (OpenSpec.ofChange symbolTellsWrong)

/-- 'backstitchlaw15.SymbolAfter': WHATEVER THE INPUT: true; the input reads as it did. -/
def symbolAfterSpec : ChangeSpec := { name := "symbolAfter", fn := fun _ => fun
  | [d1, d2] => { results := [.lit (.bool true)], args := [d1, d2] }
  | _ => none }
def symbolAfterRow : OpenClaim := { program := "ytcamcnahkdiefaagreat", sum := "a404cb9da2ffcb0ced405461fbb1964dda51526f2bcd07cfbe910e0d59f5c8eb", func := "backstitch/backstitchlaw15.SymbolAfter", spec := "symbolAfter", unfollowed := true, recurses := true, plainKeys := false, apart := false }
def SymbolAfterSaid : Prop := symbolAfterRow.holds Tryz.pinned (OpenSpec.ofChange symbolAfterSpec)

/-- ITS FALSE NEIGHBOUR: 'it returns false'. Refute it at one input. -/
def symbolAfterWrong : ChangeSpec := { name := "symbolAfter", fn := fun _ => fun
  | [d1, d2] => { results := [.lit (.bool false)], args := [d1, d2] }
  | _ => none }
def SymbolAfterWrongFalsely : Prop := symbolAfterRow.holds Tryz.pinned (OpenSpec.ofChange symbolAfterWrong)

/-- 'backstitchlaw24.ModelTells': WHATEVER THE INPUT: true; the input reads as it did. -/
def modelTellsSpec : ChangeSpec := { name := "modelTells", fn := fun _ => fun
  | [d1, d2, d3, d4] => { results := [.lit (.bool true)], args := [d1, d2, d3, d4] }
  | _ => none }
def modelTellsRow : OpenClaim := { program := "ytcamcnahkdiefaagreat", sum := "a404cb9da2ffcb0ced405461fbb1964dda51526f2bcd07cfbe910e0d59f5c8eb", func := "backstitch/backstitchlaw24.ModelTells", spec := "modelTells", unfollowed := true, recurses := true, plainKeys := false, apart := false }
def ModelTellsSaid : Prop := modelTellsRow.holds Tryz.pinned (OpenSpec.ofChange modelTellsSpec)

/-- ITS FALSE NEIGHBOUR: 'it returns false'. Refute it at one input. -/
def modelTellsWrong : ChangeSpec := { name := "modelTells", fn := fun _ => fun
  | [d1, d2, d3, d4] => { results := [.lit (.bool false)], args := [d1, d2, d3, d4] }
  | _ => none }
def ModelTellsWrongFalsely : Prop := modelTellsRow.holds Tryz.pinned (OpenSpec.ofChange modelTellsWrong)

/-- 'backstitchlaw24.ModelComposes': WHATEVER THE INPUT: true; the input reads as it did. -/
def modelComposesSpec : ChangeSpec := { name := "modelComposes", fn := fun _ => fun
  | [d1, d2, d3] => { results := [.lit (.bool true)], args := [d1, d2, d3] }
  | _ => none }
def modelComposesRow : OpenClaim := { program := "ytcamcnahkdiefaagreat", sum := "a404cb9da2ffcb0ced405461fbb1964dda51526f2bcd07cfbe910e0d59f5c8eb", func := "backstitch/backstitchlaw24.ModelComposes", spec := "modelComposes", unfollowed := true, recurses := true, plainKeys := false, apart := false }
def ModelComposesSaid : Prop := modelComposesRow.holds Tryz.pinned (OpenSpec.ofChange modelComposesSpec)

/-- ITS FALSE NEIGHBOUR: 'it returns false'. Refute it at one input. -/
def modelComposesWrong : ChangeSpec := { name := "modelComposes", fn := fun _ => fun
  | [d1, d2, d3] => { results := [.lit (.bool false)], args := [d1, d2, d3] }
  | _ => none }
def ModelComposesWrongFalsely : Prop := modelComposesRow.holds Tryz.pinned (OpenSpec.ofChange modelComposesWrong)

/-- 'backstitchlaw15.SymbolRuns': WHATEVER THE INPUT: true; the input reads as it did. -/
def symbolRunsSpec : ChangeSpec := { name := "symbolRuns", fn := fun _ => fun
  | [d1, d2] => { results := [.lit (.bool true)], args := [d1, d2] }
  | _ => none }
def symbolRunsRow : OpenClaim := { program := "ytcamcnahkdiefaagreat", sum := "a404cb9da2ffcb0ced405461fbb1964dda51526f2bcd07cfbe910e0d59f5c8eb", func := "backstitch/backstitchlaw15.SymbolRuns", spec := "symbolRuns", unfollowed := true, recurses := true, plainKeys := false, apart := false }
def SymbolRunsSaid : Prop := symbolRunsRow.holds Tryz.pinned (OpenSpec.ofChange symbolRunsSpec)

/-- ITS FALSE NEIGHBOUR: 'it returns false'. Refute it at one input. -/
def symbolRunsWrong : ChangeSpec := { name := "symbolRuns", fn := fun _ => fun
  | [d1, d2] => { results := [.lit (.bool false)], args := [d1, d2] }
  | _ => none }
def SymbolRunsWrongFalsely : Prop := symbolRunsRow.holds Tryz.pinned (OpenSpec.ofChange symbolRunsWrong)

/-- 'backstitchlaw24.ModelFormal': WHATEVER THE INPUT: true; the input reads as it did. -/
def modelFormalSpec : ChangeSpec := { name := "modelFormal", fn := fun _ => fun
  | [d1, d2, d3] => { results := [.lit (.bool true)], args := [d1, d2, d3] }
  | _ => none }
def modelFormalRow : OpenClaim := { program := "ytcamcnahkdiefaagreat", sum := "a404cb9da2ffcb0ced405461fbb1964dda51526f2bcd07cfbe910e0d59f5c8eb", func := "backstitch/backstitchlaw24.ModelFormal", spec := "modelFormal", unfollowed := true, recurses := true, plainKeys := false, apart := false }
def ModelFormalSaid : Prop := modelFormalRow.holds Tryz.pinned (OpenSpec.ofChange modelFormalSpec)

/-- ITS FALSE NEIGHBOUR: 'it returns false'. Refute it at one input. -/
def modelFormalWrong : ChangeSpec := { name := "modelFormal", fn := fun _ => fun
  | [d1, d2, d3] => { results := [.lit (.bool false)], args := [d1, d2, d3] }
  | _ => none }
def ModelFormalWrongFalsely : Prop := modelFormalRow.holds Tryz.pinned (OpenSpec.ofChange modelFormalWrong)

/-- 'backstitchlaw24.ModelNone': WHATEVER THE INPUT: true; the input reads as it did. -/
def modelNoneSpec : ChangeSpec := { name := "modelNone", fn := fun _ => fun
  | [d1, d2] => { results := [.lit (.bool true)], args := [d1, d2] }
  | _ => none }
def modelNoneRow : OpenClaim := { program := "ytcamcnahkdiefaagreat", sum := "a404cb9da2ffcb0ced405461fbb1964dda51526f2bcd07cfbe910e0d59f5c8eb", func := "backstitch/backstitchlaw24.ModelNone", spec := "modelNone", unfollowed := true, recurses := true, plainKeys := false, apart := false }
def ModelNoneSaid : Prop := modelNoneRow.holds Tryz.pinned (OpenSpec.ofChange modelNoneSpec)

/-- ITS FALSE NEIGHBOUR: 'it returns false'. Refute it at one input. -/
def modelNoneWrong : ChangeSpec := { name := "modelNone", fn := fun _ => fun
  | [d1, d2] => { results := [.lit (.bool false)], args := [d1, d2] }
  | _ => none }
def ModelNoneWrongFalsely : Prop := modelNoneRow.holds Tryz.pinned (OpenSpec.ofChange modelNoneWrong)

/- THE SECOND FORM. 'bulk': how many values and letters a reading holds, each counted each time it is reached (what is shared counts as often as it is met; a slice's spare places count too). A statement '..UptoSaid' is the law's where the arguments, and the package variables that the reading takes, are together of bulk at most 1048576: NARROWER than '..Said'. Prove '..Said' where nothing that the law and all that it calls make is longer than what came in: it says more and counts as full. Else prove '..UptoSaid'. A law counts once. -/
mutual
def uptoBulk {H : Type} : DataW H → Nat
  | .lit (.string bytes) => bytes.length + 1
  | .lit _ => 1
  | .nil => 1
  | .ptr d => uptoBulk d + 1
  | .slice elems spare => uptoBulkAll elems + uptoBulkAll spare + 1
  | .agg parts => uptoBulkAll parts + 1
  | .iface _ d => uptoBulk d + 1
  | .map entries => uptoBulkEntries entries + 1
  | .held _ => 1
def uptoBulkAll {H : Type} : List (DataW H) → Nat
  | [] => 0
  | d :: r => uptoBulk d + uptoBulkAll r
def uptoBulkEntries {H : Type} : List (Lit × DataW H) → Nat
  | [] => 0
  | x :: r => uptoBulkEntry x + uptoBulkEntries r
def uptoBulkEntry {H : Type} : Lit × DataW H → Nat
  | (.string bytes, d) => bytes.length + uptoBulk d + 1
  | (_, d) => uptoBulk d + 1
 end
def uptoSmall : (H : Type) → List (DataW H) → Bool := fun _ ds => decide (uptoBulkAll ds ≤ 1048576)
def OpenSpec.upto (s : _root_.Go.ChangeSpec) : _root_.Go.OpenSpec := { _root_.Go.OpenSpec.ofChange s with cond := some uptoSmall }

/-- 'backstitchlaw15.SymbolTells', WHERE WHAT IT READS IS OF BULK AT MOST 1048576: true; the input reads as it did. -/
def symbolTellsUptoRow : OpenClaim := { program := "ytcamcnahkdiefaagreat", sum := "a404cb9da2ffcb0ced405461fbb1964dda51526f2bcd07cfbe910e0d59f5c8eb", func := "backstitch/backstitchlaw15.SymbolTells", spec := "symbolTells", unfollowed := true, recurses := true, plainKeys := false, apart := false, narrowed := true }
def SymbolTellsUptoSaid : Prop := symbolTellsUptoRow.holds Tryz.pinned (OpenSpec.upto symbolTellsSpec)

/-- 'backstitchlaw15.SymbolAfter', WHERE WHAT IT READS IS OF BULK AT MOST 1048576: true; the input reads as it did. -/
def symbolAfterUptoRow : OpenClaim := { program := "ytcamcnahkdiefaagreat", sum := "a404cb9da2ffcb0ced405461fbb1964dda51526f2bcd07cfbe910e0d59f5c8eb", func := "backstitch/backstitchlaw15.SymbolAfter", spec := "symbolAfter", unfollowed := true, recurses := true, plainKeys := false, apart := false, narrowed := true }
def SymbolAfterUptoSaid : Prop := symbolAfterUptoRow.holds Tryz.pinned (OpenSpec.upto symbolAfterSpec)

/-- 'backstitchlaw24.ModelTells', WHERE WHAT IT READS IS OF BULK AT MOST 1048576: true; the input reads as it did. -/
def modelTellsUptoRow : OpenClaim := { program := "ytcamcnahkdiefaagreat", sum := "a404cb9da2ffcb0ced405461fbb1964dda51526f2bcd07cfbe910e0d59f5c8eb", func := "backstitch/backstitchlaw24.ModelTells", spec := "modelTells", unfollowed := true, recurses := true, plainKeys := false, apart := false, narrowed := true }
def ModelTellsUptoSaid : Prop := modelTellsUptoRow.holds Tryz.pinned (OpenSpec.upto modelTellsSpec)

/-- 'backstitchlaw24.ModelComposes', WHERE WHAT IT READS IS OF BULK AT MOST 1048576: true; the input reads as it did. -/
def modelComposesUptoRow : OpenClaim := { program := "ytcamcnahkdiefaagreat", sum := "a404cb9da2ffcb0ced405461fbb1964dda51526f2bcd07cfbe910e0d59f5c8eb", func := "backstitch/backstitchlaw24.ModelComposes", spec := "modelComposes", unfollowed := true, recurses := true, plainKeys := false, apart := false, narrowed := true }
def ModelComposesUptoSaid : Prop := modelComposesUptoRow.holds Tryz.pinned (OpenSpec.upto modelComposesSpec)

/-- 'backstitchlaw15.SymbolRuns', WHERE WHAT IT READS IS OF BULK AT MOST 1048576: true; the input reads as it did. -/
def symbolRunsUptoRow : OpenClaim := { program := "ytcamcnahkdiefaagreat", sum := "a404cb9da2ffcb0ced405461fbb1964dda51526f2bcd07cfbe910e0d59f5c8eb", func := "backstitch/backstitchlaw15.SymbolRuns", spec := "symbolRuns", unfollowed := true, recurses := true, plainKeys := false, apart := false, narrowed := true }
def SymbolRunsUptoSaid : Prop := symbolRunsUptoRow.holds Tryz.pinned (OpenSpec.upto symbolRunsSpec)

/-- 'backstitchlaw24.ModelFormal', WHERE WHAT IT READS IS OF BULK AT MOST 1048576: true; the input reads as it did. -/
def modelFormalUptoRow : OpenClaim := { program := "ytcamcnahkdiefaagreat", sum := "a404cb9da2ffcb0ced405461fbb1964dda51526f2bcd07cfbe910e0d59f5c8eb", func := "backstitch/backstitchlaw24.ModelFormal", spec := "modelFormal", unfollowed := true, recurses := true, plainKeys := false, apart := false, narrowed := true }
def ModelFormalUptoSaid : Prop := modelFormalUptoRow.holds Tryz.pinned (OpenSpec.upto modelFormalSpec)

/-- 'backstitchlaw24.ModelNone', WHERE WHAT IT READS IS OF BULK AT MOST 1048576: true; the input reads as it did. -/
def modelNoneUptoRow : OpenClaim := { program := "ytcamcnahkdiefaagreat", sum := "a404cb9da2ffcb0ced405461fbb1964dda51526f2bcd07cfbe910e0d59f5c8eb", func := "backstitch/backstitchlaw24.ModelNone", spec := "modelNone", unfollowed := true, recurses := true, plainKeys := false, apart := false, narrowed := true }
def ModelNoneUptoSaid : Prop := modelNoneUptoRow.holds Tryz.pinned (OpenSpec.upto modelNoneSpec)

end Rows
end Go.Proofs.YtcamcnahkdiefaaGreat
