/-
  No cell of these rows narrows 'for every input' (looked for: loops, veiled, ifaces, maps, wideKeys, modest, calm, conditions, laid).
  DERIVED. THE GIVEN ROWS OF THIS SEAT. 5 by the template 'for every input the law returns true; each argument reads behind the call as it read before'; 0 by the template 'total and deterministic' (their statements: YtcamcnahkdiefaaTotals.lean).
  GIVEN WITH THE SEED: the statements are not yours to turn. If you find one false, say at which input.
  Laid BY PROGRAM, IN A SANDBOX (cutbox-rows.mjs): the forced cells as the released guide's own fill.sh prints them over the translation 7a27cacb251baeab… (all of the seat's roots in one cut). By AI agents, Wed Nov 11 2026. No macro, syntax, notation, axiom, sorry.
-/
import Derived.Test.YtcamcnahkdiefaaChecked
import GoSem.Claim
import GoSem.ClaimJoined
import GoSem.ClaimMapViews
import Derived.JoinedTies
import Derived.KernelRfl
namespace Go.Proofs.Ytcamcnahkdiefaa
/- THE CELL 'sum', in the pinned program and in every row, IS THE sha256 OF THE DUMP (.gsa) THAT YtcamcnahkdiefaaProg.lean LOADS. Nothing in Lean hashes anything: it is a label: what it is worth is what the hold of that sum in a sandbox is worth. -/
noncomputable def Try.pinned : Pinned := { name := "ytcamcnahkdiefaa", sum := "7a27cacb251baeabb2e63611da415d2356453d70587c7cda7aa4cdbf13d7d319", checked := Try.checked }
namespace Rows
def none {H : Type} : Left H := { results := [], args := [] }

/-- 'backstitchlaw03.PolyDerives': WHATEVER THE INPUT: true; the input reads as it did. -/
def polyDerivesSpec : ChangeSpec := { name := "polyDerives", fn := fun _ => fun
  | [d1, d2, d3] => { results := [.lit (.bool true)], args := [d1, d2, d3] }
  | _ => none }
def polyDerivesRow : OpenClaim := { program := "ytcamcnahkdiefaa", sum := "7a27cacb251baeabb2e63611da415d2356453d70587c7cda7aa4cdbf13d7d319", func := "backstitch/backstitchlaw03.PolyDerives", spec := "polyDerives", unfollowed := true, recurses := true, apart := false }
def PolyDerivesSaid : Prop := polyDerivesRow.holds Try.pinned (OpenSpec.ofChange polyDerivesSpec)

/-- ITS FALSE NEIGHBOUR: 'it returns false'. Refute it at one input. -/
def polyDerivesWrong : ChangeSpec := { name := "polyDerives", fn := fun _ => fun
  | [d1, d2, d3] => { results := [.lit (.bool false)], args := [d1, d2, d3] }
  | _ => none }
def PolyDerivesWrongFalsely : Prop := polyDerivesRow.holds Try.pinned (OpenSpec.ofChange polyDerivesWrong)

/-- 'backstitchlaw03.PolyMakes': WHATEVER THE INPUT: true; the input reads as it did. -/
def polyMakesSpec : ChangeSpec := { name := "polyMakes", fn := fun _ => fun
  | [d1, d2, d3] => { results := [.lit (.bool true)], args := [d1, d2, d3] }
  | _ => none }
def polyMakesRow : OpenClaim := { program := "ytcamcnahkdiefaa", sum := "7a27cacb251baeabb2e63611da415d2356453d70587c7cda7aa4cdbf13d7d319", func := "backstitch/backstitchlaw03.PolyMakes", spec := "polyMakes", unfollowed := true, recurses := true, apart := false }
def PolyMakesSaid : Prop := polyMakesRow.holds Try.pinned (OpenSpec.ofChange polyMakesSpec)

/-- ITS FALSE NEIGHBOUR: 'it returns false'. Refute it at one input. -/
def polyMakesWrong : ChangeSpec := { name := "polyMakes", fn := fun _ => fun
  | [d1, d2, d3] => { results := [.lit (.bool false)], args := [d1, d2, d3] }
  | _ => none }
def PolyMakesWrongFalsely : Prop := polyMakesRow.holds Try.pinned (OpenSpec.ofChange polyMakesWrong)

/-- 'backstitchlaw03.PolyEvals': WHATEVER THE INPUT: true; the input reads as it did. -/
def polyEvalsSpec : ChangeSpec := { name := "polyEvals", fn := fun _ => fun
  | [d1, d2, d3] => { results := [.lit (.bool true)], args := [d1, d2, d3] }
  | _ => none }
def polyEvalsRow : OpenClaim := { program := "ytcamcnahkdiefaa", sum := "7a27cacb251baeabb2e63611da415d2356453d70587c7cda7aa4cdbf13d7d319", func := "backstitch/backstitchlaw03.PolyEvals", spec := "polyEvals", unfollowed := true, recurses := true, apart := false }
def PolyEvalsSaid : Prop := polyEvalsRow.holds Try.pinned (OpenSpec.ofChange polyEvalsSpec)

/-- ITS FALSE NEIGHBOUR: 'it returns false'. Refute it at one input. -/
def polyEvalsWrong : ChangeSpec := { name := "polyEvals", fn := fun _ => fun
  | [d1, d2, d3] => { results := [.lit (.bool false)], args := [d1, d2, d3] }
  | _ => none }
def PolyEvalsWrongFalsely : Prop := polyEvalsRow.holds Try.pinned (OpenSpec.ofChange polyEvalsWrong)

/-- 'backstitchlaw03.PolyProduct': WHATEVER THE INPUT: true; the input reads as it did. -/
def polyProductSpec : ChangeSpec := { name := "polyProduct", fn := fun _ => fun
  | [d1, d2, d3, d4] => { results := [.lit (.bool true)], args := [d1, d2, d3, d4] }
  | _ => none }
def polyProductRow : OpenClaim := { program := "ytcamcnahkdiefaa", sum := "7a27cacb251baeabb2e63611da415d2356453d70587c7cda7aa4cdbf13d7d319", func := "backstitch/backstitchlaw03.PolyProduct", spec := "polyProduct", unfollowed := true, recurses := true, apart := false }
def PolyProductSaid : Prop := polyProductRow.holds Try.pinned (OpenSpec.ofChange polyProductSpec)

/-- ITS FALSE NEIGHBOUR: 'it returns false'. Refute it at one input. -/
def polyProductWrong : ChangeSpec := { name := "polyProduct", fn := fun _ => fun
  | [d1, d2, d3, d4] => { results := [.lit (.bool false)], args := [d1, d2, d3, d4] }
  | _ => none }
def PolyProductWrongFalsely : Prop := polyProductRow.holds Try.pinned (OpenSpec.ofChange polyProductWrong)

/-- 'backstitchlaw03.PolyReckons': WHATEVER THE INPUT: true; the input reads as it did. -/
def polyReckonsSpec : ChangeSpec := { name := "polyReckons", fn := fun _ => fun
  | [d1, d2] => { results := [.lit (.bool true)], args := [d1, d2] }
  | _ => none }
def polyReckonsRow : OpenClaim := { program := "ytcamcnahkdiefaa", sum := "7a27cacb251baeabb2e63611da415d2356453d70587c7cda7aa4cdbf13d7d319", func := "backstitch/backstitchlaw03.PolyReckons", spec := "polyReckons", unfollowed := true, recurses := true, apart := false }
def PolyReckonsSaid : Prop := polyReckonsRow.holds Try.pinned (OpenSpec.ofChange polyReckonsSpec)

/-- ITS FALSE NEIGHBOUR: 'it returns false'. Refute it at one input. -/
def polyReckonsWrong : ChangeSpec := { name := "polyReckons", fn := fun _ => fun
  | [d1, d2] => { results := [.lit (.bool false)], args := [d1, d2] }
  | _ => none }
def PolyReckonsWrongFalsely : Prop := polyReckonsRow.holds Try.pinned (OpenSpec.ofChange polyReckonsWrong)

/- THE SECOND FORM. 'bulk': how many values and letters a reading holds, each counted each time it is reached (what is shared counts as often as it is met; a slice's spare places count too). A statement '..UptoSaid' is the law's where the arguments, and the package variables that the reading takes, are together of bulk at most 1048576: NARROWER than '..Said'. Prove '..Said' where nothing that the law and all that it calls make is longer than what came in: it says more and counts as full. Else prove '..UptoSaid'. A law counts once. -/
mutual
def uptoBulk {H : Type} : DataW H → Nat
  | .lit (.string bytes) => bytes.length + 1
  | .lit _ => 1
  | .nil => 1
  | .ptr d => uptoBulk d + 1
  | .slice elems spare => uptoBulkAll elems + uptoBulkAll spare + 1
  | .agg parts => uptoBulkAll parts + 1
  | .iface _ d => uptoBulk d + 1
  | .map entries => uptoBulkEntries entries + 1
  | .held _ => 1
def uptoBulkAll {H : Type} : List (DataW H) → Nat
  | [] => 0
  | d :: r => uptoBulk d + uptoBulkAll r
def uptoBulkEntries {H : Type} : List (Lit × DataW H) → Nat
  | [] => 0
  | x :: r => uptoBulkEntry x + uptoBulkEntries r
def uptoBulkEntry {H : Type} : Lit × DataW H → Nat
  | (.string bytes, d) => bytes.length + uptoBulk d + 1
  | (_, d) => uptoBulk d + 1
 end
def uptoSmall : (H : Type) → List (DataW H) → Bool := fun _ ds => decide (uptoBulkAll ds ≤ 1048576)
def OpenSpec.upto (s : _root_.Go.ChangeSpec) : _root_.Go.OpenSpec := { _root_.Go.OpenSpec.ofChange s with cond := some uptoSmall }

/-- 'backstitchlaw03.PolyDerives', WHERE WHAT IT READS IS OF BULK AT MOST 1048576: true; the input reads as it did. -/
def polyDerivesUptoRow : OpenClaim := { program := "ytcamcnahkdiefaa", sum := "7a27cacb251baeabb2e63611da415d2356453d70587c7cda7aa4cdbf13d7d319", func := "backstitch/backstitchlaw03.PolyDerives", spec := "polyDerives", unfollowed := true, recurses := true, apart := false, narrowed := true }
def PolyDerivesUptoSaid : Prop := polyDerivesUptoRow.holds Try.pinned (OpenSpec.upto polyDerivesSpec)

/-- 'backstitchlaw03.PolyMakes', WHERE WHAT IT READS IS OF BULK AT MOST 1048576: true; the input reads as it did. -/
def polyMakesUptoRow : OpenClaim := { program := "ytcamcnahkdiefaa", sum := "7a27cacb251baeabb2e63611da415d2356453d70587c7cda7aa4cdbf13d7d319", func := "backstitch/backstitchlaw03.PolyMakes", spec := "polyMakes", unfollowed := true, recurses := true, apart := false, narrowed := true }
def PolyMakesUptoSaid : Prop := polyMakesUptoRow.holds Try.pinned (OpenSpec.upto polyMakesSpec)

/-- 'backstitchlaw03.PolyEvals', WHERE WHAT IT READS IS OF BULK AT MOST 1048576: true; the input reads as it did. -/
def polyEvalsUptoRow : OpenClaim := { program := "ytcamcnahkdiefaa", sum := "7a27cacb251baeabb2e63611da415d2356453d70587c7cda7aa4cdbf13d7d319", func := "backstitch/backstitchlaw03.PolyEvals", spec := "polyEvals", unfollowed := true, recurses := true, apart := false, narrowed := true }
def PolyEvalsUptoSaid : Prop := polyEvalsUptoRow.holds Try.pinned (OpenSpec.upto polyEvalsSpec)

/-- 'backstitchlaw03.PolyProduct', WHERE WHAT IT READS IS OF BULK AT MOST 1048576: true; the input reads as it did. -/
def polyProductUptoRow : OpenClaim := { program := "ytcamcnahkdiefaa", sum := "7a27cacb251baeabb2e63611da415d2356453d70587c7cda7aa4cdbf13d7d319", func := "backstitch/backstitchlaw03.PolyProduct", spec := "polyProduct", unfollowed := true, recurses := true, apart := false, narrowed := true }
def PolyProductUptoSaid : Prop := polyProductUptoRow.holds Try.pinned (OpenSpec.upto polyProductSpec)

/-- 'backstitchlaw03.PolyReckons', WHERE WHAT IT READS IS OF BULK AT MOST 1048576: true; the input reads as it did. -/
def polyReckonsUptoRow : OpenClaim := { program := "ytcamcnahkdiefaa", sum := "7a27cacb251baeabb2e63611da415d2356453d70587c7cda7aa4cdbf13d7d319", func := "backstitch/backstitchlaw03.PolyReckons", spec := "polyReckons", unfollowed := true, recurses := true, apart := false, narrowed := true }
def PolyReckonsUptoSaid : Prop := polyReckonsUptoRow.holds Try.pinned (OpenSpec.upto polyReckonsSpec)

end Rows
end Go.Proofs.Ytcamcnahkdiefaa
