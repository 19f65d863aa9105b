/- A slice of ints that came in, as a list. -/
import Derived.Test.YtcamcnahkdiefaaGreatQo
namespace Go.Proofs.YtcamcnahkdiefaaGreat
set_option linter.unusedVariables false
set_option linter.unusedSimpArgs false
open Go.ChangeShapes Go.WideShapes Go.ChangeAt Go.RowKit
section
variable {H : Type} {enc : TypeId × Value → H} {w : World} {base : Nat} {held : Bool}
theorem dec_i (fuel : Nat) (cs : List Value) (y : DataW H × List MemPlace) (h : DataW.trod enc Tryz.prog w base (fun _ => true) held fuel 3 cs = some y) : ∃ z : Int, cs = Flat.enc z ∧ i64ok z := by
  obtain ⟨z, e, _, wf⟩ := DataW.trod_int Tryz.underlying3 h
  exact ⟨z, e, bounds_i64 wf⟩
theorem open_ints {fuel : Nat} {cs : List Value} {x : DataW H × List MemPlace} (h : DataW.trod enc Tryz.prog w base (fun _ => true) held fuel 90 cs = some x) :
    ∃ (a : Option Addr) (c : Nat) (l : List Int), cs = [.slice a l.length c] ∧ l.length ≤ c ∧ c ≤ maxLen ∧ At w a l ∧ ∀ z ∈ l, i64ok z :=
  open_flat Tryz.underlying90 (by kernel_rfl) _ dec_i h
end
end Go.Proofs.YtcamcnahkdiefaaGreat
