/- Chapter 21: TapeRecords. -/
import Derived.Test.YtmmepffdjmpblaaGreatCl
import Derived.Test.YtmmepffdjmpblaaGreatG21
namespace Go.Proofs.YtmmepffdjmpblaaGreat
set_option linter.unusedVariables false
set_option linter.unusedSimpArgs false
open Go.RowKit
theorem small_le21 {regs : Int} {l : List OpD} {m : Int} (h : small13 regs l m = true) : (l.length : Int) ≤ m := by
  unfold small13 at h
  simp only [Bool.and_eq_true, decide_eq_true_eq] at h
  exact h.1
end Go.Proofs.YtmmepffdjmpblaaGreat
