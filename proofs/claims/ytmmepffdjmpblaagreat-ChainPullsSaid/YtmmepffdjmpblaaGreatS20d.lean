/- Chapter 20: At. -/
import Derived.Test.YtmmepffdjmpblaaGreatS20c
namespace Go.Proofs.YtmmepffdjmpblaaGreat
set_option linter.unusedVariables false
set_option linter.unusedSimpArgs false
open Go.RowKit
/-- which write has a number -/
noncomputable def atS (regs : Int) (l : List OpD) (n : Int) : Int × List Int × Int :=
  if checkS regs l ≠ 0 then (0, [], checkS regs l) else if 0 ≤ n ∧ n < ((fo l).wr : Int) then ((((fo l).atw n.toNat).1 : Int), ((fo l).atw n.toNat).2, 0) else (0, [], 2)
theorem atw_nonneg (f : Fo) : ∀ n, ∀ r ∈ (f.atw n).2, 0 ≤ r := by
  induction f with
  | nil => intro n r h; cases h
  | leaf op r ih => intro n x h; rw [Fo.atw] at h; split at h <;> first | cases h | exact ih _ x h
  | rep op b fin r ihb ihr =>
    intro n x h
    rw [Fo.atw] at h
    split at h
    · rcases List.mem_cons.1 h with rfl | h
      · exact Int.natCast_nonneg _
      · exact ihb _ x h
    · exact ihr _ x h
end Go.Proofs.YtmmepffdjmpblaaGreat
