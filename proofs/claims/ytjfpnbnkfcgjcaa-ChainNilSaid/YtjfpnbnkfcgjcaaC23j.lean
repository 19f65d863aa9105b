/- Chapter 23: Small, made. -/
import Derived.Test.YtjfpnbnkfcgjcaaC23i
namespace Go.Proofs.Ytjfpnbnkfcgjcaa
set_option linter.unusedVariables false
set_option linter.unusedSimpArgs false
open Go.RowKit
theorem sizeW_bd (l : List OpD) : 0 ≤ sizeW l ∧ sizeW l ≤ 65536 := by
  cases hw : well l with
  | false => rw [(size_bad hw).2.1]; omega
  | true =>
    obtain ⟨f, hf, rfl⟩ := forest_of_well l hw
    rw [(sizes_flat hf).1]
    split
    · rename_i h; have := h.2; omega
    · omega
def smallC (c : ChD) (most : Int) : Bool := decide (c.p.l.length ≤ 60) && decide (c.q.l.length ≤ 60) && decide (c.th.length ≤ 100) && decide (sizeW c.p.l + sizeW c.q.l ≤ most)
end Go.Proofs.Ytjfpnbnkfcgjcaa
