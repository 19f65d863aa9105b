/- Several texts of mine in one file: R13, R13b, R13c. -/
import Derived.Test.YthncfoompoheoaaQb
import Derived.Test.YthncfoompoheoaaQc
import Derived.Test.YthncfoompoheoaaQa
import Derived.Test.YthncfoompoheoaaQj
import Derived.Test.YthncfoompoheoaaQk
/- Chapter 13, the document's answers: Start, Straight. -/
namespace Go.Proofs.Ythncfoompoheoaa
set_option linter.unusedVariables false
set_option linter.unusedSimpArgs false
open Go.RowKit

def startS (n : Nat) (r : List UInt64) : List UInt64 := (List.range n).map fun i => (r[i]?).getD 0
theorem startS_snoc (n : Nat) (r : List UInt64) : startS (n + 1) r = startS n r ++ [(r[n]?).getD 0] := by unfold startS; rw [List.range_succ, List.map_append]; rfl
theorem startS_length (n : Nat) (r : List UInt64) : (startS n r).length = n := by simp [startS]
theorem startS_eq {n : Nat} {r : List UInt64} (h : r.length ≤ n) : startS n r = startR n r := by
  apply List.ext_getElem?
  intro i
  unfold startS startR
  rw [List.getElem?_map, List.getElem?_append, List.getElem?_replicate]
  by_cases hi : i < n
  · rw [List.getElem?_range hi]
    show some ((r[i]?).getD 0) = _
    by_cases hr : i < r.length
    · rw [if_pos hr, List.getElem?_eq_getElem hr]; rfl
    · rw [if_neg hr, if_pos (by omega), List.getElem?_eq_none (by omega)]; rfl
  · rw [List.getElem?_eq_none (by simp; omega), if_neg (by omega), if_neg (by omega)]; rfl
theorem startS_self (r : List UInt64) : startS r.length r = r := by rw [startS_eq (Nat.le_refl _)]; simp [startR]


theorem runR_snoc (l : List OpD) (r : List UInt64) {k : Nat} {x : OpD} (h : l[k]? = some x) : runR (l.take (k + 1)) r = stepR (runR (l.take k) r) x := by
  rw [List.take_add_one, h]
  show runR (l.take k ++ [x]) r = _
  rw [runR_append]
  rfl
end Go.Proofs.Ythncfoompoheoaa

/- Chapter 13, the document's answers: Upto, Run, Last. -/
namespace Go.Proofs.Ythncfoompoheoaa
set_option linter.unusedVariables false
set_option linter.unusedSimpArgs false
open Go.RowKit

end Go.Proofs.Ythncfoompoheoaa

/- Chapter 13, the document's answers: Last. -/
namespace Go.Proofs.Ythncfoompoheoaa
set_option linter.unusedVariables false
set_option linter.unusedSimpArgs false
open Go.RowKit

end Go.Proofs.Ythncfoompoheoaa
