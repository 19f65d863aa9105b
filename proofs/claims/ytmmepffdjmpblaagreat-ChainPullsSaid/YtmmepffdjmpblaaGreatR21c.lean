/- Chapter 21, the document's answers: Undo. -/
import Derived.StillTailTactics
import Derived.Test.YtmmepffdjmpblaaGreatR21b
namespace Go.Proofs.YtmmepffdjmpblaaGreat
set_option linter.unusedVariables false
set_option linter.unusedSimpArgs false
open Go.RowKit

theorem unR_drop (U : List OpD) (t r : List UInt64) {j : Nat} {x : OpD} {v : UInt64} (hx : U[j]? = some x) (hv : t[j]? = some v) :
    unR U.length t r (U.drop j) = (unR U.length t r (U.drop (j + 1))).set x.d.toNat v := by
  have hj := (List.getElem?_eq_some_iff.1 hx).1
  rw [drop_at hx]
  exact unR_cons (by rw [List.length_drop]; omega) (by rw [List.length_drop, show U.length - (U.length - (j + 1)) - 1 = j by omega]; exact hv)
theorem bkR_drop (U : List OpD) (t r w : List UInt64) {j : Nat} {x : OpD} {v : UInt64} (hx : U[j]? = some x) (hv : t[j]? = some v) :
    bkR U.length t r w (U.drop j) = ((bkR U.length t r w (U.drop (j + 1))).1.set x.d.toNat v, takeA x ((bkR U.length t r w (U.drop (j + 1))).1.set x.d.toNat v) (bkR U.length t r w (U.drop (j + 1))).2) := by
  have hj := (List.getElem?_eq_some_iff.1 hx).1
  rw [drop_at hx]
  exact bkR_cons (by rw [List.length_drop]; omega) (by rw [List.length_drop, show U.length - (U.length - (j + 1)) - 1 = j by omega]; exact hv)
end Go.Proofs.YtmmepffdjmpblaaGreat
