/- Several texts of mine in one file: Sm. -/
import Derived.Test.YtmmepffdjmpblaaGreatQk
import Derived.Test.YtmmepffdjmpblaaGreatQb
import Derived.Test.YtmmepffdjmpblaaGreatQj
/- forward's contracts with their results named; is a program small (layer 13's law)? -/
namespace Go.Proofs.YtmmepffdjmpblaaGreat
set_option linter.unusedVariables false
set_option linter.unusedSimpArgs false
open Go.RowKit

theorem RunN (regs : Int) (a : Option Addr) (c ln : Nat) (l : List OpD) (ra : Option Addr) (rc rn : Nat) (r : List UInt64) (w : World) (X : List UInt64) (E : Int) (hln : ln = l.length) (hrn : rn = r.length) (hX : uptoS regs l r (-1) = X) (hE : dimsS regs l r.length = E)
    (h : At w a l) (hl : ln ≤ 1000000) (hr : At w ra r) (hrl : rn ≤ 1000000) :
    Calls Tryz.prog 55 #[.agg #[.int .i64 regs, .slice a ln c], .slice ra rn rc] w fun e w' => ∃ a' c', e = .returned (.tuple #[.slice a' X.length c', .int .i64 E]) ∧ Own w' w.heap.size 50 a' c' X ∧ Below w.heap.size w w' := by
  subst hln hrn hX hE
  exact Run_calls regs a c l ra rc r w h hl hr 

noncomputable def small13 (regs : Int) (l : List OpD) (most : Int) : Bool := decide ((l.length : Int) ≤ most) && (decide (checkS regs l ≠ 0) || decide ((unrS regs l).length ≤ 3000))
end Go.Proofs.YtmmepffdjmpblaaGreat
