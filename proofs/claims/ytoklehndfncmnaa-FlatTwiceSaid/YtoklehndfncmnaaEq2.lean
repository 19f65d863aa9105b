/- Lists that are alike, told by their number. -/
import Derived.Test.YtoklehndfncmnaaEq
namespace Go.Proofs.Ytoklehndfncmnaa
set_option linter.unusedVariables false
set_option linter.unusedSimpArgs false
open Go.RowKit
theorem Same5N (a b : Option Addr) (n m ca cb : Nat) (l : List UInt64) (w : World) (hn : n = l.length) (hm : m = l.length) (h0 : At w a l) (h1 : At w b l) (hl : n ≤ 1000000000) :
    Calls Try.prog 27 #[.slice a n ca, .slice b m cb] w fun e w' => e = .returned (.bool true) ∧ ∃ n, w' = w.drewN n := by
  subst hn hm; exact Same5_calls a b ca cb l w h0 h1 hl
theorem Ops8N (a b : Option Addr) (n m ca cb : Nat) (l : List OpD) (w : World) (hn : n = l.length) (hm : m = l.length) (h0 : At w a l) (h1 : At w b l) (hl : n ≤ 1000000000) :
    Calls Try.prog 19 #[.slice a n ca, .slice b m cb] w fun e w' => e = .returned (.bool true) ∧ ∃ n, w' = w.drewN n := by
  subst hn hm; exact Ops8_calls a b ca cb l w h0 h1 hl
end Go.Proofs.Ytoklehndfncmnaa
