/- Chapter 21, the document's answers: Copy, Ready, Record, Undo. -/
import Derived.Test.YthncfoompoheoaaT21d
import Derived.Test.YthncfoompoheoaaQl
namespace Go.Proofs.Ythncfoompoheoaa
set_option linter.unusedVariables false
set_option linter.unusedSimpArgs false
open Go.RowKit

end Go.Proofs.Ythncfoompoheoaa
