/- Chapters 10, 23: the document's Pair, Dims, New. -/
import Derived.Test.YtjfpnbnkfcgjcaaC23f
namespace Go.Proofs.Ytjfpnbnkfcgjcaa
set_option linter.unusedVariables false
set_option linter.unusedSimpArgs false
open Go.RowKit
end Go.Proofs.Ytjfpnbnkfcgjcaa
