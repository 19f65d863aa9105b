/- Chapter 23: the document's states. -/
import Derived.Test.YtjfpnbnkfcgjcaaC23h
namespace Go.Proofs.Ytjfpnbnkfcgjcaa
set_option linter.unusedVariables false
set_option linter.unusedSimpArgs false
open Go.RowKit
end Go.Proofs.Ytjfpnbnkfcgjcaa
