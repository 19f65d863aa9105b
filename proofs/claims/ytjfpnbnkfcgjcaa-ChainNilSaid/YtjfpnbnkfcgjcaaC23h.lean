/- Chapter 23: the document's steps and losses. -/
import Derived.Test.YtjfpnbnkfcgjcaaC23g
import Derived.Test.YtjfpnbnkfcgjcaaQl
namespace Go.Proofs.Ytjfpnbnkfcgjcaa
set_option linter.unusedVariables false
set_option linter.unusedSimpArgs false
open Go.RowKit
end Go.Proofs.Ytjfpnbnkfcgjcaa
