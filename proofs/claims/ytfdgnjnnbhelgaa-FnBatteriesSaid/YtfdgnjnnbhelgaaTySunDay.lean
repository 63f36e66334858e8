/- The helpers of SunDay (2 numbers a value): made by gen.py. -/
import Derived.Test.YtfdgnjnnbhelgaaLib
namespace Go.Proofs.Ytfdgnjnnbhelgaa
open Go.RowKit
set_option linter.unusedVariables false
set_option linter.unusedSimpArgs false

end Go.Proofs.Ytfdgnjnnbhelgaa
