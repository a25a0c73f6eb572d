/-
  The contract of the laws' comparison of two ratios. Conditions: both are the same.
-/
import Derived.Test.YthpgkngkmmameaaBase
import Derived.Test.YthpgkngkmmameaaArg
namespace Go.Proofs.Ythpgkngkmmameaa
open Go.RowKit
set_option linter.unusedVariables false
end Go.Proofs.Ythpgkngkmmameaa
