/- The walks of watershedkit over bytes: marks, what is lent, whether it is kept. -/
import Derived.Test.YtklmbkkeiihgdaaProg
import Derived.Test.YtklmbkkeiihgdaaRows2
import Derived.BigQuiet
import Derived.Deep.QuietTactic
namespace Go.Proofs.Ytklmbkkeiihgdaa
open Go.RowKit
set_option maxRecDepth 100000
end Go.Proofs.Ytklmbkkeiihgdaa
