/- Part 6 of a proof about this seat: Kt2. (Own work of this repo.) -/
import Derived.Test.YtnpomadbaanpkaaZLinearAll5
set_option linter.unusedVariables false
set_option linter.unusedSimpArgs false
/- The second example of chapter 5, carried out. (Own work of this repo.) -/
namespace Go.Proofs.Ytnpomadbaanpkaa
open Vm
set_option maxRecDepth 1000000
theorem kt2 : denP E 7 [.lst false [.lst false [I false 3, I false 5]], .lst false [I false 1]] = some (.ret (.tup [.agg [.bool true, .lst false [I false 2, I false (-1)], .lst false [.lst false [I false (-5), I false 3]], .lst true [], .bool false, .lst true []], .int .i64 0])) := denP_ker 600 (by kernel_rfl)
end Go.Proofs.Ytnpomadbaanpkaa
