/- Part 5 of a proof about this seat: Kt1. (Own work of this repo.) -/
import Derived.Test.YtnpomadbaanpkaaZLinearAll4
set_option linter.unusedVariables false
set_option linter.unusedSimpArgs false
/- The first example of chapter 5, carried out. (Own work of this repo.) -/
namespace Go.Proofs.Ytnpomadbaanpkaa
open Vm
set_option maxRecDepth 1000000
theorem kt1 : denP E 7 [.lst false [.lst false [I false 2, I false 4]], .lst false [I false 3]] = some (.ret (.tup [.agg [.bool false, .lst true [], .lst true [], .lst false [I false 1], .bool false, .lst false [.int .u32 2]], .int .i64 0])) := denP_ker 600 (by kernel_rfl)
end Go.Proofs.Ytnpomadbaanpkaa
