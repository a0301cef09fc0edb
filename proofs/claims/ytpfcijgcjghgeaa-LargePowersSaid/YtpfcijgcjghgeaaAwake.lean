/- The examples of the chapter hold. (Own work of this repo.) -/
import Derived.Test.YtpfcijgcjghgeaaEnv
import Derived.Test.YtpfcijgcjghgeaaVm24
set_option linter.unusedVariables false
set_option linter.unusedSimpArgs false
namespace Go.Proofs.Ytpfcijgcjghgeaa
open Vm
set_option maxRecDepth 100000 in
theorem awake14 : denP E 14 [] = some (.ret (.bool true)) := denP_of (n := 200) (by kernel_rfl)

end Go.Proofs.Ytpfcijgcjghgeaa
