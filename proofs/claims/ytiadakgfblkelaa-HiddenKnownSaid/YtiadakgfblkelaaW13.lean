/- What functions compute. No conditions. -/
import Derived.Test.YtiadakgfblkelaaW8
import Derived.KernelRfl
set_option linter.all false
namespace Go.Ab
set_option maxRecDepth 100000
theorem known17 : g_law17_HiddenKnown = some true := by kernel_rfl
end Go.Ab
