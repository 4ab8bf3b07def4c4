/- Blocks of letters, piece 3. -/
import Derived.Test.YtidggdjonahmkaaDoorK2
namespace Stk
open Go
set_option maxRecDepth 1000000
set_option linter.unusedSimpArgs false
set_option linter.unusedVariables false
set_option maxHeartbeats 8000000
theorem ch9600 : itH lsA 1600 (toH 2740251471 316208027 1943486848 3104084498 2036430906 1643153921 1933540776 257711243) = toH 3478478699 3552679815 1832684609 1117599125 2618767424 4154342727 1639246137 3085970758 := chunk ⟨by decide, by decide, by decide, by decide, by decide, by decide, by decide, by decide⟩ (by decide +kernel)
theorem ch11200 : itH lsA 1600 (toH 3478478699 3552679815 1832684609 1117599125 2618767424 4154342727 1639246137 3085970758) = toH 3390172170 1180228387 2900169994 4023644691 389078879 2208646549 4279155264 4141382274 := chunk ⟨by decide, by decide, by decide, by decide, by decide, by decide, by decide, by decide⟩ (by decide +kernel)
end Stk
