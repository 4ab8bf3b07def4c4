/- Blocks of letters, piece 1. -/
import Derived.Test.YtidggdjonahmkaaDoorK2
namespace Stk
open Go
set_option maxRecDepth 1000000
set_option linter.unusedSimpArgs false
set_option linter.unusedVariables false
set_option maxHeartbeats 8000000
theorem ch0 : itH lsA 1600 (toH 1779033703 3144134277 1013904242 2773480762 1359893119 2600822924 528734635 1541459225) = toH 212913611 2979232359 458165939 4205878686 1505768701 2150489031 1696381965 2532882393 := chunk ⟨by decide, by decide, by decide, by decide, by decide, by decide, by decide, by decide⟩ (by decide +kernel)
theorem ch1600 : itH lsA 1600 (toH 212913611 2979232359 458165939 4205878686 1505768701 2150489031 1696381965 2532882393) = toH 2362690370 2294109310 4234754467 74857112 4042718059 2579405014 3958047461 1659605728 := chunk ⟨by decide, by decide, by decide, by decide, by decide, by decide, by decide, by decide⟩ (by decide +kernel)
theorem ch3200 : itH lsA 1600 (toH 2362690370 2294109310 4234754467 74857112 4042718059 2579405014 3958047461 1659605728) = toH 4169840104 781213274 3190144832 228802406 2098731969 1241348312 292198808 2674599542 := chunk ⟨by decide, by decide, by decide, by decide, by decide, by decide, by decide, by decide⟩ (by decide +kernel)
end Stk
