/- Blocks of letters, piece 2. -/
import Derived.Test.YtidggdjonahmkaaDoorK2
namespace Stk
open Go
set_option maxRecDepth 1000000
set_option linter.unusedSimpArgs false
set_option linter.unusedVariables false
set_option maxHeartbeats 8000000
theorem ch4800 : itH lsA 1600 (toH 4169840104 781213274 3190144832 228802406 2098731969 1241348312 292198808 2674599542) = toH 2600073280 1632660400 791718053 1054505972 3687513598 3132772204 2120765082 2820739211 := chunk ⟨by decide, by decide, by decide, by decide, by decide, by decide, by decide, by decide⟩ (by decide +kernel)
theorem ch6400 : itH lsA 1600 (toH 2600073280 1632660400 791718053 1054505972 3687513598 3132772204 2120765082 2820739211) = toH 365602951 4150781828 1268961766 2892834699 688178498 3951390503 324146750 394001364 := chunk ⟨by decide, by decide, by decide, by decide, by decide, by decide, by decide, by decide⟩ (by decide +kernel)
theorem ch8000 : itH lsA 1600 (toH 365602951 4150781828 1268961766 2892834699 688178498 3951390503 324146750 394001364) = toH 2740251471 316208027 1943486848 3104084498 2036430906 1643153921 1933540776 257711243 := chunk ⟨by decide, by decide, by decide, by decide, by decide, by decide, by decide, by decide⟩ (by decide +kernel)
end Stk
