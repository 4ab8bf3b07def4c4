/- Blocks of letters, piece 4. -/
import Derived.Test.YtidggdjonahmkaaDoorK2
namespace Stk
open Go
set_option maxRecDepth 1000000
set_option linter.unusedSimpArgs false
set_option linter.unusedVariables false
set_option maxHeartbeats 8000000
theorem ch12800 : itH lsA 1600 (toH 3390172170 1180228387 2900169994 4023644691 389078879 2208646549 4279155264 4141382274) = toH 3316499398 3251168373 1796236951 3801695664 2724068221 32523662 1120393517 797619547 := chunk ⟨by decide, by decide, by decide, by decide, by decide, by decide, by decide, by decide⟩ (by decide +kernel)
theorem ch14400 : itH lsA 1225 (toH 3316499398 3251168373 1796236951 3801695664 2724068221 32523662 1120393517 797619547) = toH 2061136107 1745259042 791610055 2140370626 1884297759 3529239238 671294972 693152569 := chunk ⟨by decide, by decide, by decide, by decide, by decide, by decide, by decide, by decide⟩ (by decide +kernel)
end Stk
