/- The first examples of the chapter hold: a closed run. -/
import Derived.Test.YtfffephdhnoiaaaCk
import Derived.Test.YtfffephdhnoiaaaFw29
namespace Stk
open Go
set_option maxRecDepth 1000000
theorem k_awake : ACalls PP GG F.law24_awake [] [] fun r H' => r = .t (.bool true) ∧ H' = [] :=
  known_callsR K.law24_awake tabAll_ok (fun _ => true) 2000 (by decide +kernel)
end Stk
