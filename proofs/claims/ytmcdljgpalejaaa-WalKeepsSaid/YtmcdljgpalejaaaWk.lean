/- wakes() returns true: a closed run. -/
import Derived.Test.YtmcdljgpalejaaaCk
namespace Stk
open Go
set_option maxRecDepth 1000000
theorem k_wakes : ACalls PP GG F.law22_wakes [] [] fun r H' => r = .t (.bool true) ∧ H' = [] :=
  known_calls0 K.law22_wakes tabAll_ok 300 (by decide +kernel)
end Stk
