/- RaftKnown: the document's examples, a closed run. -/
import Derived.Test.YtfffephdhnoiaaaCk
import Derived.Test.YtfffephdhnoiaaaFw29
namespace Stk
open Go
set_option maxRecDepth 1000000
theorem l_known : ACalls PP GG F.law24_RaftKnown [] [] fun r _ => r = .t (.bool true) :=
  (known_callsR K.law24_RaftKnown tabAll_ok (fun _ => true) 2000 (by decide +kernel)).mono fun _ _ h => h.1
end Stk
