import Derived.Test.YtkkgpjklcpnicaaIr
import Derived.Test.YtkkgpjklcpnicaaFw24
namespace Stk
open Go
set_option maxRecDepth 1000000
def tab27 : FuncId → Option IF := fun f => match f with
  | 5 => some ir5 | 6 => some ir6 | 7 => some ir7 | 8 => some ir8 | 9 => some ir9 | 10 => some ir10 | 11 => some ir11 | 12 => some ir12 | 13 => some ir13 | 14 => some ir14
  | 15 => some ir15 | 16 => some ir16 | 18 => some ir18 | 20 => some ir20 | 21 => some ir21 | 23 => some ir23 | 26 => some ir26 | 28 => some ir28 | 30 => some ir30 | 31 => some ir31 | 32 => some ir32
  | 33 => some ir33 | 34 => some ir34 | 35 => some ir35 | 36 => some ir36 | 37 => some ir37 | 39 => some ir39 | 40 => some ir40 | 41 => some ir41
  | _ => none
def isTrue : Ex → Fr → Hp → Bool
  | .ret, [(_, .t (.bool b))], _ => b
  | _, _, _ => false
end Stk
