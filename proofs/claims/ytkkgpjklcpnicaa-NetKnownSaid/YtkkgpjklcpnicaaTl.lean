import Derived.Test.YtkkgpjklcpnicaaTk
namespace Stk
open Go
set_option maxRecDepth 1000000
theorem known7 : okT tab27 300 (bodyT ir7 [] []) isTrue = true := by decide +kernel
theorem known5 : okT tab27 2000 (bodyT ir5 [] []) isTrue = true := by decide +kernel
end Stk
