import Derived.Test.YtkkgpjklcpnicaaIr
namespace Stk
open Go
set_option maxRecDepth 100000
theorem c2 : chkF Go.Proofs.Try.prog [] Go.Proofs.Try.f2 ir2 = true := by decide +kernel
theorem c3 : chkF Go.Proofs.Try.prog [] Go.Proofs.Try.f3 ir3 = true := by decide +kernel
theorem c4 : chkF Go.Proofs.Try.prog [] Go.Proofs.Try.f4 ir4 = true := by decide +kernel
theorem c5 : chkF Go.Proofs.Try.prog [] Go.Proofs.Try.f5 ir5 = true := by decide +kernel
theorem c6 : chkF Go.Proofs.Try.prog [] Go.Proofs.Try.f6 ir6 = true := by decide +kernel
theorem c7 : chkF Go.Proofs.Try.prog [] Go.Proofs.Try.f7 ir7 = true := by decide +kernel
theorem c8 : chkF Go.Proofs.Try.prog [] Go.Proofs.Try.f8 ir8 = true := by decide +kernel
theorem c9 : chkF Go.Proofs.Try.prog [] Go.Proofs.Try.f9 ir9 = true := by decide +kernel
theorem c10 : chkF Go.Proofs.Try.prog [] Go.Proofs.Try.f10 ir10 = true := by decide +kernel
theorem c11 : chkF Go.Proofs.Try.prog [] Go.Proofs.Try.f11 ir11 = true := by decide +kernel
theorem c12 : chkF Go.Proofs.Try.prog [] Go.Proofs.Try.f12 ir12 = true := by decide +kernel
theorem c13 : chkF Go.Proofs.Try.prog [] Go.Proofs.Try.f13 ir13 = true := by decide +kernel
theorem c14 : chkF Go.Proofs.Try.prog [] Go.Proofs.Try.f14 ir14 = true := by decide +kernel
theorem c15 : chkF Go.Proofs.Try.prog [] Go.Proofs.Try.f15 ir15 = true := by decide +kernel
theorem c16 : chkF Go.Proofs.Try.prog [] Go.Proofs.Try.f16 ir16 = true := by decide +kernel
theorem c17 : chkF Go.Proofs.Try.prog [] Go.Proofs.Try.f17 ir17 = true := by decide +kernel
theorem c18 : chkF Go.Proofs.Try.prog [] Go.Proofs.Try.f18 ir18 = true := by decide +kernel
theorem c19 : chkF Go.Proofs.Try.prog [] Go.Proofs.Try.f19 ir19 = true := by decide +kernel
theorem c20 : chkF Go.Proofs.Try.prog [] Go.Proofs.Try.f20 ir20 = true := by decide +kernel
theorem c21 : chkF Go.Proofs.Try.prog [] Go.Proofs.Try.f21 ir21 = true := by decide +kernel
theorem c22 : chkF Go.Proofs.Try.prog [] Go.Proofs.Try.f22 ir22 = true := by decide +kernel
theorem c23 : chkF Go.Proofs.Try.prog [] Go.Proofs.Try.f23 ir23 = true := by decide +kernel
theorem c24 : chkF Go.Proofs.Try.prog [] Go.Proofs.Try.f24 ir24 = true := by decide +kernel
theorem c25 : chkF Go.Proofs.Try.prog [] Go.Proofs.Try.f25 ir25 = true := by decide +kernel
theorem c26 : chkF Go.Proofs.Try.prog [] Go.Proofs.Try.f26 ir26 = true := by decide +kernel
theorem c27 : chkF Go.Proofs.Try.prog [] Go.Proofs.Try.f27 ir27 = true := by decide +kernel
theorem c28 : chkF Go.Proofs.Try.prog [] Go.Proofs.Try.f28 ir28 = true := by decide +kernel
theorem c29 : chkF Go.Proofs.Try.prog [] Go.Proofs.Try.f29 ir29 = true := by decide +kernel
theorem c30 : chkF Go.Proofs.Try.prog [] Go.Proofs.Try.f30 ir30 = true := by decide +kernel
theorem c31 : chkF Go.Proofs.Try.prog [] Go.Proofs.Try.f31 ir31 = true := by decide +kernel
theorem c32 : chkF Go.Proofs.Try.prog [] Go.Proofs.Try.f32 ir32 = true := by decide +kernel
theorem c33 : chkF Go.Proofs.Try.prog [] Go.Proofs.Try.f33 ir33 = true := by decide +kernel
theorem c34 : chkF Go.Proofs.Try.prog [] Go.Proofs.Try.f34 ir34 = true := by decide +kernel
theorem c35 : chkF Go.Proofs.Try.prog [] Go.Proofs.Try.f35 ir35 = true := by decide +kernel
theorem c36 : chkF Go.Proofs.Try.prog [] Go.Proofs.Try.f36 ir36 = true := by decide +kernel
theorem c37 : chkF Go.Proofs.Try.prog [] Go.Proofs.Try.f37 ir37 = true := by decide +kernel
theorem c38 : chkF Go.Proofs.Try.prog [] Go.Proofs.Try.f38 ir38 = true := by decide +kernel
theorem c39 : chkF Go.Proofs.Try.prog [] Go.Proofs.Try.f39 ir39 = true := by decide +kernel
theorem c40 : chkF Go.Proofs.Try.prog [] Go.Proofs.Try.f40 ir40 = true := by decide +kernel
theorem c41 : chkF Go.Proofs.Try.prog [] Go.Proofs.Try.f41 ir41 = true := by decide +kernel
end Stk
