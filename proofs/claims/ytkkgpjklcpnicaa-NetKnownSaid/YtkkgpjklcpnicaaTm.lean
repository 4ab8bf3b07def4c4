import Derived.Test.YtkkgpjklcpnicaaTk
import Derived.Test.YtkkgpjklcpnicaaTa
namespace Stk
open Go
set_option maxRecDepth 1000000
theorem tabOK27 : TabOK Go.Proofs.Try.prog [] tab27 := by
  refine ⟨fun f ir h => ?_⟩
  unfold tab27 at h
  split at h
  · cases h; exact ⟨Go.Proofs.Try.f5, rfl, by decide +kernel, c5, rfl⟩
  · cases h; exact ⟨Go.Proofs.Try.f6, rfl, by decide +kernel, c6, rfl⟩
  · cases h; exact ⟨Go.Proofs.Try.f7, rfl, by decide +kernel, c7, rfl⟩
  · cases h; exact ⟨Go.Proofs.Try.f8, rfl, by decide +kernel, c8, rfl⟩
  · cases h; exact ⟨Go.Proofs.Try.f9, rfl, by decide +kernel, c9, rfl⟩
  · cases h; exact ⟨Go.Proofs.Try.f10, rfl, by decide +kernel, c10, rfl⟩
  · cases h; exact ⟨Go.Proofs.Try.f11, rfl, by decide +kernel, c11, rfl⟩
  · cases h; exact ⟨Go.Proofs.Try.f12, rfl, by decide +kernel, c12, rfl⟩
  · cases h; exact ⟨Go.Proofs.Try.f13, rfl, by decide +kernel, c13, rfl⟩
  · cases h; exact ⟨Go.Proofs.Try.f14, rfl, by decide +kernel, c14, rfl⟩
  · cases h; exact ⟨Go.Proofs.Try.f15, rfl, by decide +kernel, c15, rfl⟩
  · cases h; exact ⟨Go.Proofs.Try.f16, rfl, by decide +kernel, c16, rfl⟩
  · cases h; exact ⟨Go.Proofs.Try.f18, rfl, by decide +kernel, c18, rfl⟩
  · cases h; exact ⟨Go.Proofs.Try.f20, rfl, by decide +kernel, c20, rfl⟩
  · cases h; exact ⟨Go.Proofs.Try.f21, rfl, by decide +kernel, c21, rfl⟩
  · cases h; exact ⟨Go.Proofs.Try.f23, rfl, by decide +kernel, c23, rfl⟩
  · cases h; exact ⟨Go.Proofs.Try.f26, rfl, by decide +kernel, c26, rfl⟩
  · cases h; exact ⟨Go.Proofs.Try.f28, rfl, by decide +kernel, c28, rfl⟩
  · cases h; exact ⟨Go.Proofs.Try.f30, rfl, by decide +kernel, c30, rfl⟩
  · cases h; exact ⟨Go.Proofs.Try.f31, rfl, by decide +kernel, c31, rfl⟩
  · cases h; exact ⟨Go.Proofs.Try.f32, rfl, by decide +kernel, c32, rfl⟩
  · cases h; exact ⟨Go.Proofs.Try.f33, rfl, by decide +kernel, c33, rfl⟩
  · cases h; exact ⟨Go.Proofs.Try.f34, rfl, by decide +kernel, c34, rfl⟩
  · cases h; exact ⟨Go.Proofs.Try.f35, rfl, by decide +kernel, c35, rfl⟩
  · cases h; exact ⟨Go.Proofs.Try.f36, rfl, by decide +kernel, c36, rfl⟩
  · cases h; exact ⟨Go.Proofs.Try.f37, rfl, by decide +kernel, c37, rfl⟩
  · cases h; exact ⟨Go.Proofs.Try.f39, rfl, by decide +kernel, c39, rfl⟩
  · cases h; exact ⟨Go.Proofs.Try.f40, rfl, by decide +kernel, c40, rfl⟩
  · cases h; exact ⟨Go.Proofs.Try.f41, rfl, by decide +kernel, c41, rfl⟩
  · cases h
end Stk
