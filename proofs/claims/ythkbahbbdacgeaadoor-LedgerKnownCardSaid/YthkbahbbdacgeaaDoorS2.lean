/- The digest of a small image. -/
import Derived.Test.YthkbahbbdacgeaaDoorS0
import Derived.Test.YthkbahbbdacgeaaDoorT6
namespace Stk
open Go
set_option maxRecDepth 1000000
theorem dat_bfSha : AllB dat := by
  intro y hy
  simp only [dat, List.mem_cons, List.not_mem_nil, or_false] at hy
  rcases hy with rfl | rfl | rfl | rfl | rfl | rfl | rfl | rfl | rfl | rfl | rfl | rfl | rfl | rfl | rfl | rfl | rfl | rfl | rfl <;> exact ⟨_, rfl, by decide, by decide⟩
theorem digfSha : Tr.sames (shaL dat) [.int .u8 107, .int .u8 74, .int .u8 174, .int .u8 8, .int .u8 237, .int .u8 17, .int .u8 97, .int .u8 122, .int .u8 57, .int .u8 129, .int .u8 152, .int .u8 211, .int .u8 77, .int .u8 247, .int .u8 87, .int .u8 83, .int .u8 211, .int .u8 140, .int .u8 241, .int .u8 176, .int .u8 11, .int .u8 85, .int .u8 25, .int .u8 234, .int .u8 49, .int .u8 230, .int .u8 12, .int .u8 220, .int .u8 27, .int .u8 173, .int .u8 67, .int .u8 41] = true := by decide +kernel
theorem k_fSha : FactOK PP GG fSha := by
  have h := k_sum dat dat_bfSha (by decide)
  rw [Tr.sames_eq digfSha] at h
  exact h
end Stk
