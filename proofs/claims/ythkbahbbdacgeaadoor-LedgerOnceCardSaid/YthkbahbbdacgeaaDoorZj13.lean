/- Several texts of this claim, joined into one file. -/
import Derived.Test.YthkbahbbdacgeaaDoorZCk
import Derived.Test.YthkbahbbdacgeaaDoorZFw30
import Derived.Test.YthkbahbbdacgeaaDoorZj10
import Derived.Test.YthkbahbbdacgeaaDoorZj9
section
/- A small image and its digest. -/
namespace Stk
open Go
set_option maxRecDepth 1000000
def dat : List Tr := [.int .u8 0, .int .u8 2, .int .u8 0, .int .u8 183, .int .u8 0, .int .u8 0, .int .u8 0, .int .u8 1, .int .u8 0, .int .u8 0, .int .u8 0, .int .u8 149, .int .u8 0, .int .u8 0, .int .u8 0, .int .u8 0, .int .u8 0, .int .u8 0, .int .u8 0]
def dig : Tr := .arr 32 [.int .u8 107, .int .u8 74, .int .u8 174, .int .u8 8, .int .u8 237, .int .u8 17, .int .u8 97, .int .u8 122, .int .u8 57, .int .u8 129, .int .u8 152, .int .u8 211, .int .u8 77, .int .u8 247, .int .u8 87, .int .u8 83, .int .u8 211, .int .u8 140, .int .u8 241, .int .u8 176, .int .u8 11, .int .u8 85, .int .u8 25, .int .u8 234, .int .u8 49, .int .u8 230, .int .u8 12, .int .u8 220, .int .u8 27, .int .u8 173, .int .u8 67, .int .u8 41]
def fRef : Fact := ⟨F.ref17_Sum, [.bz 1 [.int .u8 0, .int .u8 2, .int .u8 0, .int .u8 183, .int .u8 0, .int .u8 0, .int .u8 0, .int .u8 1, .int .u8 0, .int .u8 0, .int .u8 0, .int .u8 149, .int .u8 0, .int .u8 0, .int .u8 0, .int .u8 0, .int .u8 0, .int .u8 0, .int .u8 0]], [], .t (.arr 32 [.int .u8 107, .int .u8 74, .int .u8 174, .int .u8 8, .int .u8 237, .int .u8 17, .int .u8 97, .int .u8 122, .int .u8 57, .int .u8 129, .int .u8 152, .int .u8 211, .int .u8 77, .int .u8 247, .int .u8 87, .int .u8 83, .int .u8 211, .int .u8 140, .int .u8 241, .int .u8 176, .int .u8 11, .int .u8 85, .int .u8 25, .int .u8 234, .int .u8 49, .int .u8 230, .int .u8 12, .int .u8 220, .int .u8 27, .int .u8 173, .int .u8 67, .int .u8 41]), []⟩
def fSha : Fact := ⟨F.sha_Sum, [.bz 1 [.int .u8 0, .int .u8 2, .int .u8 0, .int .u8 183, .int .u8 0, .int .u8 0, .int .u8 0, .int .u8 1, .int .u8 0, .int .u8 0, .int .u8 0, .int .u8 149, .int .u8 0, .int .u8 0, .int .u8 0, .int .u8 0, .int .u8 0, .int .u8 0, .int .u8 0]], [], .t (.arr 32 [.int .u8 107, .int .u8 74, .int .u8 174, .int .u8 8, .int .u8 237, .int .u8 17, .int .u8 97, .int .u8 122, .int .u8 57, .int .u8 129, .int .u8 152, .int .u8 211, .int .u8 77, .int .u8 247, .int .u8 87, .int .u8 83, .int .u8 211, .int .u8 140, .int .u8 241, .int .u8 176, .int .u8 11, .int .u8 85, .int .u8 25, .int .u8 234, .int .u8 49, .int .u8 230, .int .u8 12, .int .u8 220, .int .u8 27, .int .u8 173, .int .u8 67, .int .u8 41]), []⟩
end Stk
end

section
/- The digest of a small image. -/
namespace Stk
open Go
set_option maxRecDepth 1000000
theorem dat_bfRef : AllB dat := by
  intro y hy
  simp only [dat, List.mem_cons, List.not_mem_nil, or_false] at hy
  rcases hy with rfl | rfl | rfl | rfl | rfl | rfl | rfl | rfl | rfl | rfl | rfl | rfl | rfl | rfl | rfl | rfl | rfl | rfl | rfl <;> exact ⟨_, rfl, by decide, by decide⟩
theorem digfRef : Tr.sames (shaL dat) [.int .u8 107, .int .u8 74, .int .u8 174, .int .u8 8, .int .u8 237, .int .u8 17, .int .u8 97, .int .u8 122, .int .u8 57, .int .u8 129, .int .u8 152, .int .u8 211, .int .u8 77, .int .u8 247, .int .u8 87, .int .u8 83, .int .u8 211, .int .u8 140, .int .u8 241, .int .u8 176, .int .u8 11, .int .u8 85, .int .u8 25, .int .u8 234, .int .u8 49, .int .u8 230, .int .u8 12, .int .u8 220, .int .u8 27, .int .u8 173, .int .u8 67, .int .u8 41] = true := by decide +kernel
theorem k_fRef : FactOK PP GG fRef := by
  have h := r_sum dat dat_bfRef (by decide)
  rw [Tr.sames_eq digfRef] at h
  exact h
end Stk
end

section
/- The digest of a small image. -/
namespace Stk
open Go
set_option maxRecDepth 1000000
theorem dat_bfSha : AllB dat := by
  intro y hy
  simp only [dat, List.mem_cons, List.not_mem_nil, or_false] at hy
  rcases hy with rfl | rfl | rfl | rfl | rfl | rfl | rfl | rfl | rfl | rfl | rfl | rfl | rfl | rfl | rfl | rfl | rfl | rfl | rfl <;> exact ⟨_, rfl, by decide, by decide⟩
theorem digfSha : Tr.sames (shaL dat) [.int .u8 107, .int .u8 74, .int .u8 174, .int .u8 8, .int .u8 237, .int .u8 17, .int .u8 97, .int .u8 122, .int .u8 57, .int .u8 129, .int .u8 152, .int .u8 211, .int .u8 77, .int .u8 247, .int .u8 87, .int .u8 83, .int .u8 211, .int .u8 140, .int .u8 241, .int .u8 176, .int .u8 11, .int .u8 85, .int .u8 25, .int .u8 234, .int .u8 49, .int .u8 230, .int .u8 12, .int .u8 220, .int .u8 27, .int .u8 173, .int .u8 67, .int .u8 41] = true := by decide +kernel
theorem k_fSha : FactOK PP GG fSha := by
  have h := k_sum dat dat_bfSha (by decide)
  rw [Tr.sames_eq digfSha] at h
  exact h
end Stk
end
