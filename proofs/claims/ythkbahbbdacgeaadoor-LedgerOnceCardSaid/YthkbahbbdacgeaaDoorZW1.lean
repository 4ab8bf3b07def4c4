/- The first example holds: a closed run that leans on the digests. -/
import Derived.Test.YthkbahbbdacgeaaDoorZj13
namespace Stk
open Go
set_option maxRecDepth 1000000
theorem facts_ok : ∀ b ∈ [fRef, fSha], FactOK PP GG b := fun b hb => by
  rcases List.mem_cons.1 hb with rfl | hb
  · exact k_fRef
  · rw [List.mem_singleton.1 hb]; exact k_fSha
theorem k_awake : FactOK PP GG ⟨F.law23_awake, [], [], .t (.bool true), []⟩ :=
  fact_of (a := ⟨F.law23_awake, [], [], .t (.bool true), []⟩) K.law23_awake tabAll_ok (fs := [fRef, fSha]) facts_ok (fun _ => true) 20000 (by decide +kernel)
def smL (p : Int) : List Tr := [.int .u8 0, .int .u8 2, .int .u8 0, .int .u8 183, .int .u8 0, .int .u8 0, .int .u8 0, .int .u8 p, .int .u8 0, .int .u8 0, .int .u8 0, .int .u8 149, .int .u8 0, .int .u8 0, .int .u8 0, .int .u8 0, .int .u8 0, .int .u8 0, .int .u8 0]
abbrev smF (p : Int) : Fact := ⟨F.law23_small, [.t (.int .i32 p)], [], .sl 0 0 [] 0 19 none, [.row 1 (smL p)]⟩
theorem sm_run : ∀ p : Fin 40, resFact [] (fun _ => true) (tabL tabAll) 3000 (smF ((p.val : Int) + 1)) I.law23_small = true := by decide +kernel
theorem k_small (p : Int) (h : 1 ≤ p ∧ p ≤ 40) : FactOK PP GG (smF p) := by
  have e : p = (((⟨(p - 1).toNat, by omega⟩ : Fin 40).val : Int) + 1) := by simp only; omega
  rw [e]
  exact fact_of (a := smF _) K.law23_small tabAll_ok (fs := []) (fun b hb => by cases hb) (fun _ => true) 3000 (sm_run _)
end Stk
