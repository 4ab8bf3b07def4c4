/- New, Copy, Sum of the program. -/
import Derived.Test.YthkbahbbdacgeaaDoorT5
namespace Stk
open Go
set_option maxRecDepth 100000
set_option linter.unusedSimpArgs false
set_option linter.unusedVariables false
set_option maxHeartbeats 8000000
abbrev w0 : List Tr := List.replicate 64 (u8 0)
theorem di0 : DI [] w0 := ⟨rfl, fun y hy => ⟨0, List.eq_of_mem_replicate hy, by omega, by omega⟩, rfl⟩
theorem k_new : ACalls PP GG F.sha_New [] [] fun r H' => r = pt 0 ∧ H' = [.var (.t (dG [] w0))] := by
  refine K.sha_New.callsC rfl ?_
  (conv => arg 3; whnf); repeat ((first | (with_reducible apply sT); rfl | (with_reducible apply sF); rfl | (with_reducible apply sE); rfl); conv => arg 3; whnf)
  exact sat_ret ⟨rfl, rfl⟩
theorem k_sum (L : List Tr) (hL : AllB L) (hl : L.length ≤ 2 ^ 48) : ACalls PP GG F.sha_Sum [.bz 1 L] [] fun r H' => r = .t (.arr 32 (shaL L)) ∧ H' = [] := by
  refine K.sha_Sum.callsC rfl ?_
  (conv => arg 3; whnf); repeat ((first | (with_reducible apply sT); rfl | (with_reducible apply sF); rfl | (with_reducible apply sE); rfl); conv => arg 3; whnf)
  refine sat_call k_new ?_
  rintro r H' ⟨rfl, rfl⟩
  (conv => arg 3; whnf); repeat ((first | (with_reducible apply sT); rfl | (with_reducible apply sF); rfl | (with_reducible apply sE); rfl); conv => arg 3; whnf)
  refine sat_call (k_write [] L w0 hL di0 (by simp; omega)) ?_
  rintro r H' ⟨rfl, wt, di, rfl⟩
  rw [List.nil_append] at di ⊢
  (conv => arg 3; whnf); repeat ((first | (with_reducible apply sT); rfl | (with_reducible apply sF); rfl | (with_reducible apply sE); rfl); conv => arg 3; whnf)
  refine sat_call (k_dsum L wt di hl) ?_
  rintro r H' ⟨rfl, rfl⟩
  (conv => arg 3; whnf); repeat ((first | (with_reducible apply sT); rfl | (with_reducible apply sF); rfl | (with_reducible apply sE); rfl); conv => arg 3; whnf)
  exact sat_ret ⟨rfl, rfl⟩
end Stk
