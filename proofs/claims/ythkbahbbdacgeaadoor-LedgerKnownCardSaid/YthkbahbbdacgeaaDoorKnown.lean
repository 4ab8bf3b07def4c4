/- LedgerKnown: the document's examples, a closed run that leans on the digests. -/
import Derived.Test.YthkbahbbdacgeaaDoorS1
import Derived.Test.YthkbahbbdacgeaaDoorS2
namespace Stk
open Go
set_option maxRecDepth 1000000
theorem facts_ok : ∀ b ∈ [fRef, fSha], FactOK PP GG b := fun b hb => by
  rcases List.mem_cons.1 hb with rfl | hb
  · exact k_fRef
  · rw [List.mem_singleton.1 hb]; exact k_fSha
theorem k_known : FactOK PP GG ⟨F.law23_LedgerKnown, [], [], .t (.bool true), []⟩ :=
  fact_of (a := ⟨F.law23_LedgerKnown, [], [], .t (.bool true), []⟩) K.law23_LedgerKnown tabAll_ok (fs := [fRef, fSha]) facts_ok (fun _ => true) 20000 (by decide +kernel)
theorem l_known : ACalls PP GG F.law23_LedgerKnown [] [] fun r _ => r = .t (.bool true) := ACalls.mono k_known fun _ _ h => h.1
end Stk
