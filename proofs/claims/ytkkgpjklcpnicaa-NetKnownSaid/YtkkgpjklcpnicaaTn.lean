import Derived.Test.YtkkgpjklcpnicaaTl
import Derived.Test.YtkkgpjklcpnicaaTm
namespace Stk
open Go Go.RowKit
set_option maxRecDepth 1000000
theorem isTrue_ret {e : Ex} {fr : Fr} {H : Hp} (h : isTrue e fr H = true) : retP (fun r _ => r = .t (.bool true)) e fr H := by
  unfold isTrue at h
  split at h
  · rename_i b; subst h; exact rfl
  · cases h
theorem netKnown_calls (W : World) : Calls Go.Proofs.Try.prog 5 #[] W fun en W' => en = .returned (.bool true) ∧ Below W.heap.size W W' := by
  refine law_calls (xs := []) ?_ (by simp [toAVs, AV.vals])
  exact acalls_of (fn := Go.Proofs.Try.f5) rfl (by decide +kernel) c5 (Nat.le_of_ble_eq_true rfl) (sat_mono (fun e fr H h => isTrue_ret h) (okT_sound tabOK27 2000 known5))
end Stk
