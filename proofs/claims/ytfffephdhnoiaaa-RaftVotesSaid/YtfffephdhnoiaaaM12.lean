/- A server that is made. -/
import Derived.Test.YtfffephdhnoiaaaM8
namespace Stk
open Go
set_option maxRecDepth 100000
set_option linter.unusedSimpArgs false
set_option linter.unusedVariables false
set_option maxHeartbeats 8000000
structure NewOK (me sv term vote : Int) (L : List En) : Prop where
  fsv : 1 ≤ sv ∧ sv ≤ 5
  fme : 1 ≤ me ∧ me ≤ sv
  fterm : 0 ≤ term ∧ term ≤ 1099511627776
  fvote : 0 ≤ vote ∧ vote ≤ sv
  flen : L.length ≤ 200
  ftm : termsOK L 1 term = true
def newN (me sv term vote : Int) (L : List En) (p : Int) : Nd := ⟨me, sv, term, vote, 0, 0, 0, p, owned L, none, [0, 0, 0, 0, 0, 0], [0, 0, 0, 0, 0, 0]⟩
theorem k_new (me sv term vote : Int) (L : List En) (hL : EsOK L) (hl : L.length ≤ 2 ^ 60) (draw : Int) (hd : I64 draw) :
    ACalls PP GG F.raft_New [ti me, ti sv, .agg [ti term, ti vote, .bz 40 (esT L)], ti draw] [] fun r H' =>
      (NewOK me sv term vote L ∧ r = .tup [pt 0, ti 0] ∧ H' = (newN me sv term vote L (pat draw)).H (some L.length) (esT (owned L))) ∨ (¬ NewOK me sv term vote L ∧ r = .tup [.t .nilp, ti 1] ∧ H' = []) := by
  have kr := k_right L 1 term hl
  refine K.raft_New.callsC rfl ?_
  (conv => arg 3; whnf); repeat ((first | (with_reducible apply sT); rfl | (with_reducible apply sF); rfl | (with_reducible apply sE); rfl); conv => arg 3; whnf)
  refine sat_br (fun h1 => ?_) (fun h1 => ?_)
  · have h1 := of_decide_eq_true h1
    (conv => arg 3; whnf); repeat ((first | (with_reducible apply sT); rfl | (with_reducible apply sF); rfl | (with_reducible apply sE); rfl); conv => arg 3; whnf)
    exact sat_ret (.inr ⟨fun h => (by have := h.fsv; omega), rfl, rfl⟩)
  have a1 : 1 ≤ sv := by have := of_decide_eq_false h1; omega
  (conv => arg 3; whnf); repeat ((first | (with_reducible apply sT); rfl | (with_reducible apply sF); rfl | (with_reducible apply sE); rfl); conv => arg 3; whnf)
  refine sat_br (fun h1 => ?_) (fun h1 => ?_)
  · have h1 := of_decide_eq_true h1
    (conv => arg 3; whnf); repeat ((first | (with_reducible apply sT); rfl | (with_reducible apply sF); rfl | (with_reducible apply sE); rfl); conv => arg 3; whnf)
    exact sat_ret (.inr ⟨fun h => (by have := h.fsv; omega), rfl, rfl⟩)
  have a2 : sv ≤ 5 := by have := of_decide_eq_false h1; omega
  (conv => arg 3; whnf); repeat ((first | (with_reducible apply sT); rfl | (with_reducible apply sF); rfl | (with_reducible apply sE); rfl); conv => arg 3; whnf)
  refine sat_br (fun h1 => ?_) (fun h1 => ?_)
  · have h1 := of_decide_eq_true h1
    (conv => arg 3; whnf); repeat ((first | (with_reducible apply sT); rfl | (with_reducible apply sF); rfl | (with_reducible apply sE); rfl); conv => arg 3; whnf)
    exact sat_ret (.inr ⟨fun h => (by have := h.fme; omega), rfl, rfl⟩)
  have a3 : 1 ≤ me := by have := of_decide_eq_false h1; omega
  (conv => arg 3; whnf); repeat ((first | (with_reducible apply sT); rfl | (with_reducible apply sF); rfl | (with_reducible apply sE); rfl); conv => arg 3; whnf)
  refine sat_br (fun h1 => ?_) (fun h1 => ?_)
  · have h1 := of_decide_eq_true h1
    (conv => arg 3; whnf); repeat ((first | (with_reducible apply sT); rfl | (with_reducible apply sF); rfl | (with_reducible apply sE); rfl); conv => arg 3; whnf)
    exact sat_ret (.inr ⟨fun h => (by have := h.fme; omega), rfl, rfl⟩)
  have a4 : me ≤ sv := by have := of_decide_eq_false h1; omega
  (conv => arg 3; whnf); repeat ((first | (with_reducible apply sT); rfl | (with_reducible apply sF); rfl | (with_reducible apply sE); rfl); conv => arg 3; whnf)
  refine sat_br (fun h1 => ?_) (fun h1 => ?_)
  · have h1 := of_decide_eq_true h1
    (conv => arg 3; whnf); repeat ((first | (with_reducible apply sT); rfl | (with_reducible apply sF); rfl | (with_reducible apply sE); rfl); conv => arg 3; whnf)
    exact sat_ret (.inr ⟨fun h => (by have := h.fterm; omega), rfl, rfl⟩)
  have a5 : 0 ≤ term := by have := of_decide_eq_false h1; omega
  (conv => arg 3; whnf); repeat ((first | (with_reducible apply sT); rfl | (with_reducible apply sF); rfl | (with_reducible apply sE); rfl); conv => arg 3; whnf)
  refine sat_br (fun h1 => ?_) (fun h1 => ?_)
  · have h1 := of_decide_eq_true h1
    (conv => arg 3; whnf); repeat ((first | (with_reducible apply sT); rfl | (with_reducible apply sF); rfl | (with_reducible apply sE); rfl); conv => arg 3; whnf)
    exact sat_ret (.inr ⟨fun h => (by have := h.fterm; omega), rfl, rfl⟩)
  have a6 : term ≤ 1099511627776 := by have := of_decide_eq_false h1; omega
  (conv => arg 3; whnf); repeat ((first | (with_reducible apply sT); rfl | (with_reducible apply sF); rfl | (with_reducible apply sE); rfl); conv => arg 3; whnf)
  refine sat_br (fun h1 => ?_) (fun h1 => ?_)
  · have h1 := of_decide_eq_true h1
    (conv => arg 3; whnf); repeat ((first | (with_reducible apply sT); rfl | (with_reducible apply sF); rfl | (with_reducible apply sE); rfl); conv => arg 3; whnf)
    exact sat_ret (.inr ⟨fun h => (by have := h.fvote; omega), rfl, rfl⟩)
  have a7 : 0 ≤ vote := by have := of_decide_eq_false h1; omega
  (conv => arg 3; whnf); repeat ((first | (with_reducible apply sT); rfl | (with_reducible apply sF); rfl | (with_reducible apply sE); rfl); conv => arg 3; whnf)
  refine sat_br (fun h1 => ?_) (fun h1 => ?_)
  · have h1 := of_decide_eq_true h1
    (conv => arg 3; whnf); repeat ((first | (with_reducible apply sT); rfl | (with_reducible apply sF); rfl | (with_reducible apply sE); rfl); conv => arg 3; whnf)
    exact sat_ret (.inr ⟨fun h => (by have := h.fvote; omega), rfl, rfl⟩)
  have a8 : vote ≤ sv := by have := of_decide_eq_false h1; omega
  (conv => arg 3; whnf); repeat ((first | (with_reducible apply sT); rfl | (with_reducible apply sF); rfl | (with_reducible apply sE); rfl); conv => arg 3; whnf)
  rw [show (esT L).length = L.length by simp]
  refine sat_br (fun h1 => ?_) (fun h1 => ?_)
  · have h1 := of_decide_eq_true h1
    (conv => arg 3; whnf); repeat ((first | (with_reducible apply sT); rfl | (with_reducible apply sF); rfl | (with_reducible apply sE); rfl); conv => arg 3; whnf)
    exact sat_ret (.inr ⟨fun h => (by have := h.flen; omega), rfl, rfl⟩)
  have a9 : L.length ≤ 200 := by have := of_decide_eq_false h1; omega
  have ko := k_owned L hL (by omega)
  (conv => arg 3; whnf); repeat ((first | (with_reducible apply sT); rfl | (with_reducible apply sF); rfl | (with_reducible apply sE); rfl); conv => arg 3; whnf)
  refine sat_call kr ?_
  rintro r H' ⟨rfl, rfl⟩
  (conv => arg 3; whnf); repeat ((first | (with_reducible apply sT); rfl | (with_reducible apply sF); rfl | (with_reducible apply sE); rfl); conv => arg 3; whnf)
  refine sat_br (fun h1 => ?_) (fun h1 => ?_)
  · (conv => arg 3; whnf); repeat ((first | (with_reducible apply sT); rfl | (with_reducible apply sF); rfl | (with_reducible apply sE); rfl); conv => arg 3; whnf)
    exact sat_ret (.inr ⟨fun h => (by rw [h.ftm] at h1; cases h1), rfl, rfl⟩)
  have a10 : termsOK L 1 term = true := by simpa using h1
  (conv => arg 3; whnf); repeat ((first | (with_reducible apply sT); rfl | (with_reducible apply sF); rfl | (with_reducible apply sE); rfl); conv => arg 3; whnf)
  refine sat_call ko ?_
  rintro r H' ⟨rfl, rfl⟩
  (conv => arg 3; whnf); repeat ((first | (with_reducible apply sT); rfl | (with_reducible apply sF); rfl | (with_reducible apply sE); rfl); conv => arg 3; whnf)
  refine sat_call (k_patience draw hd) ?_
  rintro r H' ⟨⟨p, rfl, _, _, hp⟩, rfl⟩
  obtain rfl : p = pat draw := hp
  have e1 : (owned L).length = L.length := owned_len L
  (conv => arg 3; whnf); repeat ((first | (with_reducible apply sT); rfl | (with_reducible apply sF); rfl | (with_reducible apply sE); rfl); conv => arg 3; whnf)
  refine sat_ret (.inl ⟨⟨⟨a1, a2⟩, ⟨a3, a4⟩, ⟨a5, a6⟩, ⟨a7, a8⟩, a9, a10⟩, rfl, ?_⟩)
  unfold newN Nd.H nodeV nodeW
  dsimp only
  rw [e1]; rfl
end Stk
