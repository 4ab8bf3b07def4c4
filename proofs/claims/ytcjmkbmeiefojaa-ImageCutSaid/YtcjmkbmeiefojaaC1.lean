/- ImageCut: the law's contract. -/
import Derived.Test.YtcjmkbmeiefojaaP2
namespace Stk
open Go
set_option maxRecDepth 100000
set_option linter.unusedSimpArgs false
set_option linter.unusedVariables false
set_option maxHeartbeats 4000000
theorem l_cut (x0 x1 x2 : Tr) (h0 : TrD ImD x0) (h1 : TrD (.int .u16) x1) (h2 : TrD (.int .u8) x2) : ACalls PP GG F.law16_ImageCut (toAVs [x0, x1, x2]) [] fun r _ => r = .t (.bool true) := by
  obtain ⟨x, rfl, hx⟩ := im_of h0
  obtain ⟨at', rfl, w1⟩ := h1
  obtain ⟨mo, rfl, w2⟩ := h2
  have w2 := wf_u8 w2
  have w1 : 0 ≤ at' ∧ at' ≤ 65535 := by have := wf_u16 w1; omega
  refine K.law16_ImageCut.calls rfl ?_
  (conv => arg 3; whnf); repeat (first | ((with_reducible refine sat_brT ?_ ?_); rfl; conv => arg 3; whnf) | ((with_reducible refine sat_brF ?_ ?_); rfl; conv => arg 3; whnf) | ((with_reducible refine sat_eqv ?_ ?_); rfl; conv => arg 3; whnf))
  refine sat_call (k_large x) ?_
  rintro r H' ⟨rfl, rfl⟩
  cases hlx : Im.large x with
  | true =>
    (conv => arg 3; whnf); repeat (first | ((with_reducible refine sat_brT ?_ ?_); rfl; conv => arg 3; whnf) | ((with_reducible refine sat_brF ?_ ?_); rfl; conv => arg 3; whnf) | ((with_reducible refine sat_eqv ?_ ?_); rfl; conv => arg 3; whnf))
    refine sat_call k_wakes ?_
    rintro r H' ⟨rfl, rfl⟩
    (conv => arg 3; whnf); repeat (first | ((with_reducible refine sat_brT ?_ ?_); rfl; conv => arg 3; whnf) | ((with_reducible refine sat_brF ?_ ?_); rfl; conv => arg 3; whnf) | ((with_reducible refine sat_eqv ?_ ?_); rfl; conv => arg 3; whnf))
    exact sat_ret rfl
  | false =>
  have hll := large_no hlx
  (conv => arg 3; whnf); repeat (first | ((with_reducible refine sat_brT ?_ ?_); rfl; conv => arg 3; whnf) | ((with_reducible refine sat_brF ?_ ?_); rfl; conv => arg 3; whnf) | ((with_reducible refine sat_eqv ?_ ?_); rfl; conv => arg 3; whnf))
  refine sat_call (k_encode x hx) ?_
  rintro r H' ⟨⟨c, rfl, hc⟩, rfl⟩
  (conv => arg 3; whnf); repeat (first | ((with_reducible refine sat_brT ?_ ?_); rfl; conv => arg 3; whnf) | ((with_reducible refine sat_brF ?_ ?_); rfl; conv => arg 3; whnf) | ((with_reducible refine sat_eqv ?_ ?_); rfl; conv => arg 3; whnf))
  refine sat_br (fun hs => ?_) (fun hs => ?_)
  · (conv => arg 3; whnf); repeat (first | ((with_reducible refine sat_brT ?_ ?_); rfl; conv => arg 3; whnf) | ((with_reducible refine sat_brF ?_ ?_); rfl; conv => arg 3; whnf) | ((with_reducible refine sat_eqv ?_ ?_); rfl; conv => arg 3; whnf))
    refine sat_call k_wakes ?_
    rintro r H' ⟨rfl, rfl⟩
    (conv => arg 3; whnf); repeat (first | ((with_reducible refine sat_brT ?_ ?_); rfl; conv => arg 3; whnf) | ((with_reducible refine sat_brF ?_ ?_); rfl; conv => arg 3; whnf) | ((with_reducible refine sat_eqv ?_ ?_); rfl; conv => arg 3; whnf))
    exact sat_ret rfl
  have hs : x.enc.2 = 0 := by simpa using hs
  have ho := enc_good hx hs
  have ha := enc_at ho
  have hl := ha.l
  have := ho.m4
  have := ho.p5
  have hb := ha.b
  have hdl := @dec_like x ho
  generalize x.enc.1 = E at hl hb hdl hc ⊢
  (conv => arg 3; whnf); repeat (first | ((with_reducible refine sat_brT ?_ ?_); rfl; conv => arg 3; whnf) | ((with_reducible refine sat_brF ?_ ?_); rfl; conv => arg 3; whnf) | ((with_reducible refine sat_eqv ?_ ?_); rfl; conv => arg 3; whnf))
  refine sat_br (fun hz => ?_) (fun hz => ?_)
  · exfalso
    have := eq_of_beq hz
    omega
  clear hz
  (conv => arg 3; whnf); repeat (first | ((with_reducible refine sat_brT ?_ ?_); rfl; conv => arg 3; whnf) | ((with_reducible refine sat_brF ?_ ?_); rfl; conv => arg 3; whnf) | ((with_reducible refine sat_eqv ?_ ?_); rfl; conv => arg 3; whnf))
  refine sat_rng (wrap64 (by omega) (by omega)) ?_
  (conv => arg 3; whnf); repeat (first | ((with_reducible refine sat_brT ?_ ?_); rfl; conv => arg 3; whnf) | ((with_reducible refine sat_brF ?_ ?_); rfl; conv => arg 3; whnf) | ((with_reducible refine sat_eqv ?_ ?_); rfl; conv => arg 3; whnf))
  refine sat_asrt (bne_iff_ne.2 (by omega)) ?_
  have hm0 := Int.tmod_nonneg (E.length : Int) w1.1
  have hm1 := Int.tmod_lt_of_pos at' (show (0 : Int) < E.length by omega)
  obtain ⟨n, hn⟩ : ∃ n : Nat, Int.tmod at' E.length = n := ⟨(Int.tmod at' E.length).toNat, by omega⟩
  rw [hn] at hm1 ⊢
  (conv => arg 3; whnf); repeat (first | ((with_reducible refine sat_brT ?_ ?_); rfl; conv => arg 3; whnf) | ((with_reducible refine sat_brF ?_ ?_); rfl; conv => arg 3; whnf) | ((with_reducible refine sat_eqv ?_ ?_); rfl; conv => arg 3; whnf))
  have hcc : E.length ≤ c.getD (max E.length (E.length - 0)) := by
    cases c with
    | none => show _ ≤ max _ _; omega
    | some k => exact hc k rfl
  refine sat_asrt (decide_eq_true (by omega)) ?_
  (conv => arg 3; whnf); repeat (first | ((with_reducible refine sat_brT ?_ ?_); rfl; conv => arg 3; whnf) | ((with_reducible refine sat_brF ?_ ?_); rfl; conv => arg 3; whnf) | ((with_reducible refine sat_eqv ?_ ?_); rfl; conv => arg 3; whnf))
  rw [List.drop_zero, Int.toNat_natCast, Nat.sub_zero]
  have e1 : decB (E.take n) = (im0, 4) := by
    rw [hdl (fun i h1 h2 => by rw [List.getElem?_take, if_pos (by rw [List.length_take] at h1; omega)]) (by rw [List.length_take]; omega), if_pos (by rw [List.length_take]; omega)]
  have e2 : decB (E ++ [u8 mo]) = (im0, 5) := by
    rw [hdl (fun i h1 h2 => by rw [List.getElem?_append_left h2]) (by rw [List.length_append]; simp; omega), if_neg (by rw [List.length_append]; omega), if_pos (by rw [List.length_append]; simp)]
  have b1 : AllB (E.take n) := fun y hy => hb y (List.mem_of_mem_take hy)
  have b2 : AllB (E ++ [u8 mo]) := fun y hy => by
    rcases List.mem_append.1 hy with hy | hy
    · exact hb y hy
    · simp at hy; exact ⟨mo, hy, w2⟩
  have k1 := k_decode _ b1 (by rw [List.length_take]; omega)
  have k2 := k_decode _ b2 (by rw [List.length_append]; simp; omega)
  rw [e1] at k1
  rw [e2] at k2
  refine sat_call k1 ?_
  rintro r H' ⟨rfl, rfl⟩
  (conv => arg 3; whnf); repeat (first | ((with_reducible refine sat_brT ?_ ?_); rfl; conv => arg 3; whnf) | ((with_reducible refine sat_brF ?_ ?_); rfl; conv => arg 3; whnf) | ((with_reducible refine sat_eqv ?_ ?_); rfl; conv => arg 3; whnf))
  refine sat_asrt (by simp [roomy]; omega) ?_
  (conv => arg 3; whnf); repeat (first | ((with_reducible refine sat_brT ?_ ?_); rfl; conv => arg 3; whnf) | ((with_reducible refine sat_brF ?_ ?_); rfl; conv => arg 3; whnf) | ((with_reducible refine sat_eqv ?_ ?_); rfl; conv => arg 3; whnf))
  rw [List.drop_zero, List.take_length]
  refine sat_asrt (by simp) ?_
  refine sat_asrt (by simp [roomy]; omega) ?_
  refine sat_brT (Nat.beq_refl _) ?_
  (conv => arg 3; whnf); repeat (first | ((with_reducible refine sat_brT ?_ ?_); rfl; conv => arg 3; whnf) | ((with_reducible refine sat_brF ?_ ?_); rfl; conv => arg 3; whnf) | ((with_reducible refine sat_eqv ?_ ?_); rfl; conv => arg 3; whnf))
  rw [List.drop_zero, List.take_of_length_le (by simp)]
  refine sat_call k2 ?_
  rintro r H' ⟨rfl, rfl⟩
  (conv => arg 3; whnf); repeat (first | ((with_reducible refine sat_brT ?_ ?_); rfl; conv => arg 3; whnf) | ((with_reducible refine sat_brF ?_ ?_); rfl; conv => arg 3; whnf) | ((with_reducible refine sat_eqv ?_ ?_); rfl; conv => arg 3; whnf))
  refine sat_call k_wakes ?_
  rintro r H' ⟨rfl, rfl⟩
  (conv => arg 3; whnf); repeat (first | ((with_reducible refine sat_brT ?_ ?_); rfl; conv => arg 3; whnf) | ((with_reducible refine sat_brF ?_ ?_); rfl; conv => arg 3; whnf) | ((with_reducible refine sat_eqv ?_ ?_); rfl; conv => arg 3; whnf))
  exact sat_ret rfl
end Stk
