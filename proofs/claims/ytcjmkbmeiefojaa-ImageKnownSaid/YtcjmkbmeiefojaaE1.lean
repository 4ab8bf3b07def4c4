/- Bytes of an instruction. -/
import Derived.Test.YtcjmkbmeiefojaaS2
import Derived.IntWalk
namespace Stk
open Go
set_option maxRecDepth 100000
set_option linter.unusedSimpArgs false
set_option linter.unusedVariables false
set_option maxHeartbeats 2000000
abbrev u8 (n : Int) : Tr := .int .u8 n
theorem row8 {a0 a1 a2 a3 a4 a5 a6 a7 b0 b1 b2 b3 b4 b5 b6 b7 : Int} (h0 : a0 = b0) (h1 : a1 = b1) (h2 : a2 = b2) (h3 : a3 = b3) (h4 : a4 = b4) (h5 : a5 = b5) (h6 : a6 = b6) (h7 : a7 = b7) :
    [AO.row 1 [u8 a0, u8 a1, u8 a2, u8 a3, u8 a4, u8 a5, u8 a6, u8 a7]] = [AO.row 1 [u8 b0, u8 b1, u8 b2, u8 b3, u8 b4, u8 b5, u8 b6, u8 b7]] := by
  subst h0 h1 h2 h3 h4 h5 h6 h7; rfl
def eb (o d s f m : Int) : List Tr := [u8 o, u8 (d + 16 * s), u8 (f % 256), u8 (f / 256 % 256), u8 (m % 256), u8 (m / 256 % 256), u8 (m / 65536 % 256), u8 (m / 16777216 % 256)]
def insR (o d s f m : Int) : List Tr × Int := if d ≤ 15 ∧ s ≤ 15 then (eb o d s f m, 0) else ([], 21)
theorem or16 {d s : Int} (hd : 0 ≤ d ∧ d ≤ 15) (hs : 0 ≤ s ∧ s ≤ 15) : bitsV .or .u8 d (s * 16) = d + 16 * s := by
  have key : ∀ a b : Fin 16, bitsV .or .u8 (a.val : Int) ((b.val : Int) * 16) = (a.val : Int) + 16 * (b.val : Int) := by decide +kernel
  have := key ⟨d.toNat, by omega⟩ ⟨s.toNat, by omega⟩
  simp only [Int.toNat_of_nonneg hd.1, Int.toNat_of_nonneg hs.1] at this
  exact this
theorem k_ins (o d s f m : Int) (h : InsOK o d s f m) : ACalls PP GG F.insn_Encode [.t (insT o d s f m)] [] fun r H' => (∃ c, r = .tup [.sl 0 0 [] 0 (insR o d s f m).1.length c, ti (insR o d s f m).2]) ∧ H' = [.row 1 (insR o d s f m).1] := by
  obtain ⟨ho, hd, hs, hf, hm⟩ := h
  refine K.insn_Encode.callsC rfl ?_
  unfold insR
  by_cases hq : d ≤ 15 ∧ s ≤ 15
  · rw [if_pos hq]
    (conv => arg 3; whnf); repeat (first | ((with_reducible refine sat_brT ?_ ?_); rfl; conv => arg 3; whnf) | ((with_reducible refine sat_brF ?_ ?_); rfl; conv => arg 3; whnf) | ((with_reducible refine sat_eqv ?_ ?_); rfl; conv => arg 3; whnf))
    refine sat_brF (decide_eq_false (by omega)) ?_
    (conv => arg 3; whnf); repeat (first | ((with_reducible refine sat_brT ?_ ?_); rfl; conv => arg 3; whnf) | ((with_reducible refine sat_brF ?_ ?_); rfl; conv => arg 3; whnf) | ((with_reducible refine sat_eqv ?_ ?_); rfl; conv => arg 3; whnf))
    refine sat_brF (decide_eq_false (by omega)) ?_
    (conv => arg 3; whnf); repeat (first | ((with_reducible refine sat_brT ?_ ?_); rfl; conv => arg 3; whnf) | ((with_reducible refine sat_brF ?_ ?_); rfl; conv => arg 3; whnf) | ((with_reducible refine sat_eqv ?_ ?_); rfl; conv => arg 3; whnf))
    refine sat_rngw ?_
    (conv => arg 3; whnf); repeat (first | ((with_reducible refine sat_brT ?_ ?_); rfl; conv => arg 3; whnf) | ((with_reducible refine sat_brF ?_ ?_); rfl; conv => arg 3; whnf) | ((with_reducible refine sat_eqv ?_ ?_); rfl; conv => arg 3; whnf))
    refine sat_rngw ?_
    (conv => arg 3; whnf); repeat (first | ((with_reducible refine sat_brT ?_ ?_); rfl; conv => arg 3; whnf) | ((with_reducible refine sat_brF ?_ ?_); rfl; conv => arg 3; whnf) | ((with_reducible refine sat_eqv ?_ ?_); rfl; conv => arg 3; whnf))
    repeat (first | (refine sat_asrt rfl ?_; (conv => arg 3; whnf); repeat (first | ((with_reducible refine sat_brT ?_ ?_); rfl; conv => arg 3; whnf) | ((with_reducible refine sat_brF ?_ ?_); rfl; conv => arg 3; whnf) | ((with_reducible refine sat_eqv ?_ ?_); rfl; conv => arg 3; whnf))) | (refine sat_rngw ?_; (conv => arg 3; whnf); repeat (first | ((with_reducible refine sat_brT ?_ ?_); rfl; conv => arg 3; whnf) | ((with_reducible refine sat_brF ?_ ?_); rfl; conv => arg 3; whnf) | ((with_reducible refine sat_eqv ?_ ?_); rfl; conv => arg 3; whnf))))
    refine sat_ret ⟨⟨_, rfl⟩, ?_⟩
    rw [IntKind.wrap_u16, IntKind.wrap_u32]
    have p4 : (2 : Int) ^ min (Int.toNat 4) (IntKind.bits .u8) = 16 := by decide
    have p8 : (2 : Int) ^ min (Int.toNat 8) (IntKind.bits .u16) = 256 := by decide
    have q8 : (2 : Int) ^ min (Int.toNat 8) (IntKind.bits .u32) = 256 := by decide
    have q16 : (2 : Int) ^ min (Int.toNat 16) (IntKind.bits .u32) = 65536 := by decide
    have q24 : (2 : Int) ^ min (Int.toNat 24) (IntKind.bits .u32) = 16777216 := by decide
    rw [p4, p8, q8, q16, q24]
    have e4 : IntKind.wrap .u8 (s * 16) = s * 16 := by rw [IntKind.wrap_u8]; omega
    rw [e4, or16 (by omega) (by omega)]
    refine row8 rfl rfl ?_ ?_ ?_ ?_ ?_ ?_ <;> (rw [IntKind.wrap_u8]; try rw [Int.fdiv_eq_ediv_of_nonneg _ (by decide)]) <;> omega
  · rw [if_neg hq]
    (conv => arg 3; whnf); repeat (first | ((with_reducible refine sat_brT ?_ ?_); rfl; conv => arg 3; whnf) | ((with_reducible refine sat_brF ?_ ?_); rfl; conv => arg 3; whnf) | ((with_reducible refine sat_eqv ?_ ?_); rfl; conv => arg 3; whnf))
    refine sat_br (fun h => ?_) (fun h => ?_)
    · (conv => arg 3; whnf); repeat (first | ((with_reducible refine sat_brT ?_ ?_); rfl; conv => arg 3; whnf) | ((with_reducible refine sat_brF ?_ ?_); rfl; conv => arg 3; whnf) | ((with_reducible refine sat_eqv ?_ ?_); rfl; conv => arg 3; whnf))
      exact sat_ret ⟨⟨_, rfl⟩, rfl⟩
    · have h := of_decide_eq_false h
      (conv => arg 3; whnf); repeat (first | ((with_reducible refine sat_brT ?_ ?_); rfl; conv => arg 3; whnf) | ((with_reducible refine sat_brF ?_ ?_); rfl; conv => arg 3; whnf) | ((with_reducible refine sat_eqv ?_ ?_); rfl; conv => arg 3; whnf))
      refine sat_brT (decide_eq_true (by omega)) ?_
      (conv => arg 3; whnf); repeat (first | ((with_reducible refine sat_brT ?_ ?_); rfl; conv => arg 3; whnf) | ((with_reducible refine sat_brF ?_ ?_); rfl; conv => arg 3; whnf) | ((with_reducible refine sat_eqv ?_ ?_); rfl; conv => arg 3; whnf))
      exact sat_ret ⟨⟨_, rfl⟩, rfl⟩
theorem r_ins (o d s f m : Int) (h : InsOK o d s f m) : ACalls PP GG F.ref02_Encode [.t (insT o d s f m)] [] fun r H' => (∃ c, r = .tup [.sl 0 0 [] 0 (insR o d s f m).1.length c, ti (insR o d s f m).2]) ∧ H' = [.row 1 (insR o d s f m).1] := by
  obtain ⟨ho, hd, hs, hf, hm⟩ := h
  refine K.ref02_Encode.callsC rfl ?_
  unfold insR
  by_cases hq : d ≤ 15 ∧ s ≤ 15
  · rw [if_pos hq]
    have ew : IntKind.wrap .u8 (16 * s) = 16 * s := by rw [IntKind.wrap_u8]; omega
    have ew2 : IntKind.wrap .u8 (d + 16 * s) = d + 16 * s := by rw [IntKind.wrap_u8]; omega
    (conv => arg 3; whnf); repeat (first | ((with_reducible refine sat_brT ?_ ?_); rfl; conv => arg 3; whnf) | ((with_reducible refine sat_brF ?_ ?_); rfl; conv => arg 3; whnf) | ((with_reducible refine sat_eqv ?_ ?_); rfl; conv => arg 3; whnf))
    refine sat_brF (decide_eq_false (by omega)) ?_
    (conv => arg 3; whnf); repeat (first | ((with_reducible refine sat_brT ?_ ?_); rfl; conv => arg 3; whnf) | ((with_reducible refine sat_brF ?_ ?_); rfl; conv => arg 3; whnf) | ((with_reducible refine sat_eqv ?_ ?_); rfl; conv => arg 3; whnf))
    refine sat_brF (decide_eq_false (by omega)) ?_
    (conv => arg 3; whnf); repeat (first | ((with_reducible refine sat_brT ?_ ?_); rfl; conv => arg 3; whnf) | ((with_reducible refine sat_brF ?_ ?_); rfl; conv => arg 3; whnf) | ((with_reducible refine sat_eqv ?_ ?_); rfl; conv => arg 3; whnf))
    refine sat_rng (wrap64 (by omega) (by omega)) ?_
    (conv => arg 3; whnf); repeat (first | ((with_reducible refine sat_brT ?_ ?_); rfl; conv => arg 3; whnf) | ((with_reducible refine sat_brF ?_ ?_); rfl; conv => arg 3; whnf) | ((with_reducible refine sat_eqv ?_ ?_); rfl; conv => arg 3; whnf))
    refine sat_br (fun hf0 => ?_) (fun hf0 => ?_)
    · have hf0 := of_decide_eq_true hf0
      (conv => arg 3; whnf); repeat (first | ((with_reducible refine sat_brT ?_ ?_); rfl; conv => arg 3; whnf) | ((with_reducible refine sat_brF ?_ ?_); rfl; conv => arg 3; whnf) | ((with_reducible refine sat_eqv ?_ ?_); rfl; conv => arg 3; whnf))
      refine sat_rng (wrap64 (by omega) (by omega)) ?_
      (conv => arg 3; whnf); repeat (first | ((with_reducible refine sat_brT ?_ ?_); rfl; conv => arg 3; whnf) | ((with_reducible refine sat_brF ?_ ?_); rfl; conv => arg 3; whnf) | ((with_reducible refine sat_eqv ?_ ?_); rfl; conv => arg 3; whnf))
      refine sat_rng (wrap64 (by omega) (by omega)) ?_
      (conv => arg 3; whnf); repeat (first | ((with_reducible refine sat_brT ?_ ?_); rfl; conv => arg 3; whnf) | ((with_reducible refine sat_brF ?_ ?_); rfl; conv => arg 3; whnf) | ((with_reducible refine sat_eqv ?_ ?_); rfl; conv => arg 3; whnf))
      refine sat_br (fun hm0 => ?_) (fun hm0 => ?_)
      · have hm0 := of_decide_eq_true hm0
        (conv => arg 3; whnf); repeat (first | ((with_reducible refine sat_brT ?_ ?_); rfl; conv => arg 3; whnf) | ((with_reducible refine sat_brF ?_ ?_); rfl; conv => arg 3; whnf) | ((with_reducible refine sat_eqv ?_ ?_); rfl; conv => arg 3; whnf))
        refine sat_rng (wrap64 (by omega) (by omega)) ?_
        (conv => arg 3; whnf); repeat (first | ((with_reducible refine sat_brT ?_ ?_); rfl; conv => arg 3; whnf) | ((with_reducible refine sat_brF ?_ ?_); rfl; conv => arg 3; whnf) | ((with_reducible refine sat_eqv ?_ ?_); rfl; conv => arg 3; whnf))
        repeat (first | (refine sat_asrt rfl ?_; (conv => arg 3; whnf); repeat (first | ((with_reducible refine sat_brT ?_ ?_); rfl; conv => arg 3; whnf) | ((with_reducible refine sat_brF ?_ ?_); rfl; conv => arg 3; whnf) | ((with_reducible refine sat_eqv ?_ ?_); rfl; conv => arg 3; whnf))) | (refine sat_rngw ?_; (conv => arg 3; whnf); repeat (first | ((with_reducible refine sat_brT ?_ ?_); rfl; conv => arg 3; whnf) | ((with_reducible refine sat_brF ?_ ?_); rfl; conv => arg 3; whnf) | ((with_reducible refine sat_eqv ?_ ?_); rfl; conv => arg 3; whnf))))
        refine sat_ret ⟨⟨_, rfl⟩, ?_⟩
        rw [ew, ew2]
        refine row8 rfl rfl ?_ ?_ ?_ ?_ ?_ ?_ <;> simp only [IntKind.wrap_u8, IntKind.wrap_i64] <;> (repeat rw [Int.tdiv_eq_ediv_of_nonneg (by omega)]) <;> (repeat rw [Int.tmod_eq_emod_of_nonneg (by omega)]) <;> omega
      · have hm0 := of_decide_eq_false hm0
        (conv => arg 3; whnf); repeat (first | ((with_reducible refine sat_brT ?_ ?_); rfl; conv => arg 3; whnf) | ((with_reducible refine sat_brF ?_ ?_); rfl; conv => arg 3; whnf) | ((with_reducible refine sat_eqv ?_ ?_); rfl; conv => arg 3; whnf))
        repeat (first | (refine sat_asrt rfl ?_; (conv => arg 3; whnf); repeat (first | ((with_reducible refine sat_brT ?_ ?_); rfl; conv => arg 3; whnf) | ((with_reducible refine sat_brF ?_ ?_); rfl; conv => arg 3; whnf) | ((with_reducible refine sat_eqv ?_ ?_); rfl; conv => arg 3; whnf))) | (refine sat_rngw ?_; (conv => arg 3; whnf); repeat (first | ((with_reducible refine sat_brT ?_ ?_); rfl; conv => arg 3; whnf) | ((with_reducible refine sat_brF ?_ ?_); rfl; conv => arg 3; whnf) | ((with_reducible refine sat_eqv ?_ ?_); rfl; conv => arg 3; whnf))))
        refine sat_ret ⟨⟨_, rfl⟩, ?_⟩
        rw [ew, ew2]
        refine row8 rfl rfl ?_ ?_ ?_ ?_ ?_ ?_ <;> simp only [IntKind.wrap_u8, IntKind.wrap_i64] <;> (repeat rw [Int.tdiv_eq_ediv_of_nonneg (by omega)]) <;> (repeat rw [Int.tmod_eq_emod_of_nonneg (by omega)]) <;> omega
    · have hf0 := of_decide_eq_false hf0
      (conv => arg 3; whnf); repeat (first | ((with_reducible refine sat_brT ?_ ?_); rfl; conv => arg 3; whnf) | ((with_reducible refine sat_brF ?_ ?_); rfl; conv => arg 3; whnf) | ((with_reducible refine sat_eqv ?_ ?_); rfl; conv => arg 3; whnf))
      refine sat_rng (wrap64 (by omega) (by omega)) ?_
      (conv => arg 3; whnf); repeat (first | ((with_reducible refine sat_brT ?_ ?_); rfl; conv => arg 3; whnf) | ((with_reducible refine sat_brF ?_ ?_); rfl; conv => arg 3; whnf) | ((with_reducible refine sat_eqv ?_ ?_); rfl; conv => arg 3; whnf))
      refine sat_br (fun hm0 => ?_) (fun hm0 => ?_)
      · have hm0 := of_decide_eq_true hm0
        (conv => arg 3; whnf); repeat (first | ((with_reducible refine sat_brT ?_ ?_); rfl; conv => arg 3; whnf) | ((with_reducible refine sat_brF ?_ ?_); rfl; conv => arg 3; whnf) | ((with_reducible refine sat_eqv ?_ ?_); rfl; conv => arg 3; whnf))
        refine sat_rng (wrap64 (by omega) (by omega)) ?_
        (conv => arg 3; whnf); repeat (first | ((with_reducible refine sat_brT ?_ ?_); rfl; conv => arg 3; whnf) | ((with_reducible refine sat_brF ?_ ?_); rfl; conv => arg 3; whnf) | ((with_reducible refine sat_eqv ?_ ?_); rfl; conv => arg 3; whnf))
        repeat (first | (refine sat_asrt rfl ?_; (conv => arg 3; whnf); repeat (first | ((with_reducible refine sat_brT ?_ ?_); rfl; conv => arg 3; whnf) | ((with_reducible refine sat_brF ?_ ?_); rfl; conv => arg 3; whnf) | ((with_reducible refine sat_eqv ?_ ?_); rfl; conv => arg 3; whnf))) | (refine sat_rngw ?_; (conv => arg 3; whnf); repeat (first | ((with_reducible refine sat_brT ?_ ?_); rfl; conv => arg 3; whnf) | ((with_reducible refine sat_brF ?_ ?_); rfl; conv => arg 3; whnf) | ((with_reducible refine sat_eqv ?_ ?_); rfl; conv => arg 3; whnf))))
        refine sat_ret ⟨⟨_, rfl⟩, ?_⟩
        rw [ew, ew2]
        refine row8 rfl rfl ?_ ?_ ?_ ?_ ?_ ?_ <;> simp only [IntKind.wrap_u8, IntKind.wrap_i64] <;> (repeat rw [Int.tdiv_eq_ediv_of_nonneg (by omega)]) <;> (repeat rw [Int.tmod_eq_emod_of_nonneg (by omega)]) <;> omega
      · have hm0 := of_decide_eq_false hm0
        (conv => arg 3; whnf); repeat (first | ((with_reducible refine sat_brT ?_ ?_); rfl; conv => arg 3; whnf) | ((with_reducible refine sat_brF ?_ ?_); rfl; conv => arg 3; whnf) | ((with_reducible refine sat_eqv ?_ ?_); rfl; conv => arg 3; whnf))
        repeat (first | (refine sat_asrt rfl ?_; (conv => arg 3; whnf); repeat (first | ((with_reducible refine sat_brT ?_ ?_); rfl; conv => arg 3; whnf) | ((with_reducible refine sat_brF ?_ ?_); rfl; conv => arg 3; whnf) | ((with_reducible refine sat_eqv ?_ ?_); rfl; conv => arg 3; whnf))) | (refine sat_rngw ?_; (conv => arg 3; whnf); repeat (first | ((with_reducible refine sat_brT ?_ ?_); rfl; conv => arg 3; whnf) | ((with_reducible refine sat_brF ?_ ?_); rfl; conv => arg 3; whnf) | ((with_reducible refine sat_eqv ?_ ?_); rfl; conv => arg 3; whnf))))
        refine sat_ret ⟨⟨_, rfl⟩, ?_⟩
        rw [ew, ew2]
        refine row8 rfl rfl ?_ ?_ ?_ ?_ ?_ ?_ <;> simp only [IntKind.wrap_u8, IntKind.wrap_i64] <;> (repeat rw [Int.tdiv_eq_ediv_of_nonneg (by omega)]) <;> (repeat rw [Int.tmod_eq_emod_of_nonneg (by omega)]) <;> omega
  · rw [if_neg hq]
    (conv => arg 3; whnf); repeat (first | ((with_reducible refine sat_brT ?_ ?_); rfl; conv => arg 3; whnf) | ((with_reducible refine sat_brF ?_ ?_); rfl; conv => arg 3; whnf) | ((with_reducible refine sat_eqv ?_ ?_); rfl; conv => arg 3; whnf))
    refine sat_br (fun h => ?_) (fun h => ?_)
    · (conv => arg 3; whnf); repeat (first | ((with_reducible refine sat_brT ?_ ?_); rfl; conv => arg 3; whnf) | ((with_reducible refine sat_brF ?_ ?_); rfl; conv => arg 3; whnf) | ((with_reducible refine sat_eqv ?_ ?_); rfl; conv => arg 3; whnf))
      exact sat_ret ⟨⟨_, rfl⟩, rfl⟩
    · have h := of_decide_eq_false h
      (conv => arg 3; whnf); repeat (first | ((with_reducible refine sat_brT ?_ ?_); rfl; conv => arg 3; whnf) | ((with_reducible refine sat_brF ?_ ?_); rfl; conv => arg 3; whnf) | ((with_reducible refine sat_eqv ?_ ?_); rfl; conv => arg 3; whnf))
      refine sat_brT (decide_eq_true (by omega)) ?_
      (conv => arg 3; whnf); repeat (first | ((with_reducible refine sat_brT ?_ ?_); rfl; conv => arg 3; whnf) | ((with_reducible refine sat_brF ?_ ?_); rfl; conv => arg 3; whnf) | ((with_reducible refine sat_eqv ?_ ?_); rfl; conv => arg 3; whnf))
      exact sat_ret ⟨⟨_, rfl⟩, rfl⟩
end Stk
