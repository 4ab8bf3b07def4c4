/- An instruction out of eight bytes. -/
import Derived.Test.YtcjmkbmeiefojaaWrites
namespace Stk
open Go
set_option maxRecDepth 100000
set_option linter.unusedSimpArgs false
set_option linter.unusedVariables false
set_option maxHeartbeats 4000000
theorem or_shl (k : IntKind) {x y : Int} {n : Nat} (hx : 0 ≤ x ∧ x < 2 ^ n) (hy : 0 ≤ y) (hb : x + y * 2 ^ n < 2 ^ k.bits) (hw : k.wrap (x + y * 2 ^ n) = x + y * 2 ^ n) : bitsV .or k x (y * 2 ^ n) = x + y * 2 ^ n := by
  obtain ⟨a, rfl⟩ : ∃ a : Nat, x = a := ⟨x.toNat, by omega⟩
  obtain ⟨b, rfl⟩ : ∃ b : Nat, y = b := ⟨y.toNat, by omega⟩
  have hx' : a < 2 ^ n := by exact_mod_cast hx.2
  have hb' : a + b * 2 ^ n < 2 ^ k.bits := by exact_mod_cast hb
  have e1 : ((b : Int) * 2 ^ n) = ((b * 2 ^ n : Nat) : Int) := by push_cast; rfl
  have e2 : ((a : Int) + b * 2 ^ n) = ((a + b * 2 ^ n : Nat) : Int) := by push_cast; rfl
  rw [e2] at hw ⊢
  rw [e1]
  unfold bitsV
  have t1 : (BitVec.ofInt k.bits (a : Int)).toNat = a := by
    rw [BitVec.ofInt_natCast, BitVec.toNat_ofNat, Nat.mod_eq_of_lt (by omega)]
  have t2 : (BitVec.ofInt k.bits ((b * 2 ^ n : Nat) : Int)).toNat = b * 2 ^ n := by
    rw [BitVec.ofInt_natCast, BitVec.toNat_ofNat, Nat.mod_eq_of_lt (by omega)]
  dsimp only
  rw [BitVec.toNat_or, t1, t2]
  have : a ||| b * 2 ^ n = a + b * 2 ^ n := by
    have := Nat.shiftLeft_add_eq_or_of_lt hx' b
    rw [Nat.shiftLeft_eq] at this
    rw [Nat.or_comm, ← this, Nat.add_comm]
  rw [this]
  exact hw
theorem and15 {b : Int} (hb : 0 ≤ b ∧ b ≤ 255) : bitsV .and .u8 b 15 = b % 16 := by
  have key : ∀ a : Fin 256, bitsV .and .u8 (a.val : Int) 15 = (a.val : Int) % 16 := by decide +kernel
  have := key ⟨b.toNat, by omega⟩
  simp only [Int.toNat_of_nonneg hb.1] at this
  exact this
structure By8 (b0 b1 b2 b3 b4 b5 b6 b7 : Int) : Prop where
  h0 : 0 ≤ b0 ∧ b0 ≤ 255
  h1 : 0 ≤ b1 ∧ b1 ≤ 255
  h2 : 0 ≤ b2 ∧ b2 ≤ 255
  h3 : 0 ≤ b3 ∧ b3 ≤ 255
  h4 : 0 ≤ b4 ∧ b4 ≤ 255
  h5 : 0 ≤ b5 ∧ b5 ≤ 255
  h6 : 0 ≤ b6 ∧ b6 ≤ 255
  h7 : 0 ≤ b7 ∧ b7 ≤ 255
abbrev l8 (b0 b1 b2 b3 b4 b5 b6 b7 : Int) : List Tr := [u8 b0, u8 b1, u8 b2, u8 b3, u8 b4, u8 b5, u8 b6, u8 b7]
def sg (m n : Int) : Int := if n ≥ m then n - 2 * m else n
def dec8 (b0 b1 b2 b3 b4 b5 b6 b7 : Int) : Tr := insT b0 (b1 % 16) (b1 / 16) (sg 32768 (b2 + b3 * 256)) (sg 2147483648 (b4 + b5 * 256 + b6 * 65536 + b7 * 16777216))
theorem i16_sg {n : Int} (h : 0 ≤ n ∧ n ≤ 65535) : IntKind.wrap .i16 n = sg 32768 n := by
  have key : IntKind.wrap .i16 n = if n ≥ 32768 then n - 65536 else n := by
    simp only [IntKind.wrap, IntKind.bits, IntKind.signed]
    simp
    split <;> split <;> omega
  rw [key]; unfold sg
  split <;> omega
theorem i16_in {n : Int} (h : -32768 ≤ n ∧ n ≤ 32767) : IntKind.wrap .i16 n = n := by
  simp only [IntKind.wrap, IntKind.bits, IntKind.signed]
  simp
  split <;> omega
theorem i32_sg {n : Int} (h : 0 ≤ n ∧ n ≤ 4294967295) : IntKind.wrap .i32 n = sg 2147483648 n := by
  rw [IntKind.wrap_i32]; unfold sg
  split <;> omega
theorem ins5 {a b c d e a' b' c' d' e' : Int} (ha : a = a') (hb : b = b') (hc : c = c') (hd : d = d') (he : e = e') : AV.tup [.t (insT a b c d e), ti 0] = .tup [.t (insT a' b' c' d' e'), ti 0] := by
  subst ha hb hc hd he; rfl
theorem or16_2 {x y : Int} (hx : 0 ≤ x ∧ x ≤ 255) (hy : 0 ≤ y ∧ y ≤ 255) : bitsV .or .u16 x (y * 2 ^ 8) = x + y * 256 := by
  rw [or_shl .u16 (n := 8) (by omega) (by omega) (by show _ < (2 : Int) ^ 16; omega) (by rw [IntKind.wrap_u16]; omega)]
  omega
theorem or32_8 {x y : Int} (hx : 0 ≤ x ∧ x ≤ 255) (hy : 0 ≤ y ∧ y ≤ 255) : bitsV .or .u32 x (y * 2 ^ 8) = x + y * 256 := by
  rw [or_shl .u32 (n := 8) (by omega) (by omega) (by show _ < (2 : Int) ^ 32; omega) (by rw [IntKind.wrap_u32]; omega)]
  omega
theorem or32_16 {x y : Int} (hx : 0 ≤ x ∧ x ≤ 65535) (hy : 0 ≤ y ∧ y ≤ 255) : bitsV .or .u32 x (y * 2 ^ 16) = x + y * 65536 := by
  rw [or_shl .u32 (n := 16) (by omega) (by omega) (by show _ < (2 : Int) ^ 32; omega) (by rw [IntKind.wrap_u32]; omega)]
  omega
theorem or32_24 {x y : Int} (hx : 0 ≤ x ∧ x ≤ 16777215) (hy : 0 ≤ y ∧ y ≤ 255) : bitsV .or .u32 x (y * 2 ^ 24) = x + y * 16777216 := by
  rw [or_shl .u32 (n := 24) (by omega) (by omega) (by show _ < (2 : Int) ^ 32; omega) (by rw [IntKind.wrap_u32]; omega)]
  omega
theorem k_dec (b0 b1 b2 b3 b4 b5 b6 b7 : Int) (h : By8 b0 b1 b2 b3 b4 b5 b6 b7) : ACalls PP GG F.insn_Decode [.bz 1 (l8 b0 b1 b2 b3 b4 b5 b6 b7)] [] fun r H' => r = .tup [.t (dec8 b0 b1 b2 b3 b4 b5 b6 b7), ti 0] ∧ H' = [] := by
  obtain ⟨h0, h1, h2, h3, h4, h5, h6, h7⟩ := h
  refine K.insn_Decode.callsC rfl ?_
  (conv => arg 3; whnf); repeat (first | ((with_reducible refine sat_brT ?_ ?_); rfl; conv => arg 3; whnf) | ((with_reducible refine sat_brF ?_ ?_); rfl; conv => arg 3; whnf) | ((with_reducible refine sat_eqv ?_ ?_); rfl; conv => arg 3; whnf))
  repeat (first | (refine sat_idx _ (by decide) rfl ?_; (conv => arg 3; whnf); repeat (first | ((with_reducible refine sat_brT ?_ ?_); rfl; conv => arg 3; whnf) | ((with_reducible refine sat_brF ?_ ?_); rfl; conv => arg 3; whnf) | ((with_reducible refine sat_eqv ?_ ?_); rfl; conv => arg 3; whnf))) | (refine sat_asrt rfl ?_; (conv => arg 3; whnf); repeat (first | ((with_reducible refine sat_brT ?_ ?_); rfl; conv => arg 3; whnf) | ((with_reducible refine sat_brF ?_ ?_); rfl; conv => arg 3; whnf) | ((with_reducible refine sat_eqv ?_ ?_); rfl; conv => arg 3; whnf))) | (refine sat_rngw ?_; (conv => arg 3; whnf); repeat (first | ((with_reducible refine sat_brT ?_ ?_); rfl; conv => arg 3; whnf) | ((with_reducible refine sat_brF ?_ ?_); rfl; conv => arg 3; whnf) | ((with_reducible refine sat_eqv ?_ ?_); rfl; conv => arg 3; whnf))))
  refine sat_ret ⟨?_, rfl⟩
  have p4 : (2 : Int) ^ min (Int.toNat 4) (IntKind.bits .u8) = 16 := by decide
  have p8 : (2 : Int) ^ min (Int.toNat 8) (IntKind.bits .u16) = 2 ^ 8 := by decide
  have q8 : (2 : Int) ^ min (Int.toNat 8) (IntKind.bits .u32) = 2 ^ 8 := by decide
  have q16 : (2 : Int) ^ min (Int.toNat 16) (IntKind.bits .u32) = 2 ^ 16 := by decide
  have q24 : (2 : Int) ^ min (Int.toNat 24) (IntKind.bits .u32) = 2 ^ 24 := by decide
  have u2 : IntKind.wrap .u16 b2 = b2 := by rw [IntKind.wrap_u16]; omega
  have u3 : IntKind.wrap .u16 b3 = b3 := by rw [IntKind.wrap_u16]; omega
  have u3' : IntKind.wrap .u16 (b3 * 2 ^ 8) = b3 * 2 ^ 8 := by rw [IntKind.wrap_u16]; omega
  have u4 : IntKind.wrap .u32 b4 = b4 := by rw [IntKind.wrap_u32]; omega
  have u5 : IntKind.wrap .u32 b5 = b5 := by rw [IntKind.wrap_u32]; omega
  have u6 : IntKind.wrap .u32 b6 = b6 := by rw [IntKind.wrap_u32]; omega
  have u7 : IntKind.wrap .u32 b7 = b7 := by rw [IntKind.wrap_u32]; omega
  have u5' : IntKind.wrap .u32 (b5 * 2 ^ 8) = b5 * 2 ^ 8 := by rw [IntKind.wrap_u32]; omega
  have u6' : IntKind.wrap .u32 (b6 * 2 ^ 16) = b6 * 2 ^ 16 := by rw [IntKind.wrap_u32]; omega
  have u7' : IntKind.wrap .u32 (b7 * 2 ^ 24) = b7 * 2 ^ 24 := by rw [IntKind.wrap_u32]; omega
  refine ins5 rfl (and15 h1) ?_ ?_ ?_
  · rw [p4, Int.fdiv_eq_ediv_of_nonneg _ (by decide)]
  · rw [u2, u3, p8, u3', or16_2 h2 h3]
    exact i16_sg (by omega)
  · rw [u4, u5, u6, u7, q8, q16, q24, u5', u6', u7', or32_8 h4 h5, or32_16 (by omega) h6, or32_24 (by omega) h7]
    exact i32_sg (by omega)
theorem r_dec (b0 b1 b2 b3 b4 b5 b6 b7 : Int) (h : By8 b0 b1 b2 b3 b4 b5 b6 b7) : ACalls PP GG F.ref02_Decode [.bz 1 (l8 b0 b1 b2 b3 b4 b5 b6 b7)] [] fun r H' => r = .tup [.t (dec8 b0 b1 b2 b3 b4 b5 b6 b7), ti 0] ∧ H' = [] := by
  obtain ⟨h0, h1, h2, h3, h4, h5, h6, h7⟩ := h
  refine K.ref02_Decode.callsC rfl ?_
  (conv => arg 3; whnf); repeat (first | ((with_reducible refine sat_brT ?_ ?_); rfl; conv => arg 3; whnf) | ((with_reducible refine sat_brF ?_ ?_); rfl; conv => arg 3; whnf) | ((with_reducible refine sat_eqv ?_ ?_); rfl; conv => arg 3; whnf))
  repeat (first | ((with_reducible refine sat_rng ?_ ?_); (exact wrap64 (by omega) (by omega)); (conv => arg 3; whnf); repeat (first | ((with_reducible refine sat_brT ?_ ?_); rfl; conv => arg 3; whnf) | ((with_reducible refine sat_brF ?_ ?_); rfl; conv => arg 3; whnf) | ((with_reducible refine sat_eqv ?_ ?_); rfl; conv => arg 3; whnf))) | ((with_reducible refine sat_idx ?_ ?_ ?_ ?_); rotate_left; decide; rfl; (conv => arg 3; whnf); repeat (first | ((with_reducible refine sat_brT ?_ ?_); rfl; conv => arg 3; whnf) | ((with_reducible refine sat_brF ?_ ?_); rfl; conv => arg 3; whnf) | ((with_reducible refine sat_eqv ?_ ?_); rfl; conv => arg 3; whnf))) | ((with_reducible refine sat_asrt ?_ ?_); rfl; (conv => arg 3; whnf); repeat (first | ((with_reducible refine sat_brT ?_ ?_); rfl; conv => arg 3; whnf) | ((with_reducible refine sat_brF ?_ ?_); rfl; conv => arg 3; whnf) | ((with_reducible refine sat_eqv ?_ ?_); rfl; conv => arg 3; whnf))))
  refine sat_br (fun hf => ?_) (fun hf => ?_)
  · have hf := of_decide_eq_true hf
    (conv => arg 3; whnf); repeat (first | ((with_reducible refine sat_brT ?_ ?_); rfl; conv => arg 3; whnf) | ((with_reducible refine sat_brF ?_ ?_); rfl; conv => arg 3; whnf) | ((with_reducible refine sat_eqv ?_ ?_); rfl; conv => arg 3; whnf))
    repeat (first | ((with_reducible refine sat_rng ?_ ?_); (exact wrap64 (by omega) (by omega)); (conv => arg 3; whnf); repeat (first | ((with_reducible refine sat_brT ?_ ?_); rfl; conv => arg 3; whnf) | ((with_reducible refine sat_brF ?_ ?_); rfl; conv => arg 3; whnf) | ((with_reducible refine sat_eqv ?_ ?_); rfl; conv => arg 3; whnf))) | ((with_reducible refine sat_idx ?_ ?_ ?_ ?_); rotate_left; decide; rfl; (conv => arg 3; whnf); repeat (first | ((with_reducible refine sat_brT ?_ ?_); rfl; conv => arg 3; whnf) | ((with_reducible refine sat_brF ?_ ?_); rfl; conv => arg 3; whnf) | ((with_reducible refine sat_eqv ?_ ?_); rfl; conv => arg 3; whnf))) | ((with_reducible refine sat_asrt ?_ ?_); rfl; (conv => arg 3; whnf); repeat (first | ((with_reducible refine sat_brT ?_ ?_); rfl; conv => arg 3; whnf) | ((with_reducible refine sat_brF ?_ ?_); rfl; conv => arg 3; whnf) | ((with_reducible refine sat_eqv ?_ ?_); rfl; conv => arg 3; whnf))))
    refine sat_br (fun hm => ?_) (fun hm => ?_)
    · have hm := of_decide_eq_true hm
      (conv => arg 3; whnf); repeat (first | ((with_reducible refine sat_brT ?_ ?_); rfl; conv => arg 3; whnf) | ((with_reducible refine sat_brF ?_ ?_); rfl; conv => arg 3; whnf) | ((with_reducible refine sat_eqv ?_ ?_); rfl; conv => arg 3; whnf))
      repeat (first | ((with_reducible refine sat_rng ?_ ?_); (exact wrap64 (by omega) (by omega)); (conv => arg 3; whnf); repeat (first | ((with_reducible refine sat_brT ?_ ?_); rfl; conv => arg 3; whnf) | ((with_reducible refine sat_brF ?_ ?_); rfl; conv => arg 3; whnf) | ((with_reducible refine sat_eqv ?_ ?_); rfl; conv => arg 3; whnf))) | ((with_reducible refine sat_idx ?_ ?_ ?_ ?_); rotate_left; decide; rfl; (conv => arg 3; whnf); repeat (first | ((with_reducible refine sat_brT ?_ ?_); rfl; conv => arg 3; whnf) | ((with_reducible refine sat_brF ?_ ?_); rfl; conv => arg 3; whnf) | ((with_reducible refine sat_eqv ?_ ?_); rfl; conv => arg 3; whnf))) | ((with_reducible refine sat_asrt ?_ ?_); rfl; (conv => arg 3; whnf); repeat (first | ((with_reducible refine sat_brT ?_ ?_); rfl; conv => arg 3; whnf) | ((with_reducible refine sat_brF ?_ ?_); rfl; conv => arg 3; whnf) | ((with_reducible refine sat_eqv ?_ ?_); rfl; conv => arg 3; whnf))) | (refine sat_rngw ?_; (conv => arg 3; whnf); repeat (first | ((with_reducible refine sat_brT ?_ ?_); rfl; conv => arg 3; whnf) | ((with_reducible refine sat_brF ?_ ?_); rfl; conv => arg 3; whnf) | ((with_reducible refine sat_eqv ?_ ?_); rfl; conv => arg 3; whnf))))
      refine sat_ret ⟨?_, rfl⟩
      refine ins5 rfl ?_ ?_ ?_ ?_
      · rw [Int.tmod_eq_emod_of_nonneg (by omega)]
      · rw [Int.tdiv_eq_ediv_of_nonneg (by omega), IntKind.wrap_u8]; omega
      · rw [i16_in (by omega)]; unfold sg; split <;> omega
      · rw [IntKind.wrap_i32]; unfold sg; split <;> omega
    · have hm := of_decide_eq_false hm
      (conv => arg 3; whnf); repeat (first | ((with_reducible refine sat_brT ?_ ?_); rfl; conv => arg 3; whnf) | ((with_reducible refine sat_brF ?_ ?_); rfl; conv => arg 3; whnf) | ((with_reducible refine sat_eqv ?_ ?_); rfl; conv => arg 3; whnf))
      repeat (first | ((with_reducible refine sat_rng ?_ ?_); (exact wrap64 (by omega) (by omega)); (conv => arg 3; whnf); repeat (first | ((with_reducible refine sat_brT ?_ ?_); rfl; conv => arg 3; whnf) | ((with_reducible refine sat_brF ?_ ?_); rfl; conv => arg 3; whnf) | ((with_reducible refine sat_eqv ?_ ?_); rfl; conv => arg 3; whnf))) | ((with_reducible refine sat_idx ?_ ?_ ?_ ?_); rotate_left; decide; rfl; (conv => arg 3; whnf); repeat (first | ((with_reducible refine sat_brT ?_ ?_); rfl; conv => arg 3; whnf) | ((with_reducible refine sat_brF ?_ ?_); rfl; conv => arg 3; whnf) | ((with_reducible refine sat_eqv ?_ ?_); rfl; conv => arg 3; whnf))) | ((with_reducible refine sat_asrt ?_ ?_); rfl; (conv => arg 3; whnf); repeat (first | ((with_reducible refine sat_brT ?_ ?_); rfl; conv => arg 3; whnf) | ((with_reducible refine sat_brF ?_ ?_); rfl; conv => arg 3; whnf) | ((with_reducible refine sat_eqv ?_ ?_); rfl; conv => arg 3; whnf))) | (refine sat_rngw ?_; (conv => arg 3; whnf); repeat (first | ((with_reducible refine sat_brT ?_ ?_); rfl; conv => arg 3; whnf) | ((with_reducible refine sat_brF ?_ ?_); rfl; conv => arg 3; whnf) | ((with_reducible refine sat_eqv ?_ ?_); rfl; conv => arg 3; whnf))))
      refine sat_ret ⟨?_, rfl⟩
      refine ins5 rfl ?_ ?_ ?_ ?_
      · rw [Int.tmod_eq_emod_of_nonneg (by omega)]
      · rw [Int.tdiv_eq_ediv_of_nonneg (by omega), IntKind.wrap_u8]; omega
      · rw [i16_in (by omega)]; unfold sg; split <;> omega
      · rw [IntKind.wrap_i32]; unfold sg; split <;> omega
  · have hf := of_decide_eq_false hf
    (conv => arg 3; whnf); repeat (first | ((with_reducible refine sat_brT ?_ ?_); rfl; conv => arg 3; whnf) | ((with_reducible refine sat_brF ?_ ?_); rfl; conv => arg 3; whnf) | ((with_reducible refine sat_eqv ?_ ?_); rfl; conv => arg 3; whnf))
    repeat (first | ((with_reducible refine sat_rng ?_ ?_); (exact wrap64 (by omega) (by omega)); (conv => arg 3; whnf); repeat (first | ((with_reducible refine sat_brT ?_ ?_); rfl; conv => arg 3; whnf) | ((with_reducible refine sat_brF ?_ ?_); rfl; conv => arg 3; whnf) | ((with_reducible refine sat_eqv ?_ ?_); rfl; conv => arg 3; whnf))) | ((with_reducible refine sat_idx ?_ ?_ ?_ ?_); rotate_left; decide; rfl; (conv => arg 3; whnf); repeat (first | ((with_reducible refine sat_brT ?_ ?_); rfl; conv => arg 3; whnf) | ((with_reducible refine sat_brF ?_ ?_); rfl; conv => arg 3; whnf) | ((with_reducible refine sat_eqv ?_ ?_); rfl; conv => arg 3; whnf))) | ((with_reducible refine sat_asrt ?_ ?_); rfl; (conv => arg 3; whnf); repeat (first | ((with_reducible refine sat_brT ?_ ?_); rfl; conv => arg 3; whnf) | ((with_reducible refine sat_brF ?_ ?_); rfl; conv => arg 3; whnf) | ((with_reducible refine sat_eqv ?_ ?_); rfl; conv => arg 3; whnf))))
    refine sat_br (fun hm => ?_) (fun hm => ?_)
    · have hm := of_decide_eq_true hm
      (conv => arg 3; whnf); repeat (first | ((with_reducible refine sat_brT ?_ ?_); rfl; conv => arg 3; whnf) | ((with_reducible refine sat_brF ?_ ?_); rfl; conv => arg 3; whnf) | ((with_reducible refine sat_eqv ?_ ?_); rfl; conv => arg 3; whnf))
      repeat (first | ((with_reducible refine sat_rng ?_ ?_); (exact wrap64 (by omega) (by omega)); (conv => arg 3; whnf); repeat (first | ((with_reducible refine sat_brT ?_ ?_); rfl; conv => arg 3; whnf) | ((with_reducible refine sat_brF ?_ ?_); rfl; conv => arg 3; whnf) | ((with_reducible refine sat_eqv ?_ ?_); rfl; conv => arg 3; whnf))) | ((with_reducible refine sat_idx ?_ ?_ ?_ ?_); rotate_left; decide; rfl; (conv => arg 3; whnf); repeat (first | ((with_reducible refine sat_brT ?_ ?_); rfl; conv => arg 3; whnf) | ((with_reducible refine sat_brF ?_ ?_); rfl; conv => arg 3; whnf) | ((with_reducible refine sat_eqv ?_ ?_); rfl; conv => arg 3; whnf))) | ((with_reducible refine sat_asrt ?_ ?_); rfl; (conv => arg 3; whnf); repeat (first | ((with_reducible refine sat_brT ?_ ?_); rfl; conv => arg 3; whnf) | ((with_reducible refine sat_brF ?_ ?_); rfl; conv => arg 3; whnf) | ((with_reducible refine sat_eqv ?_ ?_); rfl; conv => arg 3; whnf))) | (refine sat_rngw ?_; (conv => arg 3; whnf); repeat (first | ((with_reducible refine sat_brT ?_ ?_); rfl; conv => arg 3; whnf) | ((with_reducible refine sat_brF ?_ ?_); rfl; conv => arg 3; whnf) | ((with_reducible refine sat_eqv ?_ ?_); rfl; conv => arg 3; whnf))))
      refine sat_ret ⟨?_, rfl⟩
      refine ins5 rfl ?_ ?_ ?_ ?_
      · rw [Int.tmod_eq_emod_of_nonneg (by omega)]
      · rw [Int.tdiv_eq_ediv_of_nonneg (by omega), IntKind.wrap_u8]; omega
      · rw [i16_in (by omega)]; unfold sg; split <;> omega
      · rw [IntKind.wrap_i32]; unfold sg; split <;> omega
    · have hm := of_decide_eq_false hm
      (conv => arg 3; whnf); repeat (first | ((with_reducible refine sat_brT ?_ ?_); rfl; conv => arg 3; whnf) | ((with_reducible refine sat_brF ?_ ?_); rfl; conv => arg 3; whnf) | ((with_reducible refine sat_eqv ?_ ?_); rfl; conv => arg 3; whnf))
      repeat (first | ((with_reducible refine sat_rng ?_ ?_); (exact wrap64 (by omega) (by omega)); (conv => arg 3; whnf); repeat (first | ((with_reducible refine sat_brT ?_ ?_); rfl; conv => arg 3; whnf) | ((with_reducible refine sat_brF ?_ ?_); rfl; conv => arg 3; whnf) | ((with_reducible refine sat_eqv ?_ ?_); rfl; conv => arg 3; whnf))) | ((with_reducible refine sat_idx ?_ ?_ ?_ ?_); rotate_left; decide; rfl; (conv => arg 3; whnf); repeat (first | ((with_reducible refine sat_brT ?_ ?_); rfl; conv => arg 3; whnf) | ((with_reducible refine sat_brF ?_ ?_); rfl; conv => arg 3; whnf) | ((with_reducible refine sat_eqv ?_ ?_); rfl; conv => arg 3; whnf))) | ((with_reducible refine sat_asrt ?_ ?_); rfl; (conv => arg 3; whnf); repeat (first | ((with_reducible refine sat_brT ?_ ?_); rfl; conv => arg 3; whnf) | ((with_reducible refine sat_brF ?_ ?_); rfl; conv => arg 3; whnf) | ((with_reducible refine sat_eqv ?_ ?_); rfl; conv => arg 3; whnf))) | (refine sat_rngw ?_; (conv => arg 3; whnf); repeat (first | ((with_reducible refine sat_brT ?_ ?_); rfl; conv => arg 3; whnf) | ((with_reducible refine sat_brF ?_ ?_); rfl; conv => arg 3; whnf) | ((with_reducible refine sat_eqv ?_ ?_); rfl; conv => arg 3; whnf))))
      refine sat_ret ⟨?_, rfl⟩
      refine ins5 rfl ?_ ?_ ?_ ?_
      · rw [Int.tmod_eq_emod_of_nonneg (by omega)]
      · rw [Int.tdiv_eq_ediv_of_nonneg (by omega), IntKind.wrap_u8]; omega
      · rw [i16_in (by omega)]; unfold sg; split <;> omega
      · rw [IntKind.wrap_i32]; unfold sg; split <;> omega
end Stk
