/- Words turned and shifted. -/
import Derived.Test.YthkbahbbdacgeaaDoorCk
import Derived.IntWalk
namespace Stk
open Go
set_option maxRecDepth 100000
set_option linter.unusedSimpArgs false
set_option linter.unusedVariables false
set_option maxHeartbeats 4000000
abbrev ti (n : Int) : AV := .t (.int .i64 n)
abbrev u8 (n : Int) : Tr := .int .u8 n
abbrev w32 (n : Int) : Tr := .int .u32 n
abbrev tw (n : Int) : AV := .t (.int .u32 n)
theorem or_shl (k : IntKind) {x y : Int} {n : Nat} (hx : 0 ≤ x ∧ x < 2 ^ n) (hy : 0 ≤ y) (hb : x + y * 2 ^ n < 2 ^ k.bits) (hw : k.wrap (x + y * 2 ^ n) = x + y * 2 ^ n) : bitsV .or k x (y * 2 ^ n) = x + y * 2 ^ n := by
  obtain ⟨a, rfl⟩ : ∃ a : Nat, x = a := ⟨x.toNat, by omega⟩
  obtain ⟨b, rfl⟩ : ∃ b : Nat, y = b := ⟨y.toNat, by omega⟩
  have hx' : a < 2 ^ n := by exact_mod_cast hx.2
  have hb' : a + b * 2 ^ n < 2 ^ k.bits := by exact_mod_cast hb
  have e1 : ((b : Int) * 2 ^ n) = ((b * 2 ^ n : Nat) : Int) := by push_cast; rfl
  have e2 : ((a : Int) + b * 2 ^ n) = ((a + b * 2 ^ n : Nat) : Int) := by push_cast; rfl
  rw [e2] at hw ⊢
  rw [e1]
  unfold bitsV
  have t1 : (BitVec.ofInt k.bits (a : Int)).toNat = a := by
    rw [BitVec.ofInt_natCast, BitVec.toNat_ofNat, Nat.mod_eq_of_lt (by omega)]
  have t2 : (BitVec.ofInt k.bits ((b * 2 ^ n : Nat) : Int)).toNat = b * 2 ^ n := by
    rw [BitVec.ofInt_natCast, BitVec.toNat_ofNat, Nat.mod_eq_of_lt (by omega)]
  dsimp only
  rw [BitVec.toNat_or, t1, t2]
  have : a ||| b * 2 ^ n = a + b * 2 ^ n := by
    have := Nat.shiftLeft_add_eq_or_of_lt hx' b
    rw [Nat.shiftLeft_eq] at this
    rw [Nat.or_comm, ← this, Nat.add_comm]
  rw [this]
  exact hw
theorem or_comm' (k : IntKind) (x y : Int) : bitsV .or k x y = bitsV .or k y x := by
  unfold bitsV
  dsimp only
  rw [BitVec.or_comm]
def rot1 (x : Int) : Int := x / 2 + x % 2 * 2147483648
/-- A word turned right. -/
def rot : Nat → Int → Int
  | 0, x => x
  | n + 1, x => rot1 (rot n x)
/-- A word shifted right. -/
def shf : Nat → Int → Int
  | 0, x => x
  | n + 1, x => shf n x / 2
abbrev W32 (x : Int) : Prop := 0 ≤ x ∧ x ≤ 4294967295
theorem rot1_w {x : Int} (h : W32 x) : W32 (rot1 x) := by unfold rot1; constructor <;> omega
theorem rot_w {x : Int} (h : W32 x) : ∀ n, W32 (rot n x)
  | 0 => h
  | n + 1 => rot1_w (rot_w h n)
theorem shf_w {x : Int} (h : W32 x) : ∀ n, W32 (shf n x)
  | 0 => h
  | n + 1 => by have := shf_w h n; show W32 (shf n x / 2); constructor <;> omega
theorem shf_eq {x : Int} (h : W32 x) : ∀ n, shf n x = x / 2 ^ n
  | 0 => by simp [shf]
  | n + 1 => by
    show shf n x / 2 = _
    rw [shf_eq h n, Int.ediv_ediv_of_nonneg (Int.le_of_lt (Int.pow_pos (by decide))), Int.pow_succ]
def rotN (n x : Nat) : Nat := x / 2 ^ n + x % 2 ^ n * 2 ^ (32 - n)
theorem rotN_next (x n : Nat) (hn : n + 1 ≤ 32) : rotN n x / 2 + rotN n x % 2 * 2147483648 = rotN (n + 1) x := by
  unfold rotN
  have hP : (2 : Nat) ^ (n + 1) = 2 ^ n * 2 := Nat.pow_succ ..
  have hM : (2 : Nat) ^ (32 - n) = 2 * 2 ^ (32 - (n + 1)) := by rw [← Nat.pow_succ']; congr 1; omega
  have hPM : (2 : Nat) ^ n * 2 ^ (32 - (n + 1)) = 2147483648 := by rw [← Nat.pow_add, show n + (32 - (n + 1)) = 31 by omega]
  rw [hP, hM, ← Nat.div_div_eq_div_mul, Nat.mod_mul]
  generalize x / 2 ^ n = a
  generalize x % 2 ^ n = b
  generalize (2 : Nat) ^ n = P at hPM ⊢
  generalize (2 : Nat) ^ (32 - (n + 1)) = M at hPM ⊢
  have h1 : b * (2 * M) = 2 * (b * M) := by rw [← Nat.mul_assoc, Nat.mul_comm b 2, Nat.mul_assoc]
  have h2 : (b + P * (a % 2)) * M = b * M + a % 2 * 2147483648 := by
    rw [Nat.add_mul, Nat.mul_comm P, Nat.mul_assoc, hPM]
  rw [h1, h2]
  generalize b * M = c
  omega
theorem rot_nat (x : Nat) (hx : x ≤ 4294967295) : ∀ n, n ≤ 32 → rot n (x : Int) = (rotN n x : Nat)
  | 0, _ => by
    show (x : Int) = ((x / 2 ^ 0 + x % 2 ^ 0 * 2 ^ (32 - 0) : Nat) : Int)
    rw [Nat.pow_zero, Nat.div_one, Nat.mod_one, Nat.zero_mul, Nat.add_zero]
  | n + 1, hn => by
    show rot1 (rot n x) = _
    rw [rot_nat x hx n (by omega), ← rotN_next x n hn]
    generalize rotN n x = r
    unfold rot1
    omega
/-- The same, at once. -/
theorem rot_eq {x : Int} (h : W32 x) {n : Nat} (hn : n ≤ 32) : rot n x = x / 2 ^ n + x % 2 ^ n * 2 ^ (32 - n) := by
  obtain ⟨a, rfl⟩ : ∃ a : Nat, x = a := ⟨x.toNat, by have := h.1; omega⟩
  rw [rot_nat a (by have := h.2; omega) n hn]
  unfold rotN
  push_cast
  rfl
theorem and31 : ∀ n : Fin 32, 1 ≤ n.val → bitsV .and .u64 (IntKind.wrap .u64 (-(n.val : Int))) 31 = 32 - (n.val : Int) := by decide +kernel
theorem k_rotl (x : Int) (hx : W32 x) (n : Nat) (h1 : 1 ≤ n) (h2 : n ≤ 31) : ACalls PP GG F.math_bits_RotateLeft32 [tw x, ti (0 - n)] [] fun r H' => r = tw (rot n x) ∧ H' = [] := by
  have ha := and31 ⟨n, by omega⟩ h1
  dsimp only at ha
  refine K.math_bits_RotateLeft32.callsC rfl ?_
  (conv => arg 3; whnf); repeat ((first | (with_reducible apply sT); rfl | (with_reducible apply sF); rfl | (with_reducible apply sE); rfl); conv => arg 3; whnf)
  refine sat_rngw ?_
  rw [show (0 : Int) - n = -n by omega]
  (conv => arg 3; whnf); repeat ((first | (with_reducible apply sT); rfl | (with_reducible apply sF); rfl | (with_reducible apply sE); rfl); conv => arg 3; whnf)
  rw [ha]
  refine sat_asrt (decide_eq_true (by omega)) ?_
  (conv => arg 3; whnf); repeat ((first | (with_reducible apply sT); rfl | (with_reducible apply sF); rfl | (with_reducible apply sE); rfl); conv => arg 3; whnf)
  refine sat_rngw ?_
  (conv => arg 3; whnf); repeat ((first | (with_reducible apply sT); rfl | (with_reducible apply sF); rfl | (with_reducible apply sE); rfl); conv => arg 3; whnf)
  refine sat_rng (show IntKind.wrap .u64 (32 - (32 - (n : Int))) = 32 - (32 - (n : Int)) from by rw [IntKind.wrap_u64]; omega) ?_
  (conv => arg 3; whnf); repeat ((first | (with_reducible apply sT); rfl | (with_reducible apply sF); rfl | (with_reducible apply sE); rfl); conv => arg 3; whnf)
  refine sat_asrt (decide_eq_true (by omega)) ?_
  (conv => arg 3; whnf); repeat ((first | (with_reducible apply sT); rfl | (with_reducible apply sF); rfl | (with_reducible apply sE); rfl); conv => arg 3; whnf)
  refine sat_ret ⟨?_, rfl⟩
  have e1 : min (Int.toNat (32 - (n : Int))) (IntKind.bits .u32) = 32 - n := by show min _ 32 = _; omega
  have e2 : min (Int.toNat (32 - (32 - (n : Int)))) (IntKind.bits .u32) = n := by show min _ 32 = _; omega
  rw [e1, e2, Int.fdiv_eq_ediv_of_nonneg _ (Int.le_of_lt (Int.pow_pos (by decide))), rot_eq hx (by omega)]
  have hp : (2 : Int) ^ n * 2 ^ (32 - n) = 4294967296 := by rw [← Int.pow_add, show n + (32 - n) = 32 by omega]; rfl
  have hP : (0 : Int) < 2 ^ n := Int.pow_pos (by decide)
  have hM : (0 : Int) < 2 ^ (32 - n) := Int.pow_pos (by decide)
  have hx0 := hx.1
  have hx1 := hx.2
  have e3 : IntKind.wrap .u32 (x * 2 ^ (32 - n)) = x % 2 ^ n * 2 ^ (32 - n) := by
    rw [IntKind.wrap_u32, ← hp, Int.mul_comm x, Int.mul_comm (2 ^ n) (2 ^ (32 - n)), Int.mul_emod_mul_of_pos _ _ hM, Int.mul_comm]
  have hd : x / 2 ^ n < 2 ^ (32 - n) := by
    apply Int.ediv_lt_of_lt_mul hP
    rw [Int.mul_comm, hp]; omega
  have hm := Int.emod_lt_of_pos x hP
  have hm0 := Int.emod_nonneg x (Int.ne_of_gt hP)
  have hd0 : 0 ≤ x / 2 ^ n := Int.ediv_nonneg hx0 (Int.le_of_lt hP)
  have hs : x / 2 ^ n + x % 2 ^ n * 2 ^ (32 - n) < 4294967296 := by
    have h3 : (x % 2 ^ n + 1) * 2 ^ (32 - n) ≤ 2 ^ n * 2 ^ (32 - n) := Int.mul_le_mul_of_nonneg_right (by omega) (Int.le_of_lt hM)
    rw [hp, Int.add_mul, Int.one_mul] at h3
    omega
  have hs0 : 0 ≤ x % 2 ^ n * 2 ^ (32 - n) := Int.mul_nonneg hm0 (Int.le_of_lt hM)
  rw [e3, or_comm', or_shl .u32 ⟨hd0, hd⟩ hm0 (by show _ < (2 : Int) ^ 32; exact hs) (by rw [IntKind.wrap_u32]; omega)]
theorem k_right (x : Int) (hx : W32 x) (n : Nat) (h1 : 1 ≤ n) (h2 : n ≤ 31) : ACalls PP GG F.sha_right [tw x, ti n] [] fun r H' => r = tw (rot n x) ∧ H' = [] := by
  refine K.sha_right.callsC rfl ?_
  (conv => arg 3; whnf); repeat ((first | (with_reducible apply sT); rfl | (with_reducible apply sF); rfl | (with_reducible apply sE); rfl); conv => arg 3; whnf)
  refine sat_rng (wrap64 (by omega) (by omega)) ?_
  (conv => arg 3; whnf); repeat ((first | (with_reducible apply sT); rfl | (with_reducible apply sF); rfl | (with_reducible apply sE); rfl); conv => arg 3; whnf)
  refine sat_call (k_rotl x hx n h1 h2) ?_
  rintro r H' ⟨rfl, rfl⟩
  (conv => arg 3; whnf); repeat ((first | (with_reducible apply sT); rfl | (with_reducible apply sF); rfl | (with_reducible apply sE); rfl); conv => arg 3; whnf)
  exact sat_ret ⟨rfl, rfl⟩
structure TuSt (x : Int) (n : Nat) where
  i : Nat
  im : i ≤ n
theorem r_turned (x : Int) (hx : W32 x) (n : Nat) (h2 : n ≤ 31) : ACalls PP GG F.ref17_turned [tw x, ti n] [] fun r H' => r = tw (rot n x) ∧ H' = [] := by
  refine K.ref17_turned.callsC rfl ?_
  (conv => arg 3; whnf); repeat ((first | (with_reducible apply sT); rfl | (with_reducible apply sF); rfl | (with_reducible apply sE); rfl); conv => arg 3; whnf)
  refine sat_loopOf mkX_ops (σ := TuSt x n) (fun s => [(0, tw (rot s.i x)), (1, ti n), (5, ti s.i)]) (fun s => []) (fun s => n - s.i)
    (fun ex fr' H' => ex = .exit 0 ∧ fr' = [(0, tw (rot n x))] ∧ H' = []) ⟨0, Nat.zero_le _⟩ ?_ ?_
  · rintro ⟨i, im⟩
    dsimp only
    refine sat_br (fun hi => ?_) (fun hi => ?_)
    · have hi : i < n := by have := of_decide_eq_true hi; omega
      have hw := rot_w hx i
      generalize hr : rot i x = y at hw ⊢
      (conv => arg 3; whnf); repeat ((first | (with_reducible apply sT); rfl | (with_reducible apply sF); rfl | (with_reducible apply sE); rfl); conv => arg 3; whnf)
      repeat (first | ((with_reducible refine sat_rng ?_ ?_); (exact wrap64 (by omega) (by omega)); (conv => arg 3; whnf); repeat ((first | (with_reducible apply sT); rfl | (with_reducible apply sF); rfl | (with_reducible apply sE); rfl); conv => arg 3; whnf)) | (refine sat_asrt rfl ?_; (conv => arg 3; whnf); repeat ((first | (with_reducible apply sT); rfl | (with_reducible apply sF); rfl | (with_reducible apply sE); rfl); conv => arg 3; whnf)) | (refine sat_rngw ?_; (conv => arg 3; whnf); repeat ((first | (with_reducible apply sT); rfl | (with_reducible apply sF); rfl | (with_reducible apply sE); rfl); conv => arg 3; whnf)))
      have e : IntKind.wrap .u32 (IntKind.wrap .u32 (y.tdiv 2) + IntKind.wrap .u32 (y.tmod 2 * 2147483648)) = rot (i + 1) x := by
        show _ = rot1 (rot i x)
        rw [hr, Int.tdiv_eq_ediv_of_nonneg hw.1, Int.tmod_eq_emod_of_nonneg hw.1, IntKind.wrap_u32, IntKind.wrap_u32, IntKind.wrap_u32]
        unfold rot1
        omega
      rw [e]
      exact sat_ret ⟨⟨i + 1, hi⟩, rfl, rfl, by show n - (i + 1) < n - i; omega⟩
    · have hi : i = n := by have := of_decide_eq_false hi; omega
      subst hi
      (conv => arg 3; whnf); repeat ((first | (with_reducible apply sT); rfl | (with_reducible apply sF); rfl | (with_reducible apply sE); rfl); conv => arg 3; whnf)
      exact sat_ret ⟨rfl, rfl, rfl⟩
  · rintro ex fr' H' ⟨rfl, rfl, rfl⟩
    (conv => arg 3; whnf); repeat ((first | (with_reducible apply sT); rfl | (with_reducible apply sF); rfl | (with_reducible apply sE); rfl); conv => arg 3; whnf)
    exact sat_ret ⟨rfl, rfl⟩
theorem r_shifted (x : Int) (hx : W32 x) (n : Nat) (h2 : n ≤ 31) : ACalls PP GG F.ref17_shifted [tw x, ti n] [] fun r H' => r = tw (shf n x) ∧ H' = [] := by
  refine K.ref17_shifted.callsC rfl ?_
  (conv => arg 3; whnf); repeat ((first | (with_reducible apply sT); rfl | (with_reducible apply sF); rfl | (with_reducible apply sE); rfl); conv => arg 3; whnf)
  refine sat_loopOf mkX_ops (σ := TuSt x n) (fun s => [(0, tw (shf s.i x)), (1, ti n), (5, ti s.i)]) (fun s => []) (fun s => n - s.i)
    (fun ex fr' H' => ex = .exit 0 ∧ fr' = [(0, tw (shf n x))] ∧ H' = []) ⟨0, Nat.zero_le _⟩ ?_ ?_
  · rintro ⟨i, im⟩
    dsimp only
    refine sat_br (fun hi => ?_) (fun hi => ?_)
    · have hi : i < n := by have := of_decide_eq_true hi; omega
      have hw := shf_w hx i
      generalize hr : shf i x = y at hw ⊢
      (conv => arg 3; whnf); repeat ((first | (with_reducible apply sT); rfl | (with_reducible apply sF); rfl | (with_reducible apply sE); rfl); conv => arg 3; whnf)
      repeat (first | ((with_reducible refine sat_rng ?_ ?_); (exact wrap64 (by omega) (by omega)); (conv => arg 3; whnf); repeat ((first | (with_reducible apply sT); rfl | (with_reducible apply sF); rfl | (with_reducible apply sE); rfl); conv => arg 3; whnf)) | (refine sat_asrt rfl ?_; (conv => arg 3; whnf); repeat ((first | (with_reducible apply sT); rfl | (with_reducible apply sF); rfl | (with_reducible apply sE); rfl); conv => arg 3; whnf)) | (refine sat_rngw ?_; (conv => arg 3; whnf); repeat ((first | (with_reducible apply sT); rfl | (with_reducible apply sF); rfl | (with_reducible apply sE); rfl); conv => arg 3; whnf)))
      have e : IntKind.wrap .u32 (y.tdiv 2) = shf (i + 1) x := by
        show _ = shf i x / 2
        rw [hr, Int.tdiv_eq_ediv_of_nonneg hw.1, IntKind.wrap_u32]
        omega
      rw [e]
      exact sat_ret ⟨⟨i + 1, hi⟩, rfl, rfl, by show n - (i + 1) < n - i; omega⟩
    · have hi : i = n := by have := of_decide_eq_false hi; omega
      subst hi
      (conv => arg 3; whnf); repeat ((first | (with_reducible apply sT); rfl | (with_reducible apply sF); rfl | (with_reducible apply sE); rfl); conv => arg 3; whnf)
      exact sat_ret ⟨rfl, rfl, rfl⟩
  · rintro ex fr' H' ⟨rfl, rfl, rfl⟩
    (conv => arg 3; whnf); repeat ((first | (with_reducible apply sT); rfl | (with_reducible apply sF); rfl | (with_reducible apply sE); rfl); conv => arg 3; whnf)
    exact sat_ret ⟨rfl, rfl⟩
end Stk
