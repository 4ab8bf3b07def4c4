/- Several texts of this claim, joined into one file. -/
import Derived.Test.YthkbahbbdacgeaaDoorZCk
import Derived.IntWalk
section
/- Words turned and shifted. -/
namespace Stk
open Go
set_option maxRecDepth 100000
set_option linter.unusedSimpArgs false
set_option linter.unusedVariables false
set_option maxHeartbeats 4000000
abbrev ti (n : Int) : AV := .t (.int .i64 n)
abbrev u8 (n : Int) : Tr := .int .u8 n
abbrev w32 (n : Int) : Tr := .int .u32 n
abbrev tw (n : Int) : AV := .t (.int .u32 n)
theorem or_shl (k : IntKind) {x y : Int} {n : Nat} (hx : 0 ≤ x ∧ x < 2 ^ n) (hy : 0 ≤ y) (hb : x + y * 2 ^ n < 2 ^ k.bits) (hw : k.wrap (x + y * 2 ^ n) = x + y * 2 ^ n) : bitsV .or k x (y * 2 ^ n) = x + y * 2 ^ n := by
  obtain ⟨a, rfl⟩ : ∃ a : Nat, x = a := ⟨x.toNat, by omega⟩
  obtain ⟨b, rfl⟩ : ∃ b : Nat, y = b := ⟨y.toNat, by omega⟩
  have hx' : a < 2 ^ n := by exact_mod_cast hx.2
  have hb' : a + b * 2 ^ n < 2 ^ k.bits := by exact_mod_cast hb
  have e1 : ((b : Int) * 2 ^ n) = ((b * 2 ^ n : Nat) : Int) := by push_cast; rfl
  have e2 : ((a : Int) + b * 2 ^ n) = ((a + b * 2 ^ n : Nat) : Int) := by push_cast; rfl
  rw [e2] at hw ⊢
  rw [e1]
  unfold bitsV
  have t1 : (BitVec.ofInt k.bits (a : Int)).toNat = a := by
    rw [BitVec.ofInt_natCast, BitVec.toNat_ofNat, Nat.mod_eq_of_lt (by omega)]
  have t2 : (BitVec.ofInt k.bits ((b * 2 ^ n : Nat) : Int)).toNat = b * 2 ^ n := by
    rw [BitVec.ofInt_natCast, BitVec.toNat_ofNat, Nat.mod_eq_of_lt (by omega)]
  dsimp only
  rw [BitVec.toNat_or, t1, t2]
  have : a ||| b * 2 ^ n = a + b * 2 ^ n := by
    have := Nat.shiftLeft_add_eq_or_of_lt hx' b
    rw [Nat.shiftLeft_eq] at this
    rw [Nat.or_comm, ← this, Nat.add_comm]
  rw [this]
  exact hw
theorem or_comm' (k : IntKind) (x y : Int) : bitsV .or k x y = bitsV .or k y x := by
  unfold bitsV
  dsimp only
  rw [BitVec.or_comm]
def rot1 (x : Int) : Int := x / 2 + x % 2 * 2147483648
/-- A word turned right. -/
def rot : Nat → Int → Int
  | 0, x => x
  | n + 1, x => rot1 (rot n x)
/-- A word shifted right. -/
def shf : Nat → Int → Int
  | 0, x => x
  | n + 1, x => shf n x / 2
abbrev W32 (x : Int) : Prop := 0 ≤ x ∧ x ≤ 4294967295
theorem rot1_w {x : Int} (h : W32 x) : W32 (rot1 x) := by unfold rot1; constructor <;> omega
theorem rot_w {x : Int} (h : W32 x) : ∀ n, W32 (rot n x)
  | 0 => h
  | n + 1 => rot1_w (rot_w h n)
theorem shf_w {x : Int} (h : W32 x) : ∀ n, W32 (shf n x)
  | 0 => h
  | n + 1 => by have := shf_w h n; show W32 (shf n x / 2); constructor <;> omega
theorem shf_eq {x : Int} (h : W32 x) : ∀ n, shf n x = x / 2 ^ n
  | 0 => by simp [shf]
  | n + 1 => by
    show shf n x / 2 = _
    rw [shf_eq h n, Int.ediv_ediv_of_nonneg (Int.le_of_lt (Int.pow_pos (by decide))), Int.pow_succ]
def rotN (n x : Nat) : Nat := x / 2 ^ n + x % 2 ^ n * 2 ^ (32 - n)
theorem rotN_next (x n : Nat) (hn : n + 1 ≤ 32) : rotN n x / 2 + rotN n x % 2 * 2147483648 = rotN (n + 1) x := by
  unfold rotN
  have hP : (2 : Nat) ^ (n + 1) = 2 ^ n * 2 := Nat.pow_succ ..
  have hM : (2 : Nat) ^ (32 - n) = 2 * 2 ^ (32 - (n + 1)) := by rw [← Nat.pow_succ']; congr 1; omega
  have hPM : (2 : Nat) ^ n * 2 ^ (32 - (n + 1)) = 2147483648 := by rw [← Nat.pow_add, show n + (32 - (n + 1)) = 31 by omega]
  rw [hP, hM, ← Nat.div_div_eq_div_mul, Nat.mod_mul]
  generalize x / 2 ^ n = a
  generalize x % 2 ^ n = b
  generalize (2 : Nat) ^ n = P at hPM ⊢
  generalize (2 : Nat) ^ (32 - (n + 1)) = M at hPM ⊢
  have h1 : b * (2 * M) = 2 * (b * M) := by rw [← Nat.mul_assoc, Nat.mul_comm b 2, Nat.mul_assoc]
  have h2 : (b + P * (a % 2)) * M = b * M + a % 2 * 2147483648 := by
    rw [Nat.add_mul, Nat.mul_comm P, Nat.mul_assoc, hPM]
  rw [h1, h2]
  generalize b * M = c
  omega
theorem rot_nat (x : Nat) (hx : x ≤ 4294967295) : ∀ n, n ≤ 32 → rot n (x : Int) = (rotN n x : Nat)
  | 0, _ => by
    show (x : Int) = ((x / 2 ^ 0 + x % 2 ^ 0 * 2 ^ (32 - 0) : Nat) : Int)
    rw [Nat.pow_zero, Nat.div_one, Nat.mod_one, Nat.zero_mul, Nat.add_zero]
  | n + 1, hn => by
    show rot1 (rot n x) = _
    rw [rot_nat x hx n (by omega), ← rotN_next x n hn]
    generalize rotN n x = r
    unfold rot1
    omega
/-- The same, at once. -/
theorem rot_eq {x : Int} (h : W32 x) {n : Nat} (hn : n ≤ 32) : rot n x = x / 2 ^ n + x % 2 ^ n * 2 ^ (32 - n) := by
  obtain ⟨a, rfl⟩ : ∃ a : Nat, x = a := ⟨x.toNat, by have := h.1; omega⟩
  rw [rot_nat a (by have := h.2; omega) n hn]
  unfold rotN
  push_cast
  rfl
theorem and31 : ∀ n : Fin 32, 1 ≤ n.val → bitsV .and .u64 (IntKind.wrap .u64 (-(n.val : Int))) 31 = 32 - (n.val : Int) := by decide +kernel
theorem k_rotl (x : Int) (hx : W32 x) (n : Nat) (h1 : 1 ≤ n) (h2 : n ≤ 31) : ACalls PP GG F.math_bits_RotateLeft32 [tw x, ti (0 - n)] [] fun r H' => r = tw (rot n x) ∧ H' = [] := by
  have ha := and31 ⟨n, by omega⟩ h1
  dsimp only at ha
  refine K.math_bits_RotateLeft32.callsC rfl ?_
  (conv => arg 3; whnf); repeat ((first | (with_reducible apply sT); rfl | (with_reducible apply sF); rfl | (with_reducible apply sE); rfl); conv => arg 3; whnf)
  refine sat_rngw ?_
  rw [show (0 : Int) - n = -n by omega]
  (conv => arg 3; whnf); repeat ((first | (with_reducible apply sT); rfl | (with_reducible apply sF); rfl | (with_reducible apply sE); rfl); conv => arg 3; whnf)
  rw [ha]
  refine sat_asrt (decide_eq_true (by omega)) ?_
  (conv => arg 3; whnf); repeat ((first | (with_reducible apply sT); rfl | (with_reducible apply sF); rfl | (with_reducible apply sE); rfl); conv => arg 3; whnf)
  refine sat_rngw ?_
  (conv => arg 3; whnf); repeat ((first | (with_reducible apply sT); rfl | (with_reducible apply sF); rfl | (with_reducible apply sE); rfl); conv => arg 3; whnf)
  refine sat_rng (show IntKind.wrap .u64 (32 - (32 - (n : Int))) = 32 - (32 - (n : Int)) from by rw [IntKind.wrap_u64]; omega) ?_
  (conv => arg 3; whnf); repeat ((first | (with_reducible apply sT); rfl | (with_reducible apply sF); rfl | (with_reducible apply sE); rfl); conv => arg 3; whnf)
  refine sat_asrt (decide_eq_true (by omega)) ?_
  (conv => arg 3; whnf); repeat ((first | (with_reducible apply sT); rfl | (with_reducible apply sF); rfl | (with_reducible apply sE); rfl); conv => arg 3; whnf)
  refine sat_ret ⟨?_, rfl⟩
  have e1 : min (Int.toNat (32 - (n : Int))) (IntKind.bits .u32) = 32 - n := by show min _ 32 = _; omega
  have e2 : min (Int.toNat (32 - (32 - (n : Int)))) (IntKind.bits .u32) = n := by show min _ 32 = _; omega
  rw [e1, e2, Int.fdiv_eq_ediv_of_nonneg _ (Int.le_of_lt (Int.pow_pos (by decide))), rot_eq hx (by omega)]
  have hp : (2 : Int) ^ n * 2 ^ (32 - n) = 4294967296 := by rw [← Int.pow_add, show n + (32 - n) = 32 by omega]; rfl
  have hP : (0 : Int) < 2 ^ n := Int.pow_pos (by decide)
  have hM : (0 : Int) < 2 ^ (32 - n) := Int.pow_pos (by decide)
  have hx0 := hx.1
  have hx1 := hx.2
  have e3 : IntKind.wrap .u32 (x * 2 ^ (32 - n)) = x % 2 ^ n * 2 ^ (32 - n) := by
    rw [IntKind.wrap_u32, ← hp, Int.mul_comm x, Int.mul_comm (2 ^ n) (2 ^ (32 - n)), Int.mul_emod_mul_of_pos _ _ hM, Int.mul_comm]
  have hd : x / 2 ^ n < 2 ^ (32 - n) := by
    apply Int.ediv_lt_of_lt_mul hP
    rw [Int.mul_comm, hp]; omega
  have hm := Int.emod_lt_of_pos x hP
  have hm0 := Int.emod_nonneg x (Int.ne_of_gt hP)
  have hd0 : 0 ≤ x / 2 ^ n := Int.ediv_nonneg hx0 (Int.le_of_lt hP)
  have hs : x / 2 ^ n + x % 2 ^ n * 2 ^ (32 - n) < 4294967296 := by
    have h3 : (x % 2 ^ n + 1) * 2 ^ (32 - n) ≤ 2 ^ n * 2 ^ (32 - n) := Int.mul_le_mul_of_nonneg_right (by omega) (Int.le_of_lt hM)
    rw [hp, Int.add_mul, Int.one_mul] at h3
    omega
  have hs0 : 0 ≤ x % 2 ^ n * 2 ^ (32 - n) := Int.mul_nonneg hm0 (Int.le_of_lt hM)
  rw [e3, or_comm', or_shl .u32 ⟨hd0, hd⟩ hm0 (by show _ < (2 : Int) ^ 32; exact hs) (by rw [IntKind.wrap_u32]; omega)]
theorem k_right (x : Int) (hx : W32 x) (n : Nat) (h1 : 1 ≤ n) (h2 : n ≤ 31) : ACalls PP GG F.sha_right [tw x, ti n] [] fun r H' => r = tw (rot n x) ∧ H' = [] := by
  refine K.sha_right.callsC rfl ?_
  (conv => arg 3; whnf); repeat ((first | (with_reducible apply sT); rfl | (with_reducible apply sF); rfl | (with_reducible apply sE); rfl); conv => arg 3; whnf)
  refine sat_rng (wrap64 (by omega) (by omega)) ?_
  (conv => arg 3; whnf); repeat ((first | (with_reducible apply sT); rfl | (with_reducible apply sF); rfl | (with_reducible apply sE); rfl); conv => arg 3; whnf)
  refine sat_call (k_rotl x hx n h1 h2) ?_
  rintro r H' ⟨rfl, rfl⟩
  (conv => arg 3; whnf); repeat ((first | (with_reducible apply sT); rfl | (with_reducible apply sF); rfl | (with_reducible apply sE); rfl); conv => arg 3; whnf)
  exact sat_ret ⟨rfl, rfl⟩
structure TuSt (x : Int) (n : Nat) where
  i : Nat
  im : i ≤ n
theorem r_turned (x : Int) (hx : W32 x) (n : Nat) (h2 : n ≤ 31) : ACalls PP GG F.ref17_turned [tw x, ti n] [] fun r H' => r = tw (rot n x) ∧ H' = [] := by
  refine K.ref17_turned.callsC rfl ?_
  (conv => arg 3; whnf); repeat ((first | (with_reducible apply sT); rfl | (with_reducible apply sF); rfl | (with_reducible apply sE); rfl); conv => arg 3; whnf)
  refine sat_loopOf mkX_ops (σ := TuSt x n) (fun s => [(0, tw (rot s.i x)), (1, ti n), (5, ti s.i)]) (fun s => []) (fun s => n - s.i)
    (fun ex fr' H' => ex = .exit 0 ∧ fr' = [(0, tw (rot n x))] ∧ H' = []) ⟨0, Nat.zero_le _⟩ ?_ ?_
  · rintro ⟨i, im⟩
    dsimp only
    refine sat_br (fun hi => ?_) (fun hi => ?_)
    · have hi : i < n := by have := of_decide_eq_true hi; omega
      have hw := rot_w hx i
      generalize hr : rot i x = y at hw ⊢
      (conv => arg 3; whnf); repeat ((first | (with_reducible apply sT); rfl | (with_reducible apply sF); rfl | (with_reducible apply sE); rfl); conv => arg 3; whnf)
      repeat (first | ((with_reducible refine sat_rng ?_ ?_); (exact wrap64 (by omega) (by omega)); (conv => arg 3; whnf); repeat ((first | (with_reducible apply sT); rfl | (with_reducible apply sF); rfl | (with_reducible apply sE); rfl); conv => arg 3; whnf)) | (refine sat_asrt rfl ?_; (conv => arg 3; whnf); repeat ((first | (with_reducible apply sT); rfl | (with_reducible apply sF); rfl | (with_reducible apply sE); rfl); conv => arg 3; whnf)) | (refine sat_rngw ?_; (conv => arg 3; whnf); repeat ((first | (with_reducible apply sT); rfl | (with_reducible apply sF); rfl | (with_reducible apply sE); rfl); conv => arg 3; whnf)))
      have e : IntKind.wrap .u32 (IntKind.wrap .u32 (y.tdiv 2) + IntKind.wrap .u32 (y.tmod 2 * 2147483648)) = rot (i + 1) x := by
        show _ = rot1 (rot i x)
        rw [hr, Int.tdiv_eq_ediv_of_nonneg hw.1, Int.tmod_eq_emod_of_nonneg hw.1, IntKind.wrap_u32, IntKind.wrap_u32, IntKind.wrap_u32]
        unfold rot1
        omega
      rw [e]
      exact sat_ret ⟨⟨i + 1, hi⟩, rfl, rfl, by show n - (i + 1) < n - i; omega⟩
    · have hi : i = n := by have := of_decide_eq_false hi; omega
      subst hi
      (conv => arg 3; whnf); repeat ((first | (with_reducible apply sT); rfl | (with_reducible apply sF); rfl | (with_reducible apply sE); rfl); conv => arg 3; whnf)
      exact sat_ret ⟨rfl, rfl, rfl⟩
  · rintro ex fr' H' ⟨rfl, rfl, rfl⟩
    (conv => arg 3; whnf); repeat ((first | (with_reducible apply sT); rfl | (with_reducible apply sF); rfl | (with_reducible apply sE); rfl); conv => arg 3; whnf)
    exact sat_ret ⟨rfl, rfl⟩
theorem r_shifted (x : Int) (hx : W32 x) (n : Nat) (h2 : n ≤ 31) : ACalls PP GG F.ref17_shifted [tw x, ti n] [] fun r H' => r = tw (shf n x) ∧ H' = [] := by
  refine K.ref17_shifted.callsC rfl ?_
  (conv => arg 3; whnf); repeat ((first | (with_reducible apply sT); rfl | (with_reducible apply sF); rfl | (with_reducible apply sE); rfl); conv => arg 3; whnf)
  refine sat_loopOf mkX_ops (σ := TuSt x n) (fun s => [(0, tw (shf s.i x)), (1, ti n), (5, ti s.i)]) (fun s => []) (fun s => n - s.i)
    (fun ex fr' H' => ex = .exit 0 ∧ fr' = [(0, tw (shf n x))] ∧ H' = []) ⟨0, Nat.zero_le _⟩ ?_ ?_
  · rintro ⟨i, im⟩
    dsimp only
    refine sat_br (fun hi => ?_) (fun hi => ?_)
    · have hi : i < n := by have := of_decide_eq_true hi; omega
      have hw := shf_w hx i
      generalize hr : shf i x = y at hw ⊢
      (conv => arg 3; whnf); repeat ((first | (with_reducible apply sT); rfl | (with_reducible apply sF); rfl | (with_reducible apply sE); rfl); conv => arg 3; whnf)
      repeat (first | ((with_reducible refine sat_rng ?_ ?_); (exact wrap64 (by omega) (by omega)); (conv => arg 3; whnf); repeat ((first | (with_reducible apply sT); rfl | (with_reducible apply sF); rfl | (with_reducible apply sE); rfl); conv => arg 3; whnf)) | (refine sat_asrt rfl ?_; (conv => arg 3; whnf); repeat ((first | (with_reducible apply sT); rfl | (with_reducible apply sF); rfl | (with_reducible apply sE); rfl); conv => arg 3; whnf)) | (refine sat_rngw ?_; (conv => arg 3; whnf); repeat ((first | (with_reducible apply sT); rfl | (with_reducible apply sF); rfl | (with_reducible apply sE); rfl); conv => arg 3; whnf)))
      have e : IntKind.wrap .u32 (y.tdiv 2) = shf (i + 1) x := by
        show _ = shf i x / 2
        rw [hr, Int.tdiv_eq_ediv_of_nonneg hw.1, IntKind.wrap_u32]
        omega
      rw [e]
      exact sat_ret ⟨⟨i + 1, hi⟩, rfl, rfl, by show n - (i + 1) < n - i; omega⟩
    · have hi : i = n := by have := of_decide_eq_false hi; omega
      subst hi
      (conv => arg 3; whnf); repeat ((first | (with_reducible apply sT); rfl | (with_reducible apply sF); rfl | (with_reducible apply sE); rfl); conv => arg 3; whnf)
      exact sat_ret ⟨rfl, rfl, rfl⟩
  · rintro ex fr' H' ⟨rfl, rfl, rfl⟩
    (conv => arg 3; whnf); repeat ((first | (with_reducible apply sT); rfl | (with_reducible apply sF); rfl | (with_reducible apply sE); rfl); conv => arg 3; whnf)
    exact sat_ret ⟨rfl, rfl⟩
end Stk
end

section
/- The words of a block. -/
namespace Stk
open Go
set_option maxRecDepth 100000
set_option linter.unusedSimpArgs false
set_option linter.unusedVariables false
set_option maxHeartbeats 4000000
abbrev pt (b : Nat) : AV := .ptr b 0 0 [] none
def gw (xs : List Tr) (i : Nat) : Int := match xs[i]? with
  | some (.int _ v) => v
  | _ => 0
def AllW (xs : List Tr) : Prop := ∀ y ∈ xs, ∃ v, y = w32 v ∧ W32 v
def AllB (xs : List Tr) : Prop := ∀ y ∈ xs, ∃ v, y = u8 v ∧ 0 ≤ v ∧ v ≤ 255
theorem AllW.get {xs : List Tr} (h : AllW xs) {i : Nat} (hi : i < xs.length) : xs[i]? = some (w32 (gw xs i)) ∧ W32 (gw xs i) := by
  obtain ⟨v, e, hv⟩ := h _ (List.getElem_mem hi)
  have : xs[i]? = some (w32 v) := by rw [List.getElem?_eq_getElem hi, e]
  unfold gw
  rw [this]
  exact ⟨rfl, hv⟩
theorem AllB.get {xs : List Tr} (h : AllB xs) {i : Nat} (hi : i < xs.length) : xs[i]? = some (u8 (gw xs i)) ∧ 0 ≤ gw xs i ∧ gw xs i ≤ 255 := by
  obtain ⟨v, e, h1, h2⟩ := h _ (List.getElem_mem hi)
  have : xs[i]? = some (u8 v) := by rw [List.getElem?_eq_getElem hi, e]
  unfold gw
  rw [this]
  exact ⟨rfl, h1, h2⟩
abbrev xr (a b : Int) : Int := bitsV .xor .u32 a b
def s0 (x : Int) : Int := xr (xr (rot 7 x) (rot 18 x)) (shf 3 x)
def s1 (x : Int) : Int := xr (xr (rot 17 x) (rot 19 x)) (shf 10 x)
abbrev ad (a b : Int) : Int := IntKind.wrap .u32 (a + b)
def nw (ws : List Tr) (t : Nat) : Int := ad (ad (ad (s1 (gw ws (t - 2))) (gw ws (t - 7))) (s0 (gw ws (t - 15)))) (gw ws (t - 16))
def be (bs : List Tr) (t : Nat) : Int := gw bs (4 * t) * 16777216 + gw bs (4 * t + 1) * 65536 + gw bs (4 * t + 2) * 256 + gw bs (4 * t + 3)
/-- A digest as it lies. -/
abbrev dT (hs wt : List Tr) (n : Int) : Tr := .agg [.bool true, .arr 8 hs, .arr 64 wt, .int .u64 n]
theorem or4 {a b c d : Int} (ha : 0 ≤ a ∧ a ≤ 255) (hb : 0 ≤ b ∧ b ≤ 255) (hc : 0 ≤ c ∧ c ≤ 255) (hd : 0 ≤ d ∧ d ≤ 255) :
    bitsV .or .u32 (bitsV .or .u32 (bitsV .or .u32 (a * 16777216) (b * 65536)) (c * 256)) d = a * 16777216 + b * 65536 + c * 256 + d := by
  have e1 : bitsV .or .u32 (a * 16777216) (b * 65536) = (a * 256 + b) * 65536 := by
    have := or_shl .u32 (x := b * 65536) (y := a) (n := 24) (by omega) ha.1 (by show _ < (2 : Int) ^ 32; omega) (by rw [IntKind.wrap_u32]; omega)
    rw [or_comm', show a * 16777216 = a * 2 ^ 24 by omega, this]; omega
  have e2 : bitsV .or .u32 ((a * 256 + b) * 65536) (c * 256) = ((a * 256 + b) * 256 + c) * 256 := by
    have := or_shl .u32 (x := c * 256) (y := a * 256 + b) (n := 16) (by omega) (by omega) (by show _ < (2 : Int) ^ 32; omega) (by rw [IntKind.wrap_u32]; omega)
    rw [or_comm', show (a * 256 + b) * 65536 = (a * 256 + b) * 2 ^ 16 by omega, this]; omega
  have e3 : bitsV .or .u32 (((a * 256 + b) * 256 + c) * 256) d = a * 16777216 + b * 65536 + c * 256 + d := by
    have := or_shl .u32 (x := d) (y := (a * 256 + b) * 256 + c) (n := 8) (by omega) (by omega) (by show _ < (2 : Int) ^ 32; omega) (by rw [IntKind.wrap_u32]; omega)
    rw [or_comm', show ((a * 256 + b) * 256 + c) * 256 = ((a * 256 + b) * 256 + c) * 2 ^ 8 by omega, this]; omega
  rw [e1, e2, e3]
theorem k_word1 (hs wt ws : List Tr) (n : Int) (t : Nat) (hb : AllB wt) (hl : wt.length = 64) (ht : t < 16) :
    ACalls PP GG F.sha_Digest_block_1 [ti t, pt 0, pt 2] [.var (pt 1), .var (.t (dT hs wt n)), .var (.t (.arr 64 ws))] fun r H' => r = tw (be wt t) ∧ H' = [.var (pt 1), .var (.t (dT hs wt n)), .var (.t (.arr 64 ws))] := by
  refine K.sha_Digest_block_1.callsC rfl ?_
  (conv => arg 3; whnf); repeat ((first | (with_reducible apply sT); rfl | (with_reducible apply sF); rfl | (with_reducible apply sE); rfl); conv => arg 3; whnf)
  refine sat_brT (decide_eq_true (by omega)) ?_
  obtain ⟨a0, b0⟩ := hb.get (show 4 * t < wt.length by omega)
  obtain ⟨a1, b1⟩ := hb.get (show 4 * t + 1 < wt.length by omega)
  obtain ⟨a2, b2⟩ := hb.get (show 4 * t + 2 < wt.length by omega)
  obtain ⟨a3, b3⟩ := hb.get (show 4 * t + 3 < wt.length by omega)
  have z0 : (((4 * (t : Int)).toNat : Nat) : Int).toNat = 4 * t := by omega
  have z1 : (((4 * (t : Int) + 1).toNat : Nat) : Int).toNat = 4 * t + 1 := by omega
  have z2 : (((4 * (t : Int) + 2).toNat : Nat) : Int).toNat = 4 * t + 2 := by omega
  have z3 : (((4 * (t : Int) + 3).toNat : Nat) : Int).toNat = 4 * t + 3 := by omega
  rw [← z0] at a0
  rw [← z1] at a1
  rw [← z2] at a2
  rw [← z3] at a3
  (conv => arg 3; whnf); repeat ((first | (with_reducible apply sT); rfl | (with_reducible apply sF); rfl | (with_reducible apply sE); rfl); conv => arg 3; whnf)
  repeat (first | ((with_reducible refine sat_rng ?_ ?_); (exact wrap64 (by omega) (by omega)); (conv => arg 3; whnf); repeat ((first | (with_reducible apply sT); rfl | (with_reducible apply sF); rfl | (with_reducible apply sE); rfl); conv => arg 3; whnf)) | ((with_reducible refine sat_asrt ?_ ?_); (first | rfl | (exact decide_eq_true (by omega))); (conv => arg 3; whnf); repeat ((first | (with_reducible apply sT); rfl | (with_reducible apply sF); rfl | (with_reducible apply sE); rfl); conv => arg 3; whnf)) |
    ((with_reducible refine sat_idx _ (by omega) a0 ?_); (conv => arg 3; whnf); repeat ((first | (with_reducible apply sT); rfl | (with_reducible apply sF); rfl | (with_reducible apply sE); rfl); conv => arg 3; whnf)) | ((with_reducible refine sat_idx _ (by omega) a1 ?_); (conv => arg 3; whnf); repeat ((first | (with_reducible apply sT); rfl | (with_reducible apply sF); rfl | (with_reducible apply sE); rfl); conv => arg 3; whnf)) | ((with_reducible refine sat_idx _ (by omega) a2 ?_); (conv => arg 3; whnf); repeat ((first | (with_reducible apply sT); rfl | (with_reducible apply sF); rfl | (with_reducible apply sE); rfl); conv => arg 3; whnf)) | ((with_reducible refine sat_idx _ (by omega) a3 ?_); (conv => arg 3; whnf); repeat ((first | (with_reducible apply sT); rfl | (with_reducible apply sF); rfl | (with_reducible apply sE); rfl); conv => arg 3; whnf)) | ((with_reducible refine sat_rngw ?_); (conv => arg 3; whnf); repeat ((first | (with_reducible apply sT); rfl | (with_reducible apply sF); rfl | (with_reducible apply sE); rfl); conv => arg 3; whnf)))
  rw [z0, z1, z2, z3]
  have p24 : (2 : Int) ^ min (Int.toNat 24) (IntKind.bits .u32) = 16777216 := by decide
  have p16 : (2 : Int) ^ min (Int.toNat 16) (IntKind.bits .u32) = 65536 := by decide
  have p8 : (2 : Int) ^ min (Int.toNat 8) (IntKind.bits .u32) = 256 := by decide
  have u0 : IntKind.wrap .u32 (gw wt (4 * t)) = gw wt (4 * t) := by rw [IntKind.wrap_u32]; omega
  have u1 : IntKind.wrap .u32 (gw wt (4 * t + 1)) = gw wt (4 * t + 1) := by rw [IntKind.wrap_u32]; omega
  have u2 : IntKind.wrap .u32 (gw wt (4 * t + 2)) = gw wt (4 * t + 2) := by rw [IntKind.wrap_u32]; omega
  have u3 : IntKind.wrap .u32 (gw wt (4 * t + 3)) = gw wt (4 * t + 3) := by rw [IntKind.wrap_u32]; omega
  have v0 : IntKind.wrap .u32 (gw wt (4 * t) * 16777216) = gw wt (4 * t) * 16777216 := by rw [IntKind.wrap_u32]; omega
  have v1 : IntKind.wrap .u32 (gw wt (4 * t + 1) * 65536) = gw wt (4 * t + 1) * 65536 := by rw [IntKind.wrap_u32]; omega
  have v2 : IntKind.wrap .u32 (gw wt (4 * t + 2) * 256) = gw wt (4 * t + 2) * 256 := by rw [IntKind.wrap_u32]; omega
  rw [p24, p16, p8, u0, u1, u2, u3, v0, v1, v2, or4 b0 b1 b2 b3]
  exact sat_ret ⟨rfl, rfl⟩
theorem xr_w (a b : Int) : W32 (xr a b) := by
  unfold W32 xr bitsV
  dsimp only
  rw [IntKind.wrap_u32]
  constructor <;> omega
theorem k_word2 (hs wt ws : List Tr) (n : Int) (t : Nat) (hw : AllW ws) (hl : ws.length = 64) (ht : 16 ≤ t ∧ t < 64) :
    ACalls PP GG F.sha_Digest_block_1 [ti t, pt 0, pt 2] [.var (pt 1), .var (.t (dT hs wt n)), .var (.t (.arr 64 ws))] fun r H' => r = tw (nw ws t) ∧ H' = [.var (pt 1), .var (.t (dT hs wt n)), .var (.t (.arr 64 ws))] := by
  refine K.sha_Digest_block_1.callsC rfl ?_
  (conv => arg 3; whnf); repeat ((first | (with_reducible apply sT); rfl | (with_reducible apply sF); rfl | (with_reducible apply sE); rfl); conv => arg 3; whnf)
  refine sat_brF (decide_eq_false (by omega)) ?_
  (conv => arg 3; whnf); repeat ((first | (with_reducible apply sT); rfl | (with_reducible apply sF); rfl | (with_reducible apply sE); rfl); conv => arg 3; whnf)
  obtain ⟨a0, b0⟩ := hw.get (show t - 15 < ws.length by omega)
  obtain ⟨a1, b1⟩ := hw.get (show t - 2 < ws.length by omega)
  obtain ⟨a2, b2⟩ := hw.get (show t - 7 < ws.length by omega)
  obtain ⟨a3, b3⟩ := hw.get (show t - 16 < ws.length by omega)
  have z0 : ((((t : Int) - 15).toNat : Nat) : Int).toNat = t - 15 := by omega
  have z1 : ((((t : Int) - 2).toNat : Nat) : Int).toNat = t - 2 := by omega
  have z2 : ((((t : Int) - 7).toNat : Nat) : Int).toNat = t - 7 := by omega
  have z3 : ((((t : Int) - 16).toNat : Nat) : Int).toNat = t - 16 := by omega
  unfold nw
  generalize gw ws (t - 15) = x0 at a0 b0 ⊢
  generalize gw ws (t - 2) = x1 at a1 b1 ⊢
  generalize gw ws (t - 7) = x2 at a2 b2 ⊢
  generalize gw ws (t - 16) = x3 at a3 b3 ⊢
  rw [← z0] at a0
  rw [← z1] at a1
  rw [← z2] at a2
  rw [← z3] at a3
  repeat (first | ((with_reducible refine sat_rng ?_ ?_); (exact wrap64 (by omega) (by omega)); (conv => arg 3; whnf); repeat ((first | (with_reducible apply sT); rfl | (with_reducible apply sF); rfl | (with_reducible apply sE); rfl); conv => arg 3; whnf)) | ((with_reducible refine sat_asrt ?_ ?_); (first | rfl | (exact decide_eq_true (by omega))); (conv => arg 3; whnf); repeat ((first | (with_reducible apply sT); rfl | (with_reducible apply sF); rfl | (with_reducible apply sE); rfl); conv => arg 3; whnf)) |
    ((with_reducible refine sat_idx _ (by omega) a0 ?_); (conv => arg 3; whnf); repeat ((first | (with_reducible apply sT); rfl | (with_reducible apply sF); rfl | (with_reducible apply sE); rfl); conv => arg 3; whnf)) | ((with_reducible refine sat_idx _ (by omega) a1 ?_); (conv => arg 3; whnf); repeat ((first | (with_reducible apply sT); rfl | (with_reducible apply sF); rfl | (with_reducible apply sE); rfl); conv => arg 3; whnf)) | ((with_reducible refine sat_idx _ (by omega) a2 ?_); (conv => arg 3; whnf); repeat ((first | (with_reducible apply sT); rfl | (with_reducible apply sF); rfl | (with_reducible apply sE); rfl); conv => arg 3; whnf)) | ((with_reducible refine sat_idx _ (by omega) a3 ?_); (conv => arg 3; whnf); repeat ((first | (with_reducible apply sT); rfl | (with_reducible apply sF); rfl | (with_reducible apply sE); rfl); conv => arg 3; whnf)) | ((with_reducible refine sat_rngw ?_); (conv => arg 3; whnf); repeat ((first | (with_reducible apply sT); rfl | (with_reducible apply sF); rfl | (with_reducible apply sE); rfl); conv => arg 3; whnf)))
  repeat (first | ((with_reducible refine sat_rng ?_ ?_); (exact wrap64 (by omega) (by omega)); (conv => arg 3; whnf); repeat ((first | (with_reducible apply sT); rfl | (with_reducible apply sF); rfl | (with_reducible apply sE); rfl); conv => arg 3; whnf)) | ((with_reducible refine sat_asrt ?_ ?_); (first | rfl | (exact decide_eq_true (by omega))); (conv => arg 3; whnf); repeat ((first | (with_reducible apply sT); rfl | (with_reducible apply sF); rfl | (with_reducible apply sE); rfl); conv => arg 3; whnf)) |
    ((with_reducible refine sat_idx _ (by omega) a0 ?_); (conv => arg 3; whnf); repeat ((first | (with_reducible apply sT); rfl | (with_reducible apply sF); rfl | (with_reducible apply sE); rfl); conv => arg 3; whnf)) | ((with_reducible refine sat_idx _ (by omega) a1 ?_); (conv => arg 3; whnf); repeat ((first | (with_reducible apply sT); rfl | (with_reducible apply sF); rfl | (with_reducible apply sE); rfl); conv => arg 3; whnf)) | ((with_reducible refine sat_idx _ (by omega) a2 ?_); (conv => arg 3; whnf); repeat ((first | (with_reducible apply sT); rfl | (with_reducible apply sF); rfl | (with_reducible apply sE); rfl); conv => arg 3; whnf)) | ((with_reducible refine sat_idx _ (by omega) a3 ?_); (conv => arg 3; whnf); repeat ((first | (with_reducible apply sT); rfl | (with_reducible apply sF); rfl | (with_reducible apply sE); rfl); conv => arg 3; whnf)) | ((with_reducible refine sat_rngw ?_); (conv => arg 3; whnf); repeat ((first | (with_reducible apply sT); rfl | (with_reducible apply sF); rfl | (with_reducible apply sE); rfl); conv => arg 3; whnf)) |
    (refine sat_call (k_right x1 b1 17 (by omega) (by omega)) ?_; rintro r H' ⟨rfl, rfl⟩; (conv => arg 3; whnf); repeat ((first | (with_reducible apply sT); rfl | (with_reducible apply sF); rfl | (with_reducible apply sE); rfl); conv => arg 3; whnf)) | (refine sat_call (k_right x1 b1 19 (by omega) (by omega)) ?_; rintro r H' ⟨rfl, rfl⟩; (conv => arg 3; whnf); repeat ((first | (with_reducible apply sT); rfl | (with_reducible apply sF); rfl | (with_reducible apply sE); rfl); conv => arg 3; whnf)) | (refine sat_call (k_right x0 b0 7 (by omega) (by omega)) ?_; rintro r H' ⟨rfl, rfl⟩; (conv => arg 3; whnf); repeat ((first | (with_reducible apply sT); rfl | (with_reducible apply sF); rfl | (with_reducible apply sE); rfl); conv => arg 3; whnf)) | (refine sat_call (k_right x0 b0 18 (by omega) (by omega)) ?_; rintro r H' ⟨rfl, rfl⟩; (conv => arg 3; whnf); repeat ((first | (with_reducible apply sT); rfl | (with_reducible apply sF); rfl | (with_reducible apply sE); rfl); conv => arg 3; whnf)))
  have e10 : x1.fdiv (2 ^ min (Int.toNat 10) (IntKind.bits .u32)) = shf 10 x1 := by
    rw [shf_eq b1, show min (Int.toNat 10) (IntKind.bits .u32) = 10 from by decide, Int.fdiv_eq_ediv_of_nonneg _ (by decide)]
  have e3 : x0.fdiv (2 ^ min (Int.toNat 3) (IntKind.bits .u32)) = shf 3 x0 := by
    rw [shf_eq b0, show min (Int.toNat 3) (IntKind.bits .u32) = 3 from by decide, Int.fdiv_eq_ediv_of_nonneg _ (by decide)]
  rw [e10, e3]
  exact sat_ret ⟨rfl, rfl⟩
end Stk
end

section
/- A block is taken in, by the program. -/
namespace Stk
open Go
set_option maxRecDepth 100000
set_option linter.unusedSimpArgs false
set_option linter.unusedVariables false
set_option maxHeartbeats 8000000
abbrev an (a b : Int) : Int := bitsV .and .u32 a b
def KL : List Tr := match GLOB1 with
  | .arr _ xs => xs
  | _ => []
def kk (t : Nat) : Int := gw KL t
def isW : Tr → Bool
  | .int .u32 n => decide (0 ≤ n ∧ n ≤ 4294967295)
  | _ => false
theorem KL_len : KL.length = 64 := by decide +kernel
theorem KL_w : AllW KL := by
  have h : KL.all isW = true := by decide +kernel
  intro y hy
  have := List.all_eq_true.1 h y hy
  unfold isW at this
  split at this
  · exact ⟨_, rfl, of_decide_eq_true this⟩
  · cases this
theorem KL_ok {i : Nat} (h : i < 64) : KL[i]? = some (w32 (kk i)) := (KL_w.get (by rw [KL_len]; exact h)).1
structure H8 where
  a : Int
  b : Int
  c : Int
  d : Int
  e : Int
  f : Int
  g : Int
  h : Int
abbrev H8.l (v : H8) : List Tr := [w32 v.a, w32 v.b, w32 v.c, w32 v.d, w32 v.e, w32 v.f, w32 v.g, w32 v.h]
structure H8.W (v : H8) : Prop where
  a : W32 v.a
  b : W32 v.b
  c : W32 v.c
  d : W32 v.d
  e : W32 v.e
  f : W32 v.f
  g : W32 v.g
  h : W32 v.h
def S1 (e : Int) : Int := xr (xr (rot 6 e) (rot 11 e)) (rot 25 e)
def S0 (a : Int) : Int := xr (xr (rot 2 a) (rot 13 a)) (rot 22 a)
def nt (x : Int) : Int := bitsV .xor .u32 (if IntKind.signed .u32 then -1 else IntKind.max .u32) x
def ch (e f g : Int) : Int := xr (an e f) (an (nt e) g)
def mj (a b c : Int) : Int := xr (xr (an a b) (an a c)) (an b c)
def px (v : H8) (k w : Int) : Int := ad (ad (ad (ad v.h (S1 v.e)) (ch v.e v.f v.g)) k) w
def py (v : H8) : Int := ad (S0 v.a) (mj v.a v.b v.c)
def rd (v : H8) (k w : Int) : H8 := ⟨ad (px v k w) (py v), v.a, v.b, v.c, ad v.d (px v k w), v.e, v.f, v.g⟩
def wd (bs ws : List Tr) (t : Nat) : Int := if t < 16 then be bs t else nw ws t
/-- The words and the state ahead of turn t. -/
def rs (bs : List Tr) (H : H8) : Nat → List Tr × H8
  | 0 => (List.replicate 64 (w32 0), H)
  | t + 1 => ((rs bs H t).1.set t (w32 (wd bs (rs bs H t).1 t)), rd (rs bs H t).2 (kk t) (wd bs (rs bs H t).1 t))
def ad8 (x y : H8) : H8 := ⟨ad x.a y.a, ad x.b y.b, ad x.c y.c, ad x.d y.d, ad x.e y.e, ad x.f y.f, ad x.g y.g, ad x.h y.h⟩
/-- A block's work. -/
def comp (bs : List Tr) (H : H8) : H8 := ad8 H (rs bs H 64).2
theorem ad_w (a b : Int) : W32 (ad a b) := by unfold W32 ad; rw [IntKind.wrap_u32]; constructor <;> omega
theorem rd_w {v : H8} (h : v.W) (k w : Int) : (rd v k w).W := ⟨ad_w _ _, h.a, h.b, h.c, ad_w _ _, h.e, h.f, h.g⟩
theorem ad8_w (x y : H8) : (ad8 x y).W := ⟨ad_w _ _, ad_w _ _, ad_w _ _, ad_w _ _, ad_w _ _, ad_w _ _, ad_w _ _, ad_w _ _⟩
theorem be_w {bs : List Tr} (h : AllB bs) (hl : bs.length = 64) {t : Nat} (ht : t < 16) : W32 (be bs t) := by
  have h0 := (h.get (show 4 * t < bs.length by omega)).2
  have h1 := (h.get (show 4 * t + 1 < bs.length by omega)).2
  have h2 := (h.get (show 4 * t + 2 < bs.length by omega)).2
  have h3 := (h.get (show 4 * t + 3 < bs.length by omega)).2
  unfold be W32
  constructor <;> omega
theorem wd_w {bs ws : List Tr} (h : AllB bs) (hl : bs.length = 64) (t : Nat) : W32 (wd bs ws t) := by
  unfold wd
  split
  · exact be_w h hl (by assumption)
  · exact ad_w _ _
structure RsOk (ws : List Tr) (v : H8) : Prop where
  l : ws.length = 64
  w : AllW ws
  v : v.W
theorem AllW.set {ws : List Tr} (h : AllW ws) (i : Nat) {v : Int} (hv : W32 v) : AllW (ws.set i (w32 v)) := fun y hy => by
  rcases List.mem_or_eq_of_mem_set hy with hy | rfl
  · exact h y hy
  · exact ⟨v, rfl, hv⟩
theorem rs_ok {bs : List Tr} (h : AllB bs) (hl : bs.length = 64) {H : H8} (hH : H.W) : ∀ t, RsOk (rs bs H t).1 (rs bs H t).2
  | 0 => ⟨by show (List.replicate _ _).length = 64; rw [List.length_replicate], fun y hy => ⟨0, List.eq_of_mem_replicate hy, by unfold W32; omega⟩, hH⟩
  | t + 1 => by
    have := rs_ok h hl hH t
    exact ⟨by show (List.set _ _ _).length = 64; rw [List.length_set]; exact this.l, this.w.set _ (wd_w h hl t), rd_w this.v _ _⟩
def mixL (x y : H8) (i : Nat) : List Tr := (ad8 x y).l.take i ++ x.l.drop i
structure ISt8 where
  i : Nat
  im : i ≤ 8
structure TSt where
  t : Nat
  im : t ≤ 64
abbrev fnW : AV := .fn F.sha_Digest_block_1 [] [pt 0, pt 2]
theorem k_block (H : H8) (wt : List Tr) (n : Int) (hH : H.W) (hb : AllB wt) (hl : wt.length = 64) :
    ACalls PP GG F.sha_Digest_block [pt 0] [.var (.t (dT H.l wt n))] fun r H' => r = .tup [] ∧ H' = [.var (.t (dT (comp wt H).l wt n))] := by
  refine K.sha_Digest_block.callsC rfl ?_
  (conv => arg 3; whnf); repeat ((first | (with_reducible apply sT); rfl | (with_reducible apply sF); rfl | (with_reducible apply sE); rfl); conv => arg 3; whnf)
  refine sat_loopOf mkX_ops (σ := TSt) (fun s => [(1, pt 0), (2, pt 2), (3, .fn F.sha_Digest_block_1 [] [pt 0, pt 2]), (4, pt 3), (16, ti s.t)])
    (fun s => [.var (pt 1), .var (.t (dT H.l wt n)), .var (.t (.arr 64 (rs wt H s.t).1)), .var (.t (.arr 8 (rs wt H s.t).2.l))]) (fun s => 64 - s.t)
    (fun ex fr' H' => ex = .exit 0 ∧ fr' = [(1, pt 0), (4, pt 3)] ∧ H' = [.var (pt 1), .var (.t (dT H.l wt n)), .var (.t (.arr 64 (rs wt H 64).1)), .var (.t (.arr 8 (rs wt H 64).2.l))]) ⟨0, Nat.zero_le _⟩ ?_ ?_
  · rintro ⟨t, im⟩
    dsimp only
    refine sat_br (fun hi => ?_) (fun hi => ?_)
    · have hi : t < 64 := by have := of_decide_eq_true hi; omega
      have ok := rs_ok hb hl hH t
      have hk := KL_ok hi
      have hnx : (rs wt H (t + 1)).1 = (rs wt H t).1.set t (w32 (wd wt (rs wt H t).1 t)) := rfl
      have hnv : (rs wt H (t + 1)).2 = rd (rs wt H t).2 (kk t) (wd wt (rs wt H t).1 t) := rfl
      have hword : ACalls PP GG F.sha_Digest_block_1 [ti t, pt 0, pt 2] [.var (pt 1), .var (.t (dT H.l wt n)), .var (.t (.arr 64 (rs wt H t).1))] fun r H' => r = tw (wd wt (rs wt H t).1 t) ∧ H' = [.var (pt 1), .var (.t (dT H.l wt n)), .var (.t (.arr 64 (rs wt H t).1))] := by
        unfold wd
        by_cases h16 : t < 16
        · rw [if_pos h16]; exact k_word1 _ _ _ _ t hb hl h16
        · rw [if_neg h16]; exact k_word2 _ _ _ _ t ok.w ok.l ⟨by omega, hi⟩
      have hwd := wd_w (ws := (rs wt H t).1) hb hl t
      generalize wd wt (rs wt H t).1 t = x at hword hnx hnv hwd
      generalize (rs wt H t).1 = ws at hword hnx ok ⊢
      generalize (rs wt H t).2 = v at hnv ok ⊢
      obtain ⟨wl, ww, vw⟩ := ok
      obtain ⟨v0, v1, v2, v3, v4, v5, v6, v7⟩ := v
      obtain ⟨ha, hbb, hc, hd, he, hf, hg, hh⟩ := vw
      dsimp only at ha hbb hc hd he hf hg hh
      (conv => arg 3; whnf); repeat ((first | (with_reducible apply sT); rfl | (with_reducible apply sF); rfl | (with_reducible apply sE); rfl); conv => arg 3; whnf)
      refine sat_call hword ?_
      rintro r H' ⟨rfl, rfl⟩
      have zt : (((t : Int).toNat : Nat) : Int).toNat = t := by omega
      have hk' : KL[(((t : Int).toNat : Nat) : Int).toNat]? = some (w32 (kk t)) := by rw [zt]; exact hk
      have hx' : (ws.set (t : Int).toNat (w32 x))[(((t : Int).toNat : Nat) : Int).toNat]? = some (w32 x) := by rw [zt, Int.toNat_natCast, List.getElem?_set_self (by omega)]
      obtain ⟨y, hy⟩ : ∃ y, ws[(((t : Int).toNat : Nat) : Int).toNat]? = some (w32 y) := ⟨_, by rw [zt]; exact (ww.get (show t < ws.length by omega)).1⟩
      (conv => arg 3; whnf); repeat ((first | (with_reducible apply sT); rfl | (with_reducible apply sF); rfl | (with_reducible apply sE); rfl); conv => arg 3; whnf)
      repeat (first | ((with_reducible refine sat_rng ?_ ?_); (exact wrap64 (by omega) (by omega)); (conv => arg 3; whnf); repeat ((first | (with_reducible apply sT); rfl | (with_reducible apply sF); rfl | (with_reducible apply sE); rfl); conv => arg 3; whnf)) | ((with_reducible refine sat_asrt ?_ ?_); (first | rfl | (exact decide_eq_true (by omega))); (conv => arg 3; whnf); repeat ((first | (with_reducible apply sT); rfl | (with_reducible apply sF); rfl | (with_reducible apply sE); rfl); conv => arg 3; whnf)) |
        ((with_reducible refine sat_rngw ?_); (conv => arg 3; whnf); repeat ((first | (with_reducible apply sT); rfl | (with_reducible apply sF); rfl | (with_reducible apply sE); rfl); conv => arg 3; whnf)) | ((refine sat_idx _ (by omega) hk' ?_); (conv => arg 3; whnf); repeat ((first | (with_reducible apply sT); rfl | (with_reducible apply sF); rfl | (with_reducible apply sE); rfl); conv => arg 3; whnf)) | ((refine sat_idx _ (by omega) hx' ?_); (conv => arg 3; whnf); repeat ((first | (with_reducible apply sT); rfl | (with_reducible apply sF); rfl | (with_reducible apply sE); rfl); conv => arg 3; whnf)) | ((refine sat_idx _ (by omega) hy ?_); (conv => arg 3; whnf); repeat ((first | (with_reducible apply sT); rfl | (with_reducible apply sF); rfl | (with_reducible apply sE); rfl); conv => arg 3; whnf)) | ((refine sat_idx _ (by decide) rfl ?_); (conv => arg 3; whnf); repeat ((first | (with_reducible apply sT); rfl | (with_reducible apply sF); rfl | (with_reducible apply sE); rfl); conv => arg 3; whnf)) | (refine sat_call (k_right v4 he 6 (by omega) (by omega)) ?_; rintro r H' ⟨rfl, rfl⟩; (conv => arg 3; whnf); repeat ((first | (with_reducible apply sT); rfl | (with_reducible apply sF); rfl | (with_reducible apply sE); rfl); conv => arg 3; whnf)) | (refine sat_call (k_right v4 he 11 (by omega) (by omega)) ?_; rintro r H' ⟨rfl, rfl⟩; (conv => arg 3; whnf); repeat ((first | (with_reducible apply sT); rfl | (with_reducible apply sF); rfl | (with_reducible apply sE); rfl); conv => arg 3; whnf)) | (refine sat_call (k_right v4 he 25 (by omega) (by omega)) ?_; rintro r H' ⟨rfl, rfl⟩; (conv => arg 3; whnf); repeat ((first | (with_reducible apply sT); rfl | (with_reducible apply sF); rfl | (with_reducible apply sE); rfl); conv => arg 3; whnf)) | (refine sat_call (k_right v0 ha 2 (by omega) (by omega)) ?_; rintro r H' ⟨rfl, rfl⟩; (conv => arg 3; whnf); repeat ((first | (with_reducible apply sT); rfl | (with_reducible apply sF); rfl | (with_reducible apply sE); rfl); conv => arg 3; whnf)) | (refine sat_call (k_right v0 ha 13 (by omega) (by omega)) ?_; rintro r H' ⟨rfl, rfl⟩; (conv => arg 3; whnf); repeat ((first | (with_reducible apply sT); rfl | (with_reducible apply sF); rfl | (with_reducible apply sE); rfl); conv => arg 3; whnf)) | (refine sat_call (k_right v0 ha 22 (by omega) (by omega)) ?_; rintro r H' ⟨rfl, rfl⟩; (conv => arg 3; whnf); repeat ((first | (with_reducible apply sT); rfl | (with_reducible apply sF); rfl | (with_reducible apply sE); rfl); conv => arg 3; whnf)))
      rw [Int.toNat_natCast]
      exact sat_ret ⟨⟨t + 1, hi⟩, rfl, by dsimp only; rw [hnx, hnv]; rfl, by show 64 - (t + 1) < 64 - t; omega⟩
    · have hi : t = 64 := by have := of_decide_eq_false hi; omega
      subst hi
      (conv => arg 3; whnf); repeat ((first | (with_reducible apply sT); rfl | (with_reducible apply sF); rfl | (with_reducible apply sE); rfl); conv => arg 3; whnf)
      exact sat_ret ⟨rfl, rfl, rfl⟩
  · rintro ex fr' H' ⟨rfl, rfl, rfl⟩
    show sat _ _ _
    generalize hv : (rs wt H 64).2 = v
    have hcomp : comp wt H = ad8 H v := by unfold comp; rw [hv]
    rw [hcomp]
    clear hcomp
    generalize (rs wt H 64).1 = ws
    (conv => arg 3; whnf); repeat ((first | (with_reducible apply sT); rfl | (with_reducible apply sF); rfl | (with_reducible apply sE); rfl); conv => arg 3; whnf)
    refine sat_loopOf mkX_ops (σ := ISt8) (fun s => [(1, pt 0), (4, pt 2), (101, ti s.i)])
      (fun s => [.var (pt 1), .var (.t (dT (mixL H v s.i) wt n)), .var (.t (.arr 8 v.l))]) (fun s => 8 - s.i)
      (fun ex fr' H' => ex = .exit 2 ∧ fr' = [] ∧ H' = [.var (pt 1), .var (.t (dT (mixL H v 8) wt n)), .var (.t (.arr 8 v.l))]) ⟨0, Nat.zero_le _⟩ ?_ ?_
    · rintro ⟨i, im⟩
      dsimp only
      refine sat_br (fun hi => ?_) (fun hi => ?_)
      · have hi : i < 8 := by have := of_decide_eq_true hi; omega
        have h8 : i = 0 ∨ i = 1 ∨ i = 2 ∨ i = 3 ∨ i = 4 ∨ i = 5 ∨ i = 6 ∨ i = 7 := by omega
        rcases h8 with rfl | rfl | rfl | rfl | rfl | rfl | rfl | rfl
        all_goals
          (conv => arg 3; whnf); repeat ((first | (with_reducible apply sT); rfl | (with_reducible apply sF); rfl | (with_reducible apply sE); rfl); conv => arg 3; whnf)
          repeat (first | ((with_reducible refine sat_rng ?_ ?_); (exact wrap64 (by omega) (by omega)); (conv => arg 3; whnf); repeat ((first | (with_reducible apply sT); rfl | (with_reducible apply sF); rfl | (with_reducible apply sE); rfl); conv => arg 3; whnf)) | ((with_reducible refine sat_asrt ?_ ?_); rfl; (conv => arg 3; whnf); repeat ((first | (with_reducible apply sT); rfl | (with_reducible apply sF); rfl | (with_reducible apply sE); rfl); conv => arg 3; whnf)) | ((with_reducible refine sat_rngw ?_); (conv => arg 3; whnf); repeat ((first | (with_reducible apply sT); rfl | (with_reducible apply sF); rfl | (with_reducible apply sE); rfl); conv => arg 3; whnf)) | ((refine sat_idx _ (by decide) rfl ?_); (conv => arg 3; whnf); repeat ((first | (with_reducible apply sT); rfl | (with_reducible apply sF); rfl | (with_reducible apply sE); rfl); conv => arg 3; whnf)))
          exact sat_ret ⟨⟨_, hi⟩, rfl, rfl, by dsimp only; decide⟩
      · have hi : i = 8 := by have := of_decide_eq_false hi; omega
        subst hi
        (conv => arg 3; whnf); repeat ((first | (with_reducible apply sT); rfl | (with_reducible apply sF); rfl | (with_reducible apply sE); rfl); conv => arg 3; whnf)
        exact sat_ret ⟨rfl, rfl, rfl⟩
    · rintro ex fr' H' ⟨rfl, rfl, rfl⟩
      (conv => arg 3; whnf); repeat ((first | (with_reducible apply sT); rfl | (with_reducible apply sF); rfl | (with_reducible apply sE); rfl); conv => arg 3; whnf)
      exact sat_ret ⟨rfl, rfl⟩
end Stk
end

section
/- Bytes are written. -/
namespace Stk
open Go
set_option maxRecDepth 100000
set_option linter.unusedSimpArgs false
set_option linter.unusedVariables false
set_option maxHeartbeats 8000000
def hz : H8 := ⟨1779033703, 3144134277, 1013904242, 2773480762, 1359893119, 2600822924, 528734635, 1541459225⟩
/-- The state behind k blocks. -/
def hb (L : List Tr) : Nat → H8
  | 0 => hz
  | k + 1 => comp ((L.drop (64 * k)).take 64) (hb L k)
theorem hz_w : hz.W := by constructor <;> (unfold W32 hz; constructor <;> decide)
theorem hb_w (L : List Tr) : ∀ k, (hb L k).W
  | 0 => hz_w
  | k + 1 => ad8_w _ _
theorem hb_append (L M : List Tr) : ∀ k, 64 * k ≤ L.length → hb (L ++ M) k = hb L k
  | 0, _ => rfl
  | k + 1, h => by
    show comp _ _ = comp _ _
    rw [hb_append L M k (by omega), List.drop_append_of_le_length (by omega), List.take_append_of_le_length (by rw [List.length_drop]; omega)]
structure DI (L wt : List Tr) : Prop where
  l : wt.length = 64
  b : AllB wt
  e : wt.take (L.length % 64) = L.drop (64 * (L.length / 64))
abbrev dG (L wt : List Tr) : Tr := dT (hb L (L.length / 64)).l wt (L.length : Int)
theorem DI.part {L wt : List Tr} (h : DI L wt) (x : List Tr) (hx : AllB x) (hl : L.length % 64 + x.length < 64) :
    DI (L ++ x) (wt.take (L.length % 64) ++ x ++ wt.drop (L.length % 64 + x.length)) ∧ hb (L ++ x) ((L ++ x).length / 64) = hb L (L.length / 64) := by
  have e1 : (L ++ x).length = L.length + x.length := List.length_append
  have e2 : (L ++ x).length / 64 = L.length / 64 := by omega
  have e3 : (L ++ x).length % 64 = L.length % 64 + x.length := by omega
  have hw := h.l
  have et : (wt.take (L.length % 64)).length = L.length % 64 := by rw [List.length_take]; omega
  refine ⟨⟨?_, ?_, ?_⟩, ?_⟩
  · rw [List.length_append, List.length_append, et, List.length_drop]; omega
  · intro y hy
    rcases List.mem_append.1 hy with hy | hy
    · rcases List.mem_append.1 hy with hy | hy
      · exact h.b y (List.mem_of_mem_take hy)
      · exact hx y hy
    · exact h.b y (List.mem_of_mem_drop hy)
  · rw [e3, e2, List.drop_append_of_le_length (by omega), ← h.e]
    rw [List.take_append_of_le_length (by rw [List.length_append, et]; omega), List.take_of_length_le (by rw [List.length_append, et]; omega)]
  · rw [e2, hb_append _ _ _ (by omega)]
theorem DI.full {L wt : List Tr} (h : DI L wt) (x : List Tr) (hx : AllB x) (hl : L.length % 64 + x.length = 64) :
    (wt.take (L.length % 64) ++ x ++ wt.drop (L.length % 64 + x.length)).length = 64 ∧ AllB (wt.take (L.length % 64) ++ x ++ wt.drop (L.length % 64 + x.length)) ∧
    DI (L ++ x) (wt.take (L.length % 64) ++ x ++ wt.drop (L.length % 64 + x.length)) ∧ hb (L ++ x) ((L ++ x).length / 64) = comp (wt.take (L.length % 64) ++ x ++ wt.drop (L.length % 64 + x.length)) (hb L (L.length / 64)) := by
  have e1 : (L ++ x).length = L.length + x.length := List.length_append
  have e2 : (L ++ x).length / 64 = L.length / 64 + 1 := by omega
  have e3 : (L ++ x).length % 64 = 0 := by omega
  have hw := h.l
  have et : (wt.take (L.length % 64)).length = L.length % 64 := by rw [List.length_take]; omega
  have ed : wt.drop (L.length % 64 + x.length) = [] := List.drop_eq_nil_of_le (by omega)
  have hlen : (wt.take (L.length % 64) ++ x ++ wt.drop (L.length % 64 + x.length)).length = 64 := by
    rw [List.length_append, List.length_append, et, List.length_drop]; omega
  have hbb : AllB (wt.take (L.length % 64) ++ x ++ wt.drop (L.length % 64 + x.length)) := by
    intro y hy
    rcases List.mem_append.1 hy with hy | hy
    · rcases List.mem_append.1 hy with hy | hy
      · exact h.b y (List.mem_of_mem_take hy)
      · exact hx y hy
    · exact h.b y (List.mem_of_mem_drop hy)
  refine ⟨hlen, hbb, ⟨hlen, hbb, ?_⟩, ?_⟩
  · rw [e3, List.take_zero, List.drop_eq_nil_of_le (by omega)]
  · rw [e2]
    show comp (((L ++ x).drop (64 * (L.length / 64))).take 64) (hb (L ++ x) (L.length / 64)) = _
    rw [hb_append _ _ _ (by omega), List.drop_append_of_le_length (by omega), ← h.e, ed, List.append_nil, List.take_of_length_le (by rw [List.length_append, et]; omega)]
structure WSt (L b : List Tr) where
  j : Nat
  wt : List Tr
  M : List Tr
  jb : j ≤ b.length
  e : M = L ++ b.take j
  di : DI M wt
theorem k_write (L b wt : List Tr) (hb' : AllB b) (hi : DI L wt) (hl : L.length + b.length ≤ 2 ^ 50) :
    ACalls PP GG F.sha_Digest_Write [pt 0, .bz 1 b] [.var (.t (dG L wt))] fun r H' => r = ti 0 ∧ ∃ wt', DI (L ++ b) wt' ∧ H' = [.var (.t (dG (L ++ b) wt'))] := by
  refine K.sha_Digest_Write.callsQ rfl ?_
  (conv => arg 3; whnf); repeat ((first | (with_reducible apply sT); rfl | (with_reducible apply sF); rfl | (with_reducible apply sE); rfl); conv => arg 3; whnf)
  refine sat_loopOf mkX_ops (σ := WSt L b) (fun s => [(0, pt 0), (1, .bz 1 (b.drop s.j))]) (fun s => [.var (.t (dG s.M s.wt))]) (fun s => b.length - s.j)
    (fun ex fr' H' => ex = .exit 0 ∧ fr' = [] ∧ ∃ wt', DI (L ++ b) wt' ∧ H' = [.var (.t (dG (L ++ b) wt'))]) ⟨0, wt, L, Nat.zero_le _, by rw [List.take_zero, List.append_nil], hi⟩ ?_ ?_
  · rintro ⟨j, wt, M, jb, hMe, di⟩
    dsimp only
    refine sat_br (fun hq => ?_) (fun hq => ?_)
    · have hq := of_decide_eq_true hq
      rw [List.length_drop] at hq
      have hM : M.length = L.length + j := by rw [hMe, List.length_append, List.length_take]; omega
      obtain ⟨a, ha⟩ : ∃ a, M.length % 64 = a := ⟨_, rfl⟩
      have ha64 : a < 64 := by omega
      have hta : Int.tmod (M.length : Int) 64 = (a : Int) := by rw [Int.tmod_eq_emod_of_nonneg (by omega)]; omega
      (conv => arg 3; whnf); repeat ((first | (with_reducible apply sT); rfl | (with_reducible apply sF); rfl | (with_reducible apply sE); rfl); conv => arg 3; whnf)
      refine sat_asrt rfl ?_
      rw [hta]
      (conv => arg 3; whnf); repeat ((first | (with_reducible apply sT); rfl | (with_reducible apply sF); rfl | (with_reducible apply sE); rfl); conv => arg 3; whnf)
      refine sat_rng (wrap64 (by omega) (by omega)) ?_
      (conv => arg 3; whnf); repeat ((first | (with_reducible apply sT); rfl | (with_reducible apply sF); rfl | (with_reducible apply sE); rfl); conv => arg 3; whnf)
      refine sat_asrt (decide_eq_true (by omega)) ?_
      (conv => arg 3; whnf); repeat ((first | (with_reducible apply sT); rfl | (with_reducible apply sF); rfl | (with_reducible apply sE); rfl); conv => arg 3; whnf)
      rw [Int.toNat_natCast]
      have hxl : (List.take (64 - a) (b.drop j)).length = min (64 - a) (b.length - j) := by rw [List.length_take, List.length_drop]
      have hxb : AllB (List.take (64 - a) (b.drop j)) := fun y hy => hb' y (List.mem_of_mem_drop (List.mem_of_mem_take hy))
      have hxe : M ++ List.take (64 - a) (b.drop j) = L ++ b.take (j + (List.take (64 - a) (b.drop j)).length) := by
        rw [hMe, List.append_assoc]
        congr 1
        rw [List.take_add, hxl]
        congr 1
        rw [← List.take_take, List.take_of_length_le (i := b.length - j) (by rw [List.length_drop]; omega)]
      generalize List.take (64 - a) (b.drop j) = x at hxl hxb hxe ⊢
      have hwl := di.l
      have hpart := di.part x hxb
      have hfull := di.full x hxb
      rw [ha] at hpart hfull
      have hov : over wt a x = wt.take a ++ x ++ wt.drop (a + x.length) := rfl
      have hag : x.any Tr.isAgg = false := by
        rw [List.any_eq_false]
        intro y hy
        obtain ⟨v, rfl, _⟩ := hxb y hy
        simp [Tr.isAgg]
      have hk : min (List.drop j b).length (64 - a) = x.length := by rw [List.length_drop]; omega
      have hdr : List.drop (x.length : Int).toNat (List.take (List.drop j b).length (List.drop j b)) = b.drop (j + x.length) := by rw [Int.toNat_natCast, List.take_length, List.drop_drop]
      have w1 : IntKind.wrap .u64 (x.length : Int) = x.length := by rw [IntKind.wrap_u64]; omega
      have w2 : IntKind.wrap .u64 ((M.length : Int) + x.length) = (M.length : Int) + x.length := by rw [IntKind.wrap_u64]; omega
      refine sat_asrt (by rw [hag]; simp; omega) ?_
      (conv => arg 3; whnf); repeat ((first | (with_reducible apply sT); rfl | (with_reducible apply sF); rfl | (with_reducible apply sE); rfl); conv => arg 3; whnf)
      rw [hk]
      refine sat_rng w1 ?_
      (conv => arg 3; whnf); repeat ((first | (with_reducible apply sT); rfl | (with_reducible apply sF); rfl | (with_reducible apply sE); rfl); conv => arg 3; whnf)
      refine sat_rng w2 ?_
      (conv => arg 3; whnf); repeat ((first | (with_reducible apply sT); rfl | (with_reducible apply sF); rfl | (with_reducible apply sE); rfl); conv => arg 3; whnf)
      refine sat_asrt (decide_eq_true (by rw [List.length_drop]; omega)) ?_
      (conv => arg 3; whnf); repeat ((first | (with_reducible apply sT); rfl | (with_reducible apply sF); rfl | (with_reducible apply sE); rfl); conv => arg 3; whnf)
      refine sat_rng (wrap64 (by omega) (by omega)) ?_
      (conv => arg 3; whnf); repeat ((first | (with_reducible apply sT); rfl | (with_reducible apply sF); rfl | (with_reducible apply sE); rfl); conv => arg 3; whnf)
      refine sat_br (fun h64 => ?_) (fun h64 => ?_)
      · have h64 := eq_of_beq h64
        obtain ⟨f1, f2, f3, f4⟩ := hfull (by omega)
        rw [← hov] at f1 f2 f3 f4
        (conv => arg 3; whnf); repeat ((first | (with_reducible apply sT); rfl | (with_reducible apply sF); rfl | (with_reducible apply sE); rfl); conv => arg 3; whnf)
        refine sat_call (k_block (hb M (M.length / 64)) (over wt a x) (M.length + x.length) (hb_w _ _) f2 f1) ?_
        rintro r H' ⟨rfl, rfl⟩
        have hdG : dT (comp (over wt a x) (hb M (M.length / 64))).l (over wt a x) ((M.length : Int) + x.length) = dG (M ++ x) (over wt a x) := by
          show dT _ _ _ = dT _ _ _
          rw [f4, List.length_append, Int.natCast_add]
        (conv => arg 3; whnf); repeat ((first | (with_reducible apply sT); rfl | (with_reducible apply sF); rfl | (with_reducible apply sE); rfl); conv => arg 3; whnf)
        rw [hdr]
        exact sat_ret ⟨⟨j + x.length, over wt a x, M ++ x, by omega, hxe, f3⟩, rfl, congrArg (fun z => [AO.var (AV.t z)]) hdG, by show b.length - (j + x.length) < b.length - j; omega⟩
      · have h64 : ¬ ((a : Int) + x.length = 64) := by simpa using h64
        obtain ⟨f1, f2⟩ := hpart (by omega)
        rw [← hov] at f1
        have hdG : dT (hb M (M.length / 64)).l (over wt a x) ((M.length : Int) + x.length) = dG (M ++ x) (over wt a x) := by
          show dT _ _ _ = dT _ _ _
          rw [f2, List.length_append, Int.natCast_add]
        (conv => arg 3; whnf); repeat ((first | (with_reducible apply sT); rfl | (with_reducible apply sF); rfl | (with_reducible apply sE); rfl); conv => arg 3; whnf)
        rw [hdr]
        exact sat_ret ⟨⟨j + x.length, over wt a x, M ++ x, by omega, hxe, f1⟩, rfl, congrArg (fun z => [AO.var (AV.t z)]) hdG, by show b.length - (j + x.length) < b.length - j; omega⟩
    · have hq := of_decide_eq_false hq
      rw [List.length_drop] at hq
      rw [List.take_of_length_le (by omega)] at hMe
      subst hMe
      (conv => arg 3; whnf); repeat ((first | (with_reducible apply sT); rfl | (with_reducible apply sF); rfl | (with_reducible apply sE); rfl); conv => arg 3; whnf)
      exact sat_ret ⟨rfl, rfl, wt, di, rfl⟩
  · rintro ex fr' H' ⟨rfl, rfl, wt', di, rfl⟩
    (conv => arg 3; whnf); repeat ((first | (with_reducible apply sT); rfl | (with_reducible apply sF); rfl | (with_reducible apply sE); rfl); conv => arg 3; whnf)
    exact sat_ret ⟨rfl, wt', di, rfl⟩
end Stk
end

section
/- The digest of what was written. -/
namespace Stk
open Go
set_option maxRecDepth 100000
set_option linter.unusedSimpArgs false
set_option linter.unusedVariables false
set_option maxHeartbeats 8000000
def padz (r : Nat) : Nat := (119 - r) % 64
def ev (n : Int) (i : Nat) : Int := IntKind.wrap .u8 (n.fdiv (2 ^ min (Int.toNat (56 - 8 * (i : Int))) (IntKind.bits .u64)))
def e8 (n : Int) : List Tr := [u8 (ev n 0), u8 (ev n 1), u8 (ev n 2), u8 (ev n 3), u8 (ev n 4), u8 (ev n 5), u8 (ev n 6), u8 (ev n 7)]
/-- Bytes in whole blocks. -/
def pad (L : List Tr) : List Tr := L ++ [u8 128] ++ List.replicate (padz (L.length % 64)) (u8 0) ++ e8 (8 * (L.length : Int))
def wv (x : Int) (k : Int) : Int := IntKind.wrap .u8 (x.fdiv (2 ^ min (Int.toNat k) (IntKind.bits .u32)))
def w4 (x : Int) : List Tr := [u8 (wv x 24), u8 (wv x 16), u8 (wv x 8), u8 (IntKind.wrap .u8 x)]
def outH (v : H8) : List Tr := w4 v.a ++ w4 v.b ++ w4 v.c ++ w4 v.d ++ w4 v.e ++ w4 v.f ++ w4 v.g ++ w4 v.h
/-- The digest of bytes. -/
def shaL (L : List Tr) : List Tr := outH (hb (pad L) ((pad L).length / 64))
theorem e8_b (n : Int) : AllB (e8 n) := by
  intro y hy
  unfold e8 at hy
  simp only [List.mem_cons, List.not_mem_nil, or_false] at hy
  rcases hy with rfl | rfl | rfl | rfl | rfl | rfl | rfl | rfl <;> exact ⟨_, rfl, by unfold ev; rw [IntKind.wrap_u8]; omega, by unfold ev; rw [IntKind.wrap_u8]; omega⟩
theorem one_b {v : Int} (h : 0 ≤ v ∧ v ≤ 255) : AllB [u8 v] := fun y hy => by
  simp at hy; exact ⟨v, hy, h⟩
abbrev tu (n : Int) : AV := .t (.int .u64 n)
abbrev z32 : Tr := .arr 32 (List.replicate 32 (u8 0))
structure ZSt (L : List Tr) where
  i : Nat
  M : List Tr
  wt : List Tr
  im : i ≤ padz (L.length % 64)
  e : M = L ++ [u8 128] ++ List.replicate i (u8 0)
  di : DI M wt
structure ESt where
  i : Nat
  im : i ≤ 8
def e8p (n : Int) (i : Nat) : List Tr := (e8 n).take i ++ List.replicate (8 - i) (u8 0)
def o32 (v : H8) (i : Nat) : List Tr := (outH v).take (4 * i) ++ List.replicate (32 - 4 * i) (u8 0)
theorem k_dsum (L wt : List Tr) (hi : DI L wt) (hl : L.length ≤ 2 ^ 48) :
    ACalls PP GG F.sha_Digest_Sum [pt 0] [.var (.t (dG L wt))] fun r H' => r = .tup [.t (.arr 32 (shaL L)), ti 0] ∧ H' = [.var (.t (dG L wt))] := by
  refine K.sha_Digest_Sum.callsC rfl ?_
  (conv => arg 3; whnf); repeat ((first | (with_reducible apply sT); rfl | (with_reducible apply sF); rfl | (with_reducible apply sE); rfl); conv => arg 3; whnf)
  refine sat_rng (show IntKind.wrap .u64 (8 * (L.length : Int)) = 8 * (L.length : Int) from by rw [IntKind.wrap_u64]; omega) ?_
  (conv => arg 3; whnf); repeat ((first | (with_reducible apply sT); rfl | (with_reducible apply sF); rfl | (with_reducible apply sE); rfl); conv => arg 3; whnf)
  refine sat_call (k_write L [u8 128] wt (one_b (by omega)) hi (by simp; omega)) ?_
  rintro r H' ⟨rfl, wt1, di1, rfl⟩
  (conv => arg 3; whnf); repeat ((first | (with_reducible apply sT); rfl | (with_reducible apply sF); rfl | (with_reducible apply sE); rfl); conv => arg 3; whnf)
  refine sat_loopOf mkX_ops (σ := ZSt L) (fun s => [(2, pt 0), (4, pt 1), (5, tu (8 * (L.length : Int)))]) (fun s => [.var (.t z32), .var (.t (dG s.M s.wt))]) (fun s => padz (L.length % 64) - s.i)
    (fun ex fr' H' => ex = .exit 0 ∧ fr' = [(2, pt 0), (4, pt 1), (5, tu (8 * (L.length : Int)))] ∧ ∃ M wt, M = L ++ [u8 128] ++ List.replicate (padz (L.length % 64)) (u8 0) ∧ DI M wt ∧ H' = [.var (.t z32), .var (.t (dG M wt))]) ⟨0, L ++ [u8 128], wt1, Nat.zero_le _, by rw [List.replicate_zero, List.append_nil], di1⟩ ?_ ?_
  · rintro ⟨i, M, wt2, im, hM, di⟩
    dsimp only
    have hMl : M.length = L.length + 1 + i := by rw [hM]; simp; omega
    have hz : padz (L.length % 64) = (119 - L.length % 64) % 64 := rfl
    refine sat_asrt rfl ?_
    (conv => arg 3; whnf); repeat ((first | (with_reducible apply sT); rfl | (with_reducible apply sF); rfl | (with_reducible apply sE); rfl); conv => arg 3; whnf)
    have hta : Int.tmod (M.length : Int) 64 = ((M.length % 64 : Nat) : Int) := by rw [Int.tmod_eq_emod_of_nonneg (by omega)]; omega
    rw [hta]
    refine sat_br (fun hq => ?_) (fun hq => ?_)
    · have hq := bne_iff_ne.1 hq
      have hlt : i < padz (L.length % 64) := by omega
      (conv => arg 3; whnf); repeat ((first | (with_reducible apply sT); rfl | (with_reducible apply sF); rfl | (with_reducible apply sE); rfl); conv => arg 3; whnf)
      refine sat_call (k_write M [u8 0] wt2 (one_b (by omega)) di (by simp; omega)) ?_
      rintro r H' ⟨rfl, wt3, di3, rfl⟩
      (conv => arg 3; whnf); repeat ((first | (with_reducible apply sT); rfl | (with_reducible apply sF); rfl | (with_reducible apply sE); rfl); conv => arg 3; whnf)
      exact sat_ret ⟨⟨i + 1, M ++ [u8 0], wt3, hlt, by rw [hM, List.replicate_succ', List.append_assoc, List.append_assoc], di3⟩, rfl, rfl, by show padz (L.length % 64) - (i + 1) < padz (L.length % 64) - i; omega⟩
    · have hq : ((M.length % 64 : Nat) : Int) = 56 := by simpa using hq
      have : i = padz (L.length % 64) := by omega
      subst this
      (conv => arg 3; whnf); repeat ((first | (with_reducible apply sT); rfl | (with_reducible apply sF); rfl | (with_reducible apply sE); rfl); conv => arg 3; whnf)
      exact sat_ret ⟨rfl, rfl, M, wt2, hM, di, rfl⟩
  · rintro ex fr' H' ⟨rfl, rfl, M, wt2, hM, di, rfl⟩
    have hMl : M.length = L.length + 1 + padz (L.length % 64) := by rw [hM]; simp; omega
    have hz : padz (L.length % 64) = (119 - L.length % 64) % 64 := rfl
    have hpad : pad L = M ++ e8 (8 * (L.length : Int)) := by unfold pad; rw [hM]
    have hS : 0 ≤ 8 * (L.length : Int) := by omega
    unfold shaL
    rw [hpad]
    clear hpad hM
    generalize 8 * (L.length : Int) = S at hS ⊢
    (conv => arg 3; whnf); repeat ((first | (with_reducible apply sT); rfl | (with_reducible apply sF); rfl | (with_reducible apply sE); rfl); conv => arg 3; whnf)
    refine sat_loopOf mkX_ops (σ := ESt) (fun s => [(2, pt 0), (4, pt 1), (5, tu S), (6, pt 2), (37, ti s.i)]) (fun s => [.var (.t z32), .var (.t (dG M wt2)), .var (.t (.arr 8 (e8p S s.i)))]) (fun s => 8 - s.i)
      (fun ex fr' H' => ex = .exit 2 ∧ fr' = [(2, pt 0), (4, pt 1), (6, pt 2)] ∧ H' = [.var (.t z32), .var (.t (dG M wt2)), .var (.t (.arr 8 (e8p S 8)))]) ⟨0, Nat.zero_le _⟩ ?_ ?_
    · rintro ⟨i, im⟩
      dsimp only
      refine sat_br (fun hi => ?_) (fun hi => ?_)
      · have hi : i < 8 := by have := of_decide_eq_true hi; omega
        have h8 : i = 0 ∨ i = 1 ∨ i = 2 ∨ i = 3 ∨ i = 4 ∨ i = 5 ∨ i = 6 ∨ i = 7 := by omega
        rcases h8 with rfl | rfl | rfl | rfl | rfl | rfl | rfl | rfl
        all_goals
          (conv => arg 3; whnf); repeat ((first | (with_reducible apply sT); rfl | (with_reducible apply sF); rfl | (with_reducible apply sE); rfl); conv => arg 3; whnf)
          repeat (first | ((with_reducible refine sat_rng ?_ ?_); (exact wrap64 (by omega) (by omega)); (conv => arg 3; whnf); repeat ((first | (with_reducible apply sT); rfl | (with_reducible apply sF); rfl | (with_reducible apply sE); rfl); conv => arg 3; whnf)) | ((with_reducible refine sat_asrt ?_ ?_); rfl; (conv => arg 3; whnf); repeat ((first | (with_reducible apply sT); rfl | (with_reducible apply sF); rfl | (with_reducible apply sE); rfl); conv => arg 3; whnf)) | ((with_reducible refine sat_rngw ?_); (conv => arg 3; whnf); repeat ((first | (with_reducible apply sT); rfl | (with_reducible apply sF); rfl | (with_reducible apply sE); rfl); conv => arg 3; whnf)) | ((refine sat_idx _ (by decide) rfl ?_); (conv => arg 3; whnf); repeat ((first | (with_reducible apply sT); rfl | (with_reducible apply sF); rfl | (with_reducible apply sE); rfl); conv => arg 3; whnf)))
          exact sat_ret ⟨⟨_, hi⟩, rfl, rfl, by dsimp only; decide⟩
      · have hi : i = 8 := by have := of_decide_eq_false hi; omega
        subst hi
        (conv => arg 3; whnf); repeat ((first | (with_reducible apply sT); rfl | (with_reducible apply sF); rfl | (with_reducible apply sE); rfl); conv => arg 3; whnf)
        exact sat_ret ⟨rfl, rfl, rfl⟩
    · rintro ex fr' H' ⟨rfl, rfl, rfl⟩
      rw [show e8p S 8 = e8 S from rfl]
      (conv => arg 3; whnf); repeat ((first | (with_reducible apply sT); rfl | (with_reducible apply sF); rfl | (with_reducible apply sE); rfl); conv => arg 3; whnf)
      refine sat_asrt rfl ?_
      (conv => arg 3; whnf); repeat ((first | (with_reducible apply sT); rfl | (with_reducible apply sF); rfl | (with_reducible apply sE); rfl); conv => arg 3; whnf)
      have hce : ∀ xs : List Tr, xs.length = 8 → List.take 8 (List.drop 0 xs) = xs := fun xs hx => by rw [List.drop_zero, List.take_of_length_le (by omega)]
      rw [show (8 - 0 : Nat) = 8 from rfl, hce _ rfl]
      refine sat_call (k_write M (e8 S) wt2 (e8_b S) di (by show M.length + 8 ≤ _; omega)) ?_
      rintro r H' ⟨rfl, wt3, di3, rfl⟩
      generalize hN : M ++ e8 S = N
      rw [show dG N wt3 = dT (hb N (N.length / 64)).l wt3 (N.length : Int) from rfl]
      generalize hv : hb N (N.length / 64) = v
      obtain ⟨va, vb, vc, vd, ve, vf, vg, vh⟩ := v
      (conv => arg 3; whnf); repeat ((first | (with_reducible apply sT); rfl | (with_reducible apply sF); rfl | (with_reducible apply sE); rfl); conv => arg 3; whnf)
      refine sat_loopOf mkX_ops (σ := ESt) (fun s => [(2, pt 0), (8, pt 1), (52, .t (.arr 8 (H8.mk va vb vc vd ve vf vg vh).l)), (53, ti s.i)]) (fun s => [.var (.t z32), .var (.t (.arr 32 (o32 ⟨va, vb, vc, vd, ve, vf, vg, vh⟩ s.i)))]) (fun s => 8 - s.i)
        (fun ex fr' H' => ex = .exit 4 ∧ fr' = [(2, pt 0), (8, pt 1)] ∧ H' = [.var (.t z32), .var (.t (.arr 32 (o32 ⟨va, vb, vc, vd, ve, vf, vg, vh⟩ 8)))]) ⟨0, Nat.zero_le _⟩ ?_ ?_
      · rintro ⟨i, im⟩
        dsimp only
        refine sat_br (fun hi => ?_) (fun hi => ?_)
        · have hi : i < 8 := by have := of_decide_eq_true hi; omega
          have h8 : i = 0 ∨ i = 1 ∨ i = 2 ∨ i = 3 ∨ i = 4 ∨ i = 5 ∨ i = 6 ∨ i = 7 := by omega
          rcases h8 with rfl | rfl | rfl | rfl | rfl | rfl | rfl | rfl
          all_goals
            (conv => arg 3; whnf); repeat ((first | (with_reducible apply sT); rfl | (with_reducible apply sF); rfl | (with_reducible apply sE); rfl); conv => arg 3; whnf)
            repeat (first | ((with_reducible refine sat_rng ?_ ?_); (exact wrap64 (by omega) (by omega)); (conv => arg 3; whnf); repeat ((first | (with_reducible apply sT); rfl | (with_reducible apply sF); rfl | (with_reducible apply sE); rfl); conv => arg 3; whnf)) | ((with_reducible refine sat_asrt ?_ ?_); rfl; (conv => arg 3; whnf); repeat ((first | (with_reducible apply sT); rfl | (with_reducible apply sF); rfl | (with_reducible apply sE); rfl); conv => arg 3; whnf)) | ((with_reducible refine sat_rngw ?_); (conv => arg 3; whnf); repeat ((first | (with_reducible apply sT); rfl | (with_reducible apply sF); rfl | (with_reducible apply sE); rfl); conv => arg 3; whnf)) | ((refine sat_idx _ (by decide) rfl ?_); (conv => arg 3; whnf); repeat ((first | (with_reducible apply sT); rfl | (with_reducible apply sF); rfl | (with_reducible apply sE); rfl); conv => arg 3; whnf)))
            exact sat_ret ⟨⟨_, hi⟩, rfl, rfl, by dsimp only; decide⟩
        · have hi : i = 8 := by have := of_decide_eq_false hi; omega
          subst hi
          (conv => arg 3; whnf); repeat ((first | (with_reducible apply sT); rfl | (with_reducible apply sF); rfl | (with_reducible apply sE); rfl); conv => arg 3; whnf)
          exact sat_ret ⟨rfl, rfl, rfl⟩
      · rintro ex fr' H' ⟨rfl, rfl, rfl⟩
        rw [show o32 ⟨va, vb, vc, vd, ve, vf, vg, vh⟩ 8 = outH ⟨va, vb, vc, vd, ve, vf, vg, vh⟩ from rfl]
        (conv => arg 3; whnf); repeat ((first | (with_reducible apply sT); rfl | (with_reducible apply sF); rfl | (with_reducible apply sE); rfl); conv => arg 3; whnf)
        exact sat_ret ⟨rfl, rfl⟩
end Stk
end

section
/- New, Copy, Sum of the program. -/
namespace Stk
open Go
set_option maxRecDepth 100000
set_option linter.unusedSimpArgs false
set_option linter.unusedVariables false
set_option maxHeartbeats 8000000
abbrev w0 : List Tr := List.replicate 64 (u8 0)
theorem di0 : DI [] w0 := ⟨rfl, fun y hy => ⟨0, List.eq_of_mem_replicate hy, by omega, by omega⟩, rfl⟩
theorem k_new : ACalls PP GG F.sha_New [] [] fun r H' => r = pt 0 ∧ H' = [.var (.t (dG [] w0))] := by
  refine K.sha_New.callsC rfl ?_
  (conv => arg 3; whnf); repeat ((first | (with_reducible apply sT); rfl | (with_reducible apply sF); rfl | (with_reducible apply sE); rfl); conv => arg 3; whnf)
  exact sat_ret ⟨rfl, rfl⟩
theorem k_sum (L : List Tr) (hL : AllB L) (hl : L.length ≤ 2 ^ 48) : ACalls PP GG F.sha_Sum [.bz 1 L] [] fun r H' => r = .t (.arr 32 (shaL L)) ∧ H' = [] := by
  refine K.sha_Sum.callsC rfl ?_
  (conv => arg 3; whnf); repeat ((first | (with_reducible apply sT); rfl | (with_reducible apply sF); rfl | (with_reducible apply sE); rfl); conv => arg 3; whnf)
  refine sat_call k_new ?_
  rintro r H' ⟨rfl, rfl⟩
  (conv => arg 3; whnf); repeat ((first | (with_reducible apply sT); rfl | (with_reducible apply sF); rfl | (with_reducible apply sE); rfl); conv => arg 3; whnf)
  refine sat_call (k_write [] L w0 hL di0 (by simp; omega)) ?_
  rintro r H' ⟨rfl, wt, di, rfl⟩
  rw [List.nil_append] at di ⊢
  (conv => arg 3; whnf); repeat ((first | (with_reducible apply sT); rfl | (with_reducible apply sF); rfl | (with_reducible apply sE); rfl); conv => arg 3; whnf)
  refine sat_call (k_dsum L wt di hl) ?_
  rintro r H' ⟨rfl, rfl⟩
  (conv => arg 3; whnf); repeat ((first | (with_reducible apply sT); rfl | (with_reducible apply sF); rfl | (with_reducible apply sE); rfl); conv => arg 3; whnf)
  exact sat_ret ⟨rfl, rfl⟩
end Stk
end

section
/- Bytes in whole blocks, by the document. -/
namespace Stk
open Go
set_option maxRecDepth 100000
set_option linter.unusedSimpArgs false
set_option linter.unusedVariables false
set_option maxHeartbeats 8000000
theorem AllB.app {X Y : List Tr} (h : AllB X) (h' : AllB Y) : AllB (X ++ Y) := fun y hy => (List.mem_append.1 hy).elim (h y) (h' y)
def sz (S : Int) : Nat → Int
  | 0 => S
  | j + 1 => (sz S j).tdiv 256
theorem sz_b {S : Int} (h : 0 ≤ S ∧ S ≤ 2 ^ 60) : ∀ j, 0 ≤ sz S j ∧ sz S j ≤ 2 ^ 60
  | 0 => h
  | j + 1 => by
    have := sz_b h j
    show 0 ≤ (sz S j).tdiv 256 ∧ (sz S j).tdiv 256 ≤ 2 ^ 60
    rw [Int.tdiv_eq_ediv_of_nonneg this.1]
    omega
def bv (S : Int) (j : Nat) : Int := IntKind.wrap .u8 ((sz S j).tmod 256)
def e8r (S : Int) (j : Nat) : List Tr := List.replicate (8 - j) (u8 0) ++ ((List.range j).map fun k => u8 (bv S (j - 1 - k)))
theorem sz_eq {S : Int} (h : 0 ≤ S ∧ S ≤ 2 ^ 60) : sz S 1 = S / 256 ∧ sz S 2 = S / 65536 ∧ sz S 3 = S / 16777216 ∧ sz S 4 = S / 4294967296 ∧ sz S 5 = S / 1099511627776 ∧ sz S 6 = S / 281474976710656 ∧ sz S 7 = S / 72057594037927936 := by
  have e1 : sz S 1 = S / 256 := by show S.tdiv 256 = _; rw [Int.tdiv_eq_ediv_of_nonneg h.1]
  have e2 : sz S 2 = S / 65536 := by show (sz S 1).tdiv 256 = _; rw [Int.tdiv_eq_ediv_of_nonneg (sz_b h 1).1, e1]; omega
  have e3 : sz S 3 = S / 16777216 := by show (sz S 2).tdiv 256 = _; rw [Int.tdiv_eq_ediv_of_nonneg (sz_b h 2).1, e2]; omega
  have e4 : sz S 4 = S / 4294967296 := by show (sz S 3).tdiv 256 = _; rw [Int.tdiv_eq_ediv_of_nonneg (sz_b h 3).1, e3]; omega
  have e5 : sz S 5 = S / 1099511627776 := by show (sz S 4).tdiv 256 = _; rw [Int.tdiv_eq_ediv_of_nonneg (sz_b h 4).1, e4]; omega
  have e6 : sz S 6 = S / 281474976710656 := by show (sz S 5).tdiv 256 = _; rw [Int.tdiv_eq_ediv_of_nonneg (sz_b h 5).1, e5]; omega
  have e7 : sz S 7 = S / 72057594037927936 := by show (sz S 6).tdiv 256 = _; rw [Int.tdiv_eq_ediv_of_nonneg (sz_b h 6).1, e6]; omega
  exact ⟨e1, e2, e3, e4, e5, e6, e7⟩
theorem bv_ev {S : Int} (h : 0 ≤ S ∧ S ≤ 2 ^ 60) {j k : Nat} {d : Int} (hd : 0 < d) (hj : sz S j = S / d) (hk : (2 : Int) ^ min (Int.toNat (56 - 8 * (k : Int))) (IntKind.bits .u64) = d) : bv S j = ev S k := by
  unfold bv ev
  rw [hk, hj, Int.fdiv_eq_ediv_of_nonneg _ (by omega), Int.tmod_eq_emod_of_nonneg (Int.ediv_nonneg h.1 (by omega)), IntKind.wrap_u8, IntKind.wrap_u8]
  omega
theorem e8r_eq {S : Int} (h : 0 ≤ S ∧ S ≤ 2 ^ 60) : e8r S 8 = e8 S := by
  obtain ⟨e1, e2, e3, e4, e5, e6, e7⟩ := sz_eq h
  have e0 : sz S 0 = S / 1 := (Int.ediv_one S).symm
  show [u8 (bv S 7), u8 (bv S 6), u8 (bv S 5), u8 (bv S 4), u8 (bv S 3), u8 (bv S 2), u8 (bv S 1), u8 (bv S 0)] = _
  rw [bv_ev h (k := 0) (by omega) e7 (by decide), bv_ev h (k := 1) (by omega) e6 (by decide), bv_ev h (k := 2) (by omega) e5 (by decide), bv_ev h (k := 3) (by omega) e4 (by decide),
    bv_ev h (k := 4) (by omega) e3 (by decide), bv_ev h (k := 5) (by omega) e2 (by decide), bv_ev h (k := 6) (by omega) e1 (by decide), bv_ev h (k := 7) (by omega) e0 (by decide)]
  rfl
structure VSt (L : List Tr) where
  i : Nat
  M : List Tr
  im : i ≤ padz (L.length % 64)
  e : M = L ++ [u8 128] ++ List.replicate i (u8 0)
structure JSt8 where
  j : Nat
  im : j ≤ 8
theorem r_whole (L : List Tr) (hl : L.length ≤ 2 ^ 45) : ACalls PP GG F.ref17_whole [.bz 1 L] [] fun r H' => r = .sl 0 0 [] 0 (pad L).length none ∧ H' = [.row 1 (pad L)] := by
  refine K.ref17_whole.callsC rfl ?_
  (conv => arg 3; whnf); repeat ((first | (with_reducible apply sT); rfl | (with_reducible apply sF); rfl | (with_reducible apply sE); rfl); conv => arg 3; whnf)
  refine sat_asrt (by simp) ?_
  refine sat_asrt (by simp [roomy]; omega) ?_
  refine sat_brT rfl ?_
  (conv => arg 3; whnf); repeat ((first | (with_reducible apply sT); rfl | (with_reducible apply sF); rfl | (with_reducible apply sE); rfl); conv => arg 3; whnf)
  rw [List.nil_append, show List.take 1 (List.drop 0 [Tr.int IntKind.u8 128]) = [u8 128] from rfl]
  refine sat_asrt (by simp) ?_
  refine sat_asrt (by simp [roomy]; omega) ?_
  refine sat_brT (Nat.beq_refl _) ?_
  (conv => arg 3; whnf); repeat ((first | (with_reducible apply sT); rfl | (with_reducible apply sF); rfl | (with_reducible apply sE); rfl); conv => arg 3; whnf)
  refine sat_loopOf mkX_ops (σ := VSt L) (fun s => [(0, .bz 1 L), (3, .sl 0 0 [] 0 s.M.length none)]) (fun s => [.row 1 s.M]) (fun s => padz (L.length % 64) - s.i)
    (fun ex fr' H' => ex = .exit 0 ∧ ∃ M, fr' = [(0, .bz 1 L), (3, .sl 0 0 [] 0 M.length none)] ∧ M = L ++ [u8 128] ++ List.replicate (padz (L.length % 64)) (u8 0) ∧ H' = [.row 1 M]) ⟨0, L ++ [u8 128], Nat.zero_le _, by rw [List.replicate_zero, List.append_nil]⟩ ?_ ?_
  · rintro ⟨i, M, im, hM⟩
    dsimp only
    have hMl : M.length = L.length + 1 + i := by rw [hM]; simp; omega
    have hz : padz (L.length % 64) = (119 - L.length % 64) % 64 := rfl
    have hta : Int.tmod (M.length : Int) 64 = ((M.length % 64 : Nat) : Int) := by rw [Int.tmod_eq_emod_of_nonneg (by omega)]; omega
    (conv => arg 3; whnf); repeat ((first | (with_reducible apply sT); rfl | (with_reducible apply sF); rfl | (with_reducible apply sE); rfl); conv => arg 3; whnf)
    refine sat_asrt rfl ?_
    rw [hta]
    (conv => arg 3; whnf); repeat ((first | (with_reducible apply sT); rfl | (with_reducible apply sF); rfl | (with_reducible apply sE); rfl); conv => arg 3; whnf)
    refine sat_br (fun hq => ?_) (fun hq => ?_)
    · have hq := bne_iff_ne.1 hq
      have hlt : i < padz (L.length % 64) := by omega
      (conv => arg 3; whnf); repeat ((first | (with_reducible apply sT); rfl | (with_reducible apply sF); rfl | (with_reducible apply sE); rfl); conv => arg 3; whnf)
      rw [show List.take 1 (List.drop 0 [Tr.int IntKind.u8 0]) = [u8 0] from rfl]
      refine sat_asrt (by simp) ?_
      refine sat_asrt (by simp [roomy]; omega) ?_
      refine sat_brT (Nat.beq_refl _) ?_
      (conv => arg 3; whnf); repeat ((first | (with_reducible apply sT); rfl | (with_reducible apply sF); rfl | (with_reducible apply sE); rfl); conv => arg 3; whnf)
      refine sat_ret ⟨⟨i + 1, M ++ [u8 0], hlt, by rw [hM, List.replicate_succ', List.append_assoc, List.append_assoc]⟩, ?_, ?_, by show padz (L.length % 64) - (i + 1) < padz (L.length % 64) - i; omega⟩
      · simp only [List.length_append]; rfl
      · rfl
    · have hq : ((M.length % 64 : Nat) : Int) = 56 := by simpa using hq
      have : i = padz (L.length % 64) := by omega
      subst this
      (conv => arg 3; whnf); repeat ((first | (with_reducible apply sT); rfl | (with_reducible apply sF); rfl | (with_reducible apply sE); rfl); conv => arg 3; whnf)
      exact sat_ret ⟨rfl, M, rfl, hM, rfl⟩
  · rintro ex fr' H' ⟨rfl, M, rfl, hM, rfl⟩
    have hMl : M.length = L.length + 1 + padz (L.length % 64) := by rw [hM]; simp; omega
    have hz : padz (L.length % 64) = (119 - L.length % 64) % 64 := rfl
    have hS : 0 ≤ 8 * (L.length : Int) ∧ 8 * (L.length : Int) ≤ 2 ^ 60 := by omega
    have hpad : pad L = M ++ e8r (8 * (L.length : Int)) 8 := by unfold pad; rw [hM, e8r_eq hS]
    have hlw : IntKind.wrap .u64 (L.length : Int) = L.length := by rw [IntKind.wrap_u64]; omega
    have hSw : IntKind.wrap .u64 (8 * (L.length : Int)) = 8 * (L.length : Int) := by rw [IntKind.wrap_u64]; omega
    rw [hpad]
    (conv => arg 3; whnf); repeat ((first | (with_reducible apply sT); rfl | (with_reducible apply sF); rfl | (with_reducible apply sE); rfl); conv => arg 3; whnf)
    refine sat_rng hlw ?_
    (conv => arg 3; whnf); repeat ((first | (with_reducible apply sT); rfl | (with_reducible apply sF); rfl | (with_reducible apply sE); rfl); conv => arg 3; whnf)
    refine sat_rng hSw ?_
    clear hpad hM hlw hSw
    generalize 8 * (L.length : Int) = S at hS ⊢
    (conv => arg 3; whnf); repeat ((first | (with_reducible apply sT); rfl | (with_reducible apply sF); rfl | (with_reducible apply sE); rfl); conv => arg 3; whnf)
    refine sat_loopOf mkX_ops (σ := JSt8) (fun s => [(3, .sl 0 0 [] 0 M.length none), (4, tu (sz S s.j)), (5, pt 1), (6, ti (7 - (s.j : Int)))]) (fun s => [.row 1 M, .var (.t (.arr 8 (e8r S s.j)))]) (fun s => 8 - s.j)
      (fun ex fr' H' => ex = .exit 2 ∧ fr' = [(3, .sl 0 0 [] 0 M.length none), (5, pt 1)] ∧ H' = [.row 1 M, .var (.t (.arr 8 (e8r S 8)))]) ⟨0, Nat.zero_le _⟩ ?_ ?_
    · rintro ⟨j, jm⟩
      dsimp only
      refine sat_br (fun hj => ?_) (fun hj => ?_)
      · have hj : j < 8 := by have := of_decide_eq_true hj; omega
        have hb := sz_b hS j
        have hw : IntKind.wrap .u64 ((sz S j).tdiv 256) = (sz S j).tdiv 256 := by
          rw [Int.tdiv_eq_ediv_of_nonneg hb.1, IntKind.wrap_u64]; omega
        have h8 : j = 0 ∨ j = 1 ∨ j = 2 ∨ j = 3 ∨ j = 4 ∨ j = 5 ∨ j = 6 ∨ j = 7 := by omega
        rcases h8 with rfl | rfl | rfl | rfl | rfl | rfl | rfl | rfl
        all_goals
          (conv => arg 3; whnf); repeat ((first | (with_reducible apply sT); rfl | (with_reducible apply sF); rfl | (with_reducible apply sE); rfl); conv => arg 3; whnf)
          repeat (first | ((with_reducible refine sat_rng hw ?_); (conv => arg 3; whnf); repeat ((first | (with_reducible apply sT); rfl | (with_reducible apply sF); rfl | (with_reducible apply sE); rfl); conv => arg 3; whnf)) | ((with_reducible refine sat_rng ?_ ?_); (exact wrap64 (by omega) (by omega)); (conv => arg 3; whnf); repeat ((first | (with_reducible apply sT); rfl | (with_reducible apply sF); rfl | (with_reducible apply sE); rfl); conv => arg 3; whnf)) | ((with_reducible refine sat_asrt ?_ ?_); rfl; (conv => arg 3; whnf); repeat ((first | (with_reducible apply sT); rfl | (with_reducible apply sF); rfl | (with_reducible apply sE); rfl); conv => arg 3; whnf)) | ((with_reducible refine sat_rngw ?_); (conv => arg 3; whnf); repeat ((first | (with_reducible apply sT); rfl | (with_reducible apply sF); rfl | (with_reducible apply sE); rfl); conv => arg 3; whnf)))
          exact sat_ret ⟨⟨_, hj⟩, rfl, rfl, by dsimp only; decide⟩
      · have hj : j = 8 := by have := of_decide_eq_false hj; omega
        subst hj
        (conv => arg 3; whnf); repeat ((first | (with_reducible apply sT); rfl | (with_reducible apply sF); rfl | (with_reducible apply sE); rfl); conv => arg 3; whnf)
        exact sat_ret ⟨rfl, rfl, rfl⟩
    · rintro ex fr' H' ⟨rfl, rfl, rfl⟩
      have hel : (e8r S 8).length = 8 := rfl
      generalize e8r S 8 = E at hel ⊢
      (conv => arg 3; whnf); repeat ((first | (with_reducible apply sT); rfl | (with_reducible apply sF); rfl | (with_reducible apply sE); rfl); conv => arg 3; whnf)
      refine sat_asrt (decide_eq_true (by omega)) ?_
      rw [show (8 - 0 : Nat) = 8 from rfl, List.drop_zero, List.take_of_length_le (by omega)]
      (conv => arg 3; whnf); repeat ((first | (with_reducible apply sT); rfl | (with_reducible apply sF); rfl | (with_reducible apply sE); rfl); conv => arg 3; whnf)
      refine sat_asrt (by simp) ?_
      refine sat_asrt (by simp [roomy]; omega) ?_
      refine sat_brT (Nat.beq_refl _) ?_
      (conv => arg 3; whnf); repeat ((first | (with_reducible apply sT); rfl | (with_reducible apply sF); rfl | (with_reducible apply sE); rfl); conv => arg 3; whnf)
      exact sat_ret ⟨by rw [List.length_append], rfl⟩
end Stk
end

section
/- What the document's Sum computes: plain Lean. -/
namespace Stk
open Go
set_option maxRecDepth 100000
set_option linter.unusedSimpArgs false
set_option linter.unusedVariables false
set_option maxHeartbeats 8000000
theorem r_adds : ACalls PP GG F.ref17_adds [] [] fun r H' => r = .t (.arr 64 KL) ∧ H' = [] := by
  refine K.ref17_adds.callsC rfl ?_
  (conv => arg 3; whnf); repeat ((first | (with_reducible apply sT); rfl | (with_reducible apply sF); rfl | (with_reducible apply sE); rfl); conv => arg 3; whnf)
  exact sat_ret ⟨rfl, rfl⟩
/-- A word that is gathered byte by byte. -/
def acc (bs : List Tr) (t : Nat) : Nat → Int
  | 0 => 0
  | i + 1 => 256 * acc bs t i + gw bs (4 * t + i)
theorem acc_b {bs : List Tr} (h : AllB bs) (hl : bs.length = 64) {t : Nat} (ht : t < 16) : 0 ≤ acc bs t 0 ∧ acc bs t 0 ≤ 0 ∧ 0 ≤ acc bs t 1 ∧ acc bs t 1 ≤ 255 ∧ 0 ≤ acc bs t 2 ∧ acc bs t 2 ≤ 65535 ∧ 0 ≤ acc bs t 3 ∧ acc bs t 3 ≤ 16777215 := by
  have h0 := (h.get (show 4 * t + 0 < bs.length by omega)).2
  have h1 := (h.get (show 4 * t + 1 < bs.length by omega)).2
  have h2 := (h.get (show 4 * t + 2 < bs.length by omega)).2
  have e0 : acc bs t 0 = 0 := rfl
  have e1 : acc bs t 1 = 256 * acc bs t 0 + gw bs (4 * t + 0) := rfl
  have e2 : acc bs t 2 = 256 * acc bs t 1 + gw bs (4 * t + 1) := rfl
  have e3 : acc bs t 3 = 256 * acc bs t 2 + gw bs (4 * t + 2) := rfl
  omega
theorem acc_le {bs : List Tr} (h : AllB bs) (hl : bs.length = 64) {t : Nat} (ht : t < 16) {i : Nat} (hi : i < 4) : 0 ≤ acc bs t i ∧ acc bs t i ≤ 16777215 := by
  have := acc_b h hl ht
  have hq : i = 0 ∨ i = 1 ∨ i = 2 ∨ i = 3 := by omega
  rcases hq with rfl | rfl | rfl | rfl <;> omega
theorem acc_be (bs : List Tr) (t : Nat) : acc bs t 4 = be bs t := by
  have e1 : acc bs t 1 = 256 * 0 + gw bs (4 * t + 0) := rfl
  have e2 : acc bs t 2 = 256 * acc bs t 1 + gw bs (4 * t + 1) := rfl
  have e3 : acc bs t 3 = 256 * acc bs t 2 + gw bs (4 * t + 2) := rfl
  have e4 : acc bs t 4 = 256 * acc bs t 3 + gw bs (4 * t + 3) := rfl
  unfold be
  rw [Nat.add_zero] at e1
  omega
theorem rs_len (bs : List Tr) (H : H8) : ∀ t, (rs bs H t).1.length = 64
  | 0 => by show (List.replicate _ _).length = 64; rw [List.length_replicate]
  | t + 1 => by show (List.set _ _ _).length = 64; rw [List.length_set]; exact rs_len bs H t
/-- Words ahead of their turn are nought. -/
theorem rs_zero (bs : List Tr) (H : H8) : ∀ (t i : Nat), t ≤ i → i < 64 → (rs bs H t).1[i]? = some (w32 0)
  | 0, i, _, hi => by show (List.replicate 64 (w32 0))[i]? = _; rw [List.getElem?_replicate, if_pos hi]
  | t + 1, i, h, hi => by
    show (List.set _ _ _)[i]? = _
    rw [List.getElem?_set_ne (by omega)]
    exact rs_zero bs H t i (by omega) hi
/-- Words stay behind their turn. -/
theorem rs_stay (bs : List Tr) (H : H8) : ∀ (n t : Nat), t < n → n ≤ 64 → (rs bs H n).1[t]? = some (w32 (wd bs (rs bs H t).1 t))
  | 0, t, h, _ => by omega
  | n + 1, t, h, hn => by
    show (List.set _ _ _)[t]? = _
    by_cases ht : t = n
    · subst ht
      rw [List.getElem?_set_self (by rw [rs_len]; omega)]
    · rw [List.getElem?_set_ne (by omega)]
      exact rs_stay bs H n t (by omega) (by omega)
def sw (x : Int) : Nat → Int
  | 0 => x
  | c + 1 => (sw x c).tdiv 256
def bw (x : Int) (c : Nat) : Tr := u8 (IntKind.wrap .u8 ((sw x c).tmod 256))
theorem sw_w {x : Int} (h : W32 x) : ∀ c, W32 (sw x c)
  | 0 => h
  | c + 1 => by
    have := sw_w h c
    show W32 ((sw x c).tdiv 256)
    rw [Int.tdiv_eq_ediv_of_nonneg this.1]
    constructor <;> omega
def w4r (x : Int) : List Tr := [bw x 3, bw x 2, bw x 1, bw x 0]
theorem w4r_eq {x : Int} (h : W32 x) : w4r x = w4 x := by
  have e1 : sw x 1 = x / 256 := by show x.tdiv 256 = _; rw [Int.tdiv_eq_ediv_of_nonneg h.1]
  have e2 : sw x 2 = x / 65536 := by show (sw x 1).tdiv 256 = _; rw [Int.tdiv_eq_ediv_of_nonneg (sw_w h 1).1, e1]; omega
  have e3 : sw x 3 = x / 16777216 := by show (sw x 2).tdiv 256 = _; rw [Int.tdiv_eq_ediv_of_nonneg (sw_w h 2).1, e2]; omega
  have e0 : sw x 0 = x := rfl
  have h0 := h.1
  have key : ∀ (c : Nat) (k d : Int), 0 < d → sw x c = x / d → (2 : Int) ^ min (Int.toNat k) (IntKind.bits .u32) = d → IntKind.wrap .u8 ((sw x c).tmod 256) = wv x k := by
    intro c k d hd hs hk
    unfold wv
    rw [hk, hs, Int.fdiv_eq_ediv_of_nonneg _ (by omega), Int.tmod_eq_emod_of_nonneg (Int.ediv_nonneg h0 (by omega)), IntKind.wrap_u8, IntKind.wrap_u8]
    omega
  unfold w4r bw w4
  have k0 : IntKind.wrap .u8 ((sw x 0).tmod 256) = IntKind.wrap .u8 x := by
    show IntKind.wrap .u8 (x.tmod 256) = _
    rw [Int.tmod_eq_emod_of_nonneg h0, IntKind.wrap_u8, IntKind.wrap_u8]
    omega
  rw [key 3 24 16777216 (by omega) e3 (by decide), key 2 16 65536 (by omega) e2 (by decide), key 1 8 256 (by omega) e1 (by decide), k0]
def outW (v : H8) : List Tr := w4r v.a ++ w4r v.b ++ w4r v.c ++ w4r v.d ++ w4r v.e ++ w4r v.f ++ w4r v.g ++ w4r v.h
theorem outW_eq {v : H8} (h : v.W) : outW v = outH v := by
  unfold outW outH
  rw [w4r_eq h.a, w4r_eq h.b, w4r_eq h.c, w4r_eq h.d, w4r_eq h.e, w4r_eq h.f, w4r_eq h.g, w4r_eq h.h]
theorem pad_len (L : List Tr) : (pad L).length % 64 = 0 ∧ (pad L).length ≤ L.length + 80 := by
  unfold pad
  have hz : padz (L.length % 64) = (119 - L.length % 64) % 64 := rfl
  have he : (e8 (8 * (L.length : Int))).length = 8 := rfl
  simp only [List.length_append, List.length_replicate, List.length_singleton, he]
  omega
theorem pad_b {L : List Tr} (h : AllB L) : AllB (pad L) := by
  unfold pad
  exact ((h.app (one_b (by omega))).app (fun y hy => ⟨0, List.eq_of_mem_replicate hy, by omega, by omega⟩)).app (e8_b _)
theorem gw_eq {L M : List Tr} {i j : Nat} (h : L[i]? = M[j]?) : gw L i = gw M j := by unfold gw; rw [h]
end Stk
end
