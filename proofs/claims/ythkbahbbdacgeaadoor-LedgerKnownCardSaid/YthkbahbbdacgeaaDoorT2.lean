/- The words of a block. -/
import Derived.Test.YthkbahbbdacgeaaDoorT1
namespace Stk
open Go
set_option maxRecDepth 100000
set_option linter.unusedSimpArgs false
set_option linter.unusedVariables false
set_option maxHeartbeats 4000000
abbrev pt (b : Nat) : AV := .ptr b 0 0 [] none
def gw (xs : List Tr) (i : Nat) : Int := match xs[i]? with
  | some (.int _ v) => v
  | _ => 0
def AllW (xs : List Tr) : Prop := ∀ y ∈ xs, ∃ v, y = w32 v ∧ W32 v
def AllB (xs : List Tr) : Prop := ∀ y ∈ xs, ∃ v, y = u8 v ∧ 0 ≤ v ∧ v ≤ 255
theorem AllW.get {xs : List Tr} (h : AllW xs) {i : Nat} (hi : i < xs.length) : xs[i]? = some (w32 (gw xs i)) ∧ W32 (gw xs i) := by
  obtain ⟨v, e, hv⟩ := h _ (List.getElem_mem hi)
  have : xs[i]? = some (w32 v) := by rw [List.getElem?_eq_getElem hi, e]
  unfold gw
  rw [this]
  exact ⟨rfl, hv⟩
theorem AllB.get {xs : List Tr} (h : AllB xs) {i : Nat} (hi : i < xs.length) : xs[i]? = some (u8 (gw xs i)) ∧ 0 ≤ gw xs i ∧ gw xs i ≤ 255 := by
  obtain ⟨v, e, h1, h2⟩ := h _ (List.getElem_mem hi)
  have : xs[i]? = some (u8 v) := by rw [List.getElem?_eq_getElem hi, e]
  unfold gw
  rw [this]
  exact ⟨rfl, h1, h2⟩
abbrev xr (a b : Int) : Int := bitsV .xor .u32 a b
def s0 (x : Int) : Int := xr (xr (rot 7 x) (rot 18 x)) (shf 3 x)
def s1 (x : Int) : Int := xr (xr (rot 17 x) (rot 19 x)) (shf 10 x)
abbrev ad (a b : Int) : Int := IntKind.wrap .u32 (a + b)
def nw (ws : List Tr) (t : Nat) : Int := ad (ad (ad (s1 (gw ws (t - 2))) (gw ws (t - 7))) (s0 (gw ws (t - 15)))) (gw ws (t - 16))
def be (bs : List Tr) (t : Nat) : Int := gw bs (4 * t) * 16777216 + gw bs (4 * t + 1) * 65536 + gw bs (4 * t + 2) * 256 + gw bs (4 * t + 3)
/-- A digest as it lies. -/
abbrev dT (hs wt : List Tr) (n : Int) : Tr := .agg [.bool true, .arr 8 hs, .arr 64 wt, .int .u64 n]
theorem or4 {a b c d : Int} (ha : 0 ≤ a ∧ a ≤ 255) (hb : 0 ≤ b ∧ b ≤ 255) (hc : 0 ≤ c ∧ c ≤ 255) (hd : 0 ≤ d ∧ d ≤ 255) :
    bitsV .or .u32 (bitsV .or .u32 (bitsV .or .u32 (a * 16777216) (b * 65536)) (c * 256)) d = a * 16777216 + b * 65536 + c * 256 + d := by
  have e1 : bitsV .or .u32 (a * 16777216) (b * 65536) = (a * 256 + b) * 65536 := by
    have := or_shl .u32 (x := b * 65536) (y := a) (n := 24) (by omega) ha.1 (by show _ < (2 : Int) ^ 32; omega) (by rw [IntKind.wrap_u32]; omega)
    rw [or_comm', show a * 16777216 = a * 2 ^ 24 by omega, this]; omega
  have e2 : bitsV .or .u32 ((a * 256 + b) * 65536) (c * 256) = ((a * 256 + b) * 256 + c) * 256 := by
    have := or_shl .u32 (x := c * 256) (y := a * 256 + b) (n := 16) (by omega) (by omega) (by show _ < (2 : Int) ^ 32; omega) (by rw [IntKind.wrap_u32]; omega)
    rw [or_comm', show (a * 256 + b) * 65536 = (a * 256 + b) * 2 ^ 16 by omega, this]; omega
  have e3 : bitsV .or .u32 (((a * 256 + b) * 256 + c) * 256) d = a * 16777216 + b * 65536 + c * 256 + d := by
    have := or_shl .u32 (x := d) (y := (a * 256 + b) * 256 + c) (n := 8) (by omega) (by omega) (by show _ < (2 : Int) ^ 32; omega) (by rw [IntKind.wrap_u32]; omega)
    rw [or_comm', show ((a * 256 + b) * 256 + c) * 256 = ((a * 256 + b) * 256 + c) * 2 ^ 8 by omega, this]; omega
  rw [e1, e2, e3]
theorem k_word1 (hs wt ws : List Tr) (n : Int) (t : Nat) (hb : AllB wt) (hl : wt.length = 64) (ht : t < 16) :
    ACalls PP GG F.sha_Digest_block_1 [ti t, pt 0, pt 2] [.var (pt 1), .var (.t (dT hs wt n)), .var (.t (.arr 64 ws))] fun r H' => r = tw (be wt t) ∧ H' = [.var (pt 1), .var (.t (dT hs wt n)), .var (.t (.arr 64 ws))] := by
  refine K.sha_Digest_block_1.callsC rfl ?_
  (conv => arg 3; whnf); repeat ((first | (with_reducible apply sT); rfl | (with_reducible apply sF); rfl | (with_reducible apply sE); rfl); conv => arg 3; whnf)
  refine sat_brT (decide_eq_true (by omega)) ?_
  obtain ⟨a0, b0⟩ := hb.get (show 4 * t < wt.length by omega)
  obtain ⟨a1, b1⟩ := hb.get (show 4 * t + 1 < wt.length by omega)
  obtain ⟨a2, b2⟩ := hb.get (show 4 * t + 2 < wt.length by omega)
  obtain ⟨a3, b3⟩ := hb.get (show 4 * t + 3 < wt.length by omega)
  have z0 : (((4 * (t : Int)).toNat : Nat) : Int).toNat = 4 * t := by omega
  have z1 : (((4 * (t : Int) + 1).toNat : Nat) : Int).toNat = 4 * t + 1 := by omega
  have z2 : (((4 * (t : Int) + 2).toNat : Nat) : Int).toNat = 4 * t + 2 := by omega
  have z3 : (((4 * (t : Int) + 3).toNat : Nat) : Int).toNat = 4 * t + 3 := by omega
  rw [← z0] at a0
  rw [← z1] at a1
  rw [← z2] at a2
  rw [← z3] at a3
  (conv => arg 3; whnf); repeat ((first | (with_reducible apply sT); rfl | (with_reducible apply sF); rfl | (with_reducible apply sE); rfl); conv => arg 3; whnf)
  repeat (first | ((with_reducible refine sat_rng ?_ ?_); (exact wrap64 (by omega) (by omega)); (conv => arg 3; whnf); repeat ((first | (with_reducible apply sT); rfl | (with_reducible apply sF); rfl | (with_reducible apply sE); rfl); conv => arg 3; whnf)) | ((with_reducible refine sat_asrt ?_ ?_); (first | rfl | (exact decide_eq_true (by omega))); (conv => arg 3; whnf); repeat ((first | (with_reducible apply sT); rfl | (with_reducible apply sF); rfl | (with_reducible apply sE); rfl); conv => arg 3; whnf)) |
    ((with_reducible refine sat_idx _ (by omega) a0 ?_); (conv => arg 3; whnf); repeat ((first | (with_reducible apply sT); rfl | (with_reducible apply sF); rfl | (with_reducible apply sE); rfl); conv => arg 3; whnf)) | ((with_reducible refine sat_idx _ (by omega) a1 ?_); (conv => arg 3; whnf); repeat ((first | (with_reducible apply sT); rfl | (with_reducible apply sF); rfl | (with_reducible apply sE); rfl); conv => arg 3; whnf)) | ((with_reducible refine sat_idx _ (by omega) a2 ?_); (conv => arg 3; whnf); repeat ((first | (with_reducible apply sT); rfl | (with_reducible apply sF); rfl | (with_reducible apply sE); rfl); conv => arg 3; whnf)) | ((with_reducible refine sat_idx _ (by omega) a3 ?_); (conv => arg 3; whnf); repeat ((first | (with_reducible apply sT); rfl | (with_reducible apply sF); rfl | (with_reducible apply sE); rfl); conv => arg 3; whnf)) | ((with_reducible refine sat_rngw ?_); (conv => arg 3; whnf); repeat ((first | (with_reducible apply sT); rfl | (with_reducible apply sF); rfl | (with_reducible apply sE); rfl); conv => arg 3; whnf)))
  rw [z0, z1, z2, z3]
  have p24 : (2 : Int) ^ min (Int.toNat 24) (IntKind.bits .u32) = 16777216 := by decide
  have p16 : (2 : Int) ^ min (Int.toNat 16) (IntKind.bits .u32) = 65536 := by decide
  have p8 : (2 : Int) ^ min (Int.toNat 8) (IntKind.bits .u32) = 256 := by decide
  have u0 : IntKind.wrap .u32 (gw wt (4 * t)) = gw wt (4 * t) := by rw [IntKind.wrap_u32]; omega
  have u1 : IntKind.wrap .u32 (gw wt (4 * t + 1)) = gw wt (4 * t + 1) := by rw [IntKind.wrap_u32]; omega
  have u2 : IntKind.wrap .u32 (gw wt (4 * t + 2)) = gw wt (4 * t + 2) := by rw [IntKind.wrap_u32]; omega
  have u3 : IntKind.wrap .u32 (gw wt (4 * t + 3)) = gw wt (4 * t + 3) := by rw [IntKind.wrap_u32]; omega
  have v0 : IntKind.wrap .u32 (gw wt (4 * t) * 16777216) = gw wt (4 * t) * 16777216 := by rw [IntKind.wrap_u32]; omega
  have v1 : IntKind.wrap .u32 (gw wt (4 * t + 1) * 65536) = gw wt (4 * t + 1) * 65536 := by rw [IntKind.wrap_u32]; omega
  have v2 : IntKind.wrap .u32 (gw wt (4 * t + 2) * 256) = gw wt (4 * t + 2) * 256 := by rw [IntKind.wrap_u32]; omega
  rw [p24, p16, p8, u0, u1, u2, u3, v0, v1, v2, or4 b0 b1 b2 b3]
  exact sat_ret ⟨rfl, rfl⟩
theorem xr_w (a b : Int) : W32 (xr a b) := by
  unfold W32 xr bitsV
  dsimp only
  rw [IntKind.wrap_u32]
  constructor <;> omega
theorem k_word2 (hs wt ws : List Tr) (n : Int) (t : Nat) (hw : AllW ws) (hl : ws.length = 64) (ht : 16 ≤ t ∧ t < 64) :
    ACalls PP GG F.sha_Digest_block_1 [ti t, pt 0, pt 2] [.var (pt 1), .var (.t (dT hs wt n)), .var (.t (.arr 64 ws))] fun r H' => r = tw (nw ws t) ∧ H' = [.var (pt 1), .var (.t (dT hs wt n)), .var (.t (.arr 64 ws))] := by
  refine K.sha_Digest_block_1.callsC rfl ?_
  (conv => arg 3; whnf); repeat ((first | (with_reducible apply sT); rfl | (with_reducible apply sF); rfl | (with_reducible apply sE); rfl); conv => arg 3; whnf)
  refine sat_brF (decide_eq_false (by omega)) ?_
  (conv => arg 3; whnf); repeat ((first | (with_reducible apply sT); rfl | (with_reducible apply sF); rfl | (with_reducible apply sE); rfl); conv => arg 3; whnf)
  obtain ⟨a0, b0⟩ := hw.get (show t - 15 < ws.length by omega)
  obtain ⟨a1, b1⟩ := hw.get (show t - 2 < ws.length by omega)
  obtain ⟨a2, b2⟩ := hw.get (show t - 7 < ws.length by omega)
  obtain ⟨a3, b3⟩ := hw.get (show t - 16 < ws.length by omega)
  have z0 : ((((t : Int) - 15).toNat : Nat) : Int).toNat = t - 15 := by omega
  have z1 : ((((t : Int) - 2).toNat : Nat) : Int).toNat = t - 2 := by omega
  have z2 : ((((t : Int) - 7).toNat : Nat) : Int).toNat = t - 7 := by omega
  have z3 : ((((t : Int) - 16).toNat : Nat) : Int).toNat = t - 16 := by omega
  unfold nw
  generalize gw ws (t - 15) = x0 at a0 b0 ⊢
  generalize gw ws (t - 2) = x1 at a1 b1 ⊢
  generalize gw ws (t - 7) = x2 at a2 b2 ⊢
  generalize gw ws (t - 16) = x3 at a3 b3 ⊢
  rw [← z0] at a0
  rw [← z1] at a1
  rw [← z2] at a2
  rw [← z3] at a3
  repeat (first | ((with_reducible refine sat_rng ?_ ?_); (exact wrap64 (by omega) (by omega)); (conv => arg 3; whnf); repeat ((first | (with_reducible apply sT); rfl | (with_reducible apply sF); rfl | (with_reducible apply sE); rfl); conv => arg 3; whnf)) | ((with_reducible refine sat_asrt ?_ ?_); (first | rfl | (exact decide_eq_true (by omega))); (conv => arg 3; whnf); repeat ((first | (with_reducible apply sT); rfl | (with_reducible apply sF); rfl | (with_reducible apply sE); rfl); conv => arg 3; whnf)) |
    ((with_reducible refine sat_idx _ (by omega) a0 ?_); (conv => arg 3; whnf); repeat ((first | (with_reducible apply sT); rfl | (with_reducible apply sF); rfl | (with_reducible apply sE); rfl); conv => arg 3; whnf)) | ((with_reducible refine sat_idx _ (by omega) a1 ?_); (conv => arg 3; whnf); repeat ((first | (with_reducible apply sT); rfl | (with_reducible apply sF); rfl | (with_reducible apply sE); rfl); conv => arg 3; whnf)) | ((with_reducible refine sat_idx _ (by omega) a2 ?_); (conv => arg 3; whnf); repeat ((first | (with_reducible apply sT); rfl | (with_reducible apply sF); rfl | (with_reducible apply sE); rfl); conv => arg 3; whnf)) | ((with_reducible refine sat_idx _ (by omega) a3 ?_); (conv => arg 3; whnf); repeat ((first | (with_reducible apply sT); rfl | (with_reducible apply sF); rfl | (with_reducible apply sE); rfl); conv => arg 3; whnf)) | ((with_reducible refine sat_rngw ?_); (conv => arg 3; whnf); repeat ((first | (with_reducible apply sT); rfl | (with_reducible apply sF); rfl | (with_reducible apply sE); rfl); conv => arg 3; whnf)))
  repeat (first | ((with_reducible refine sat_rng ?_ ?_); (exact wrap64 (by omega) (by omega)); (conv => arg 3; whnf); repeat ((first | (with_reducible apply sT); rfl | (with_reducible apply sF); rfl | (with_reducible apply sE); rfl); conv => arg 3; whnf)) | ((with_reducible refine sat_asrt ?_ ?_); (first | rfl | (exact decide_eq_true (by omega))); (conv => arg 3; whnf); repeat ((first | (with_reducible apply sT); rfl | (with_reducible apply sF); rfl | (with_reducible apply sE); rfl); conv => arg 3; whnf)) |
    ((with_reducible refine sat_idx _ (by omega) a0 ?_); (conv => arg 3; whnf); repeat ((first | (with_reducible apply sT); rfl | (with_reducible apply sF); rfl | (with_reducible apply sE); rfl); conv => arg 3; whnf)) | ((with_reducible refine sat_idx _ (by omega) a1 ?_); (conv => arg 3; whnf); repeat ((first | (with_reducible apply sT); rfl | (with_reducible apply sF); rfl | (with_reducible apply sE); rfl); conv => arg 3; whnf)) | ((with_reducible refine sat_idx _ (by omega) a2 ?_); (conv => arg 3; whnf); repeat ((first | (with_reducible apply sT); rfl | (with_reducible apply sF); rfl | (with_reducible apply sE); rfl); conv => arg 3; whnf)) | ((with_reducible refine sat_idx _ (by omega) a3 ?_); (conv => arg 3; whnf); repeat ((first | (with_reducible apply sT); rfl | (with_reducible apply sF); rfl | (with_reducible apply sE); rfl); conv => arg 3; whnf)) | ((with_reducible refine sat_rngw ?_); (conv => arg 3; whnf); repeat ((first | (with_reducible apply sT); rfl | (with_reducible apply sF); rfl | (with_reducible apply sE); rfl); conv => arg 3; whnf)) |
    (refine sat_call (k_right x1 b1 17 (by omega) (by omega)) ?_; rintro r H' ⟨rfl, rfl⟩; (conv => arg 3; whnf); repeat ((first | (with_reducible apply sT); rfl | (with_reducible apply sF); rfl | (with_reducible apply sE); rfl); conv => arg 3; whnf)) | (refine sat_call (k_right x1 b1 19 (by omega) (by omega)) ?_; rintro r H' ⟨rfl, rfl⟩; (conv => arg 3; whnf); repeat ((first | (with_reducible apply sT); rfl | (with_reducible apply sF); rfl | (with_reducible apply sE); rfl); conv => arg 3; whnf)) | (refine sat_call (k_right x0 b0 7 (by omega) (by omega)) ?_; rintro r H' ⟨rfl, rfl⟩; (conv => arg 3; whnf); repeat ((first | (with_reducible apply sT); rfl | (with_reducible apply sF); rfl | (with_reducible apply sE); rfl); conv => arg 3; whnf)) | (refine sat_call (k_right x0 b0 18 (by omega) (by omega)) ?_; rintro r H' ⟨rfl, rfl⟩; (conv => arg 3; whnf); repeat ((first | (with_reducible apply sT); rfl | (with_reducible apply sF); rfl | (with_reducible apply sE); rfl); conv => arg 3; whnf)))
  have e10 : x1.fdiv (2 ^ min (Int.toNat 10) (IntKind.bits .u32)) = shf 10 x1 := by
    rw [shf_eq b1, show min (Int.toNat 10) (IntKind.bits .u32) = 10 from by decide, Int.fdiv_eq_ediv_of_nonneg _ (by decide)]
  have e3 : x0.fdiv (2 ^ min (Int.toNat 3) (IntKind.bits .u32)) = shf 3 x0 := by
    rw [shf_eq b0, show min (Int.toNat 3) (IntKind.bits .u32) = 3 from by decide, Int.fdiv_eq_ediv_of_nonneg _ (by decide)]
  rw [e10, e3]
  exact sat_ret ⟨rfl, rfl⟩
end Stk
