/- The digest of what was written. -/
import Derived.Test.YthkbahbbdacgeaaDoorT4
namespace Stk
open Go
set_option maxRecDepth 100000
set_option linter.unusedSimpArgs false
set_option linter.unusedVariables false
set_option maxHeartbeats 8000000
def padz (r : Nat) : Nat := (119 - r) % 64
def ev (n : Int) (i : Nat) : Int := IntKind.wrap .u8 (n.fdiv (2 ^ min (Int.toNat (56 - 8 * (i : Int))) (IntKind.bits .u64)))
def e8 (n : Int) : List Tr := [u8 (ev n 0), u8 (ev n 1), u8 (ev n 2), u8 (ev n 3), u8 (ev n 4), u8 (ev n 5), u8 (ev n 6), u8 (ev n 7)]
/-- Bytes in whole blocks. -/
def pad (L : List Tr) : List Tr := L ++ [u8 128] ++ List.replicate (padz (L.length % 64)) (u8 0) ++ e8 (8 * (L.length : Int))
def wv (x : Int) (k : Int) : Int := IntKind.wrap .u8 (x.fdiv (2 ^ min (Int.toNat k) (IntKind.bits .u32)))
def w4 (x : Int) : List Tr := [u8 (wv x 24), u8 (wv x 16), u8 (wv x 8), u8 (IntKind.wrap .u8 x)]
def outH (v : H8) : List Tr := w4 v.a ++ w4 v.b ++ w4 v.c ++ w4 v.d ++ w4 v.e ++ w4 v.f ++ w4 v.g ++ w4 v.h
/-- The digest of bytes. -/
def shaL (L : List Tr) : List Tr := outH (hb (pad L) ((pad L).length / 64))
theorem e8_b (n : Int) : AllB (e8 n) := by
  intro y hy
  unfold e8 at hy
  simp only [List.mem_cons, List.not_mem_nil, or_false] at hy
  rcases hy with rfl | rfl | rfl | rfl | rfl | rfl | rfl | rfl <;> exact ⟨_, rfl, by unfold ev; rw [IntKind.wrap_u8]; omega, by unfold ev; rw [IntKind.wrap_u8]; omega⟩
theorem one_b {v : Int} (h : 0 ≤ v ∧ v ≤ 255) : AllB [u8 v] := fun y hy => by
  simp at hy; exact ⟨v, hy, h⟩
abbrev tu (n : Int) : AV := .t (.int .u64 n)
abbrev z32 : Tr := .arr 32 (List.replicate 32 (u8 0))
structure ZSt (L : List Tr) where
  i : Nat
  M : List Tr
  wt : List Tr
  im : i ≤ padz (L.length % 64)
  e : M = L ++ [u8 128] ++ List.replicate i (u8 0)
  di : DI M wt
structure ESt where
  i : Nat
  im : i ≤ 8
def e8p (n : Int) (i : Nat) : List Tr := (e8 n).take i ++ List.replicate (8 - i) (u8 0)
def o32 (v : H8) (i : Nat) : List Tr := (outH v).take (4 * i) ++ List.replicate (32 - 4 * i) (u8 0)
theorem k_dsum (L wt : List Tr) (hi : DI L wt) (hl : L.length ≤ 2 ^ 48) :
    ACalls PP GG F.sha_Digest_Sum [pt 0] [.var (.t (dG L wt))] fun r H' => r = .tup [.t (.arr 32 (shaL L)), ti 0] ∧ H' = [.var (.t (dG L wt))] := by
  refine K.sha_Digest_Sum.callsC rfl ?_
  (conv => arg 3; whnf); repeat ((first | (with_reducible apply sT); rfl | (with_reducible apply sF); rfl | (with_reducible apply sE); rfl); conv => arg 3; whnf)
  refine sat_rng (show IntKind.wrap .u64 (8 * (L.length : Int)) = 8 * (L.length : Int) from by rw [IntKind.wrap_u64]; omega) ?_
  (conv => arg 3; whnf); repeat ((first | (with_reducible apply sT); rfl | (with_reducible apply sF); rfl | (with_reducible apply sE); rfl); conv => arg 3; whnf)
  refine sat_call (k_write L [u8 128] wt (one_b (by omega)) hi (by simp; omega)) ?_
  rintro r H' ⟨rfl, wt1, di1, rfl⟩
  (conv => arg 3; whnf); repeat ((first | (with_reducible apply sT); rfl | (with_reducible apply sF); rfl | (with_reducible apply sE); rfl); conv => arg 3; whnf)
  refine sat_loopOf mkX_ops (σ := ZSt L) (fun s => [(2, pt 0), (4, pt 1), (5, tu (8 * (L.length : Int)))]) (fun s => [.var (.t z32), .var (.t (dG s.M s.wt))]) (fun s => padz (L.length % 64) - s.i)
    (fun ex fr' H' => ex = .exit 0 ∧ fr' = [(2, pt 0), (4, pt 1), (5, tu (8 * (L.length : Int)))] ∧ ∃ M wt, M = L ++ [u8 128] ++ List.replicate (padz (L.length % 64)) (u8 0) ∧ DI M wt ∧ H' = [.var (.t z32), .var (.t (dG M wt))]) ⟨0, L ++ [u8 128], wt1, Nat.zero_le _, by rw [List.replicate_zero, List.append_nil], di1⟩ ?_ ?_
  · rintro ⟨i, M, wt2, im, hM, di⟩
    dsimp only
    have hMl : M.length = L.length + 1 + i := by rw [hM]; simp; omega
    have hz : padz (L.length % 64) = (119 - L.length % 64) % 64 := rfl
    refine sat_asrt rfl ?_
    (conv => arg 3; whnf); repeat ((first | (with_reducible apply sT); rfl | (with_reducible apply sF); rfl | (with_reducible apply sE); rfl); conv => arg 3; whnf)
    have hta : Int.tmod (M.length : Int) 64 = ((M.length % 64 : Nat) : Int) := by rw [Int.tmod_eq_emod_of_nonneg (by omega)]; omega
    rw [hta]
    refine sat_br (fun hq => ?_) (fun hq => ?_)
    · have hq := bne_iff_ne.1 hq
      have hlt : i < padz (L.length % 64) := by omega
      (conv => arg 3; whnf); repeat ((first | (with_reducible apply sT); rfl | (with_reducible apply sF); rfl | (with_reducible apply sE); rfl); conv => arg 3; whnf)
      refine sat_call (k_write M [u8 0] wt2 (one_b (by omega)) di (by simp; omega)) ?_
      rintro r H' ⟨rfl, wt3, di3, rfl⟩
      (conv => arg 3; whnf); repeat ((first | (with_reducible apply sT); rfl | (with_reducible apply sF); rfl | (with_reducible apply sE); rfl); conv => arg 3; whnf)
      exact sat_ret ⟨⟨i + 1, M ++ [u8 0], wt3, hlt, by rw [hM, List.replicate_succ', List.append_assoc, List.append_assoc], di3⟩, rfl, rfl, by show padz (L.length % 64) - (i + 1) < padz (L.length % 64) - i; omega⟩
    · have hq : ((M.length % 64 : Nat) : Int) = 56 := by simpa using hq
      have : i = padz (L.length % 64) := by omega
      subst this
      (conv => arg 3; whnf); repeat ((first | (with_reducible apply sT); rfl | (with_reducible apply sF); rfl | (with_reducible apply sE); rfl); conv => arg 3; whnf)
      exact sat_ret ⟨rfl, rfl, M, wt2, hM, di, rfl⟩
  · rintro ex fr' H' ⟨rfl, rfl, M, wt2, hM, di, rfl⟩
    have hMl : M.length = L.length + 1 + padz (L.length % 64) := by rw [hM]; simp; omega
    have hz : padz (L.length % 64) = (119 - L.length % 64) % 64 := rfl
    have hpad : pad L = M ++ e8 (8 * (L.length : Int)) := by unfold pad; rw [hM]
    have hS : 0 ≤ 8 * (L.length : Int) := by omega
    unfold shaL
    rw [hpad]
    clear hpad hM
    generalize 8 * (L.length : Int) = S at hS ⊢
    (conv => arg 3; whnf); repeat ((first | (with_reducible apply sT); rfl | (with_reducible apply sF); rfl | (with_reducible apply sE); rfl); conv => arg 3; whnf)
    refine sat_loopOf mkX_ops (σ := ESt) (fun s => [(2, pt 0), (4, pt 1), (5, tu S), (6, pt 2), (37, ti s.i)]) (fun s => [.var (.t z32), .var (.t (dG M wt2)), .var (.t (.arr 8 (e8p S s.i)))]) (fun s => 8 - s.i)
      (fun ex fr' H' => ex = .exit 2 ∧ fr' = [(2, pt 0), (4, pt 1), (6, pt 2)] ∧ H' = [.var (.t z32), .var (.t (dG M wt2)), .var (.t (.arr 8 (e8p S 8)))]) ⟨0, Nat.zero_le _⟩ ?_ ?_
    · rintro ⟨i, im⟩
      dsimp only
      refine sat_br (fun hi => ?_) (fun hi => ?_)
      · have hi : i < 8 := by have := of_decide_eq_true hi; omega
        have h8 : i = 0 ∨ i = 1 ∨ i = 2 ∨ i = 3 ∨ i = 4 ∨ i = 5 ∨ i = 6 ∨ i = 7 := by omega
        rcases h8 with rfl | rfl | rfl | rfl | rfl | rfl | rfl | rfl
        all_goals
          (conv => arg 3; whnf); repeat ((first | (with_reducible apply sT); rfl | (with_reducible apply sF); rfl | (with_reducible apply sE); rfl); conv => arg 3; whnf)
          repeat (first | ((with_reducible refine sat_rng ?_ ?_); (exact wrap64 (by omega) (by omega)); (conv => arg 3; whnf); repeat ((first | (with_reducible apply sT); rfl | (with_reducible apply sF); rfl | (with_reducible apply sE); rfl); conv => arg 3; whnf)) | ((with_reducible refine sat_asrt ?_ ?_); rfl; (conv => arg 3; whnf); repeat ((first | (with_reducible apply sT); rfl | (with_reducible apply sF); rfl | (with_reducible apply sE); rfl); conv => arg 3; whnf)) | ((with_reducible refine sat_rngw ?_); (conv => arg 3; whnf); repeat ((first | (with_reducible apply sT); rfl | (with_reducible apply sF); rfl | (with_reducible apply sE); rfl); conv => arg 3; whnf)) | ((refine sat_idx _ (by decide) rfl ?_); (conv => arg 3; whnf); repeat ((first | (with_reducible apply sT); rfl | (with_reducible apply sF); rfl | (with_reducible apply sE); rfl); conv => arg 3; whnf)))
          exact sat_ret ⟨⟨_, hi⟩, rfl, rfl, by dsimp only; decide⟩
      · have hi : i = 8 := by have := of_decide_eq_false hi; omega
        subst hi
        (conv => arg 3; whnf); repeat ((first | (with_reducible apply sT); rfl | (with_reducible apply sF); rfl | (with_reducible apply sE); rfl); conv => arg 3; whnf)
        exact sat_ret ⟨rfl, rfl, rfl⟩
    · rintro ex fr' H' ⟨rfl, rfl, rfl⟩
      rw [show e8p S 8 = e8 S from rfl]
      (conv => arg 3; whnf); repeat ((first | (with_reducible apply sT); rfl | (with_reducible apply sF); rfl | (with_reducible apply sE); rfl); conv => arg 3; whnf)
      refine sat_asrt rfl ?_
      (conv => arg 3; whnf); repeat ((first | (with_reducible apply sT); rfl | (with_reducible apply sF); rfl | (with_reducible apply sE); rfl); conv => arg 3; whnf)
      have hce : ∀ xs : List Tr, xs.length = 8 → List.take 8 (List.drop 0 xs) = xs := fun xs hx => by rw [List.drop_zero, List.take_of_length_le (by omega)]
      rw [show (8 - 0 : Nat) = 8 from rfl, hce _ rfl]
      refine sat_call (k_write M (e8 S) wt2 (e8_b S) di (by show M.length + 8 ≤ _; omega)) ?_
      rintro r H' ⟨rfl, wt3, di3, rfl⟩
      generalize hN : M ++ e8 S = N
      rw [show dG N wt3 = dT (hb N (N.length / 64)).l wt3 (N.length : Int) from rfl]
      generalize hv : hb N (N.length / 64) = v
      obtain ⟨va, vb, vc, vd, ve, vf, vg, vh⟩ := v
      (conv => arg 3; whnf); repeat ((first | (with_reducible apply sT); rfl | (with_reducible apply sF); rfl | (with_reducible apply sE); rfl); conv => arg 3; whnf)
      refine sat_loopOf mkX_ops (σ := ESt) (fun s => [(2, pt 0), (8, pt 1), (52, .t (.arr 8 (H8.mk va vb vc vd ve vf vg vh).l)), (53, ti s.i)]) (fun s => [.var (.t z32), .var (.t (.arr 32 (o32 ⟨va, vb, vc, vd, ve, vf, vg, vh⟩ s.i)))]) (fun s => 8 - s.i)
        (fun ex fr' H' => ex = .exit 4 ∧ fr' = [(2, pt 0), (8, pt 1)] ∧ H' = [.var (.t z32), .var (.t (.arr 32 (o32 ⟨va, vb, vc, vd, ve, vf, vg, vh⟩ 8)))]) ⟨0, Nat.zero_le _⟩ ?_ ?_
      · rintro ⟨i, im⟩
        dsimp only
        refine sat_br (fun hi => ?_) (fun hi => ?_)
        · have hi : i < 8 := by have := of_decide_eq_true hi; omega
          have h8 : i = 0 ∨ i = 1 ∨ i = 2 ∨ i = 3 ∨ i = 4 ∨ i = 5 ∨ i = 6 ∨ i = 7 := by omega
          rcases h8 with rfl | rfl | rfl | rfl | rfl | rfl | rfl | rfl
          all_goals
            (conv => arg 3; whnf); repeat ((first | (with_reducible apply sT); rfl | (with_reducible apply sF); rfl | (with_reducible apply sE); rfl); conv => arg 3; whnf)
            repeat (first | ((with_reducible refine sat_rng ?_ ?_); (exact wrap64 (by omega) (by omega)); (conv => arg 3; whnf); repeat ((first | (with_reducible apply sT); rfl | (with_reducible apply sF); rfl | (with_reducible apply sE); rfl); conv => arg 3; whnf)) | ((with_reducible refine sat_asrt ?_ ?_); rfl; (conv => arg 3; whnf); repeat ((first | (with_reducible apply sT); rfl | (with_reducible apply sF); rfl | (with_reducible apply sE); rfl); conv => arg 3; whnf)) | ((with_reducible refine sat_rngw ?_); (conv => arg 3; whnf); repeat ((first | (with_reducible apply sT); rfl | (with_reducible apply sF); rfl | (with_reducible apply sE); rfl); conv => arg 3; whnf)) | ((refine sat_idx _ (by decide) rfl ?_); (conv => arg 3; whnf); repeat ((first | (with_reducible apply sT); rfl | (with_reducible apply sF); rfl | (with_reducible apply sE); rfl); conv => arg 3; whnf)))
            exact sat_ret ⟨⟨_, hi⟩, rfl, rfl, by dsimp only; decide⟩
        · have hi : i = 8 := by have := of_decide_eq_false hi; omega
          subst hi
          (conv => arg 3; whnf); repeat ((first | (with_reducible apply sT); rfl | (with_reducible apply sF); rfl | (with_reducible apply sE); rfl); conv => arg 3; whnf)
          exact sat_ret ⟨rfl, rfl, rfl⟩
      · rintro ex fr' H' ⟨rfl, rfl, rfl⟩
        rw [show o32 ⟨va, vb, vc, vd, ve, vf, vg, vh⟩ 8 = outH ⟨va, vb, vc, vd, ve, vf, vg, vh⟩ from rfl]
        (conv => arg 3; whnf); repeat ((first | (with_reducible apply sT); rfl | (with_reducible apply sF); rfl | (with_reducible apply sE); rfl); conv => arg 3; whnf)
        exact sat_ret ⟨rfl, rfl⟩
end Stk
