/- Bytes in whole blocks, by the document. -/
import Derived.Test.YthkbahbbdacgeaaDoorT6
namespace Stk
open Go
set_option maxRecDepth 100000
set_option linter.unusedSimpArgs false
set_option linter.unusedVariables false
set_option maxHeartbeats 8000000
theorem AllB.app {X Y : List Tr} (h : AllB X) (h' : AllB Y) : AllB (X ++ Y) := fun y hy => (List.mem_append.1 hy).elim (h y) (h' y)
def sz (S : Int) : Nat → Int
  | 0 => S
  | j + 1 => (sz S j).tdiv 256
theorem sz_b {S : Int} (h : 0 ≤ S ∧ S ≤ 2 ^ 60) : ∀ j, 0 ≤ sz S j ∧ sz S j ≤ 2 ^ 60
  | 0 => h
  | j + 1 => by
    have := sz_b h j
    show 0 ≤ (sz S j).tdiv 256 ∧ (sz S j).tdiv 256 ≤ 2 ^ 60
    rw [Int.tdiv_eq_ediv_of_nonneg this.1]
    omega
def bv (S : Int) (j : Nat) : Int := IntKind.wrap .u8 ((sz S j).tmod 256)
def e8r (S : Int) (j : Nat) : List Tr := List.replicate (8 - j) (u8 0) ++ ((List.range j).map fun k => u8 (bv S (j - 1 - k)))
theorem sz_eq {S : Int} (h : 0 ≤ S ∧ S ≤ 2 ^ 60) : sz S 1 = S / 256 ∧ sz S 2 = S / 65536 ∧ sz S 3 = S / 16777216 ∧ sz S 4 = S / 4294967296 ∧ sz S 5 = S / 1099511627776 ∧ sz S 6 = S / 281474976710656 ∧ sz S 7 = S / 72057594037927936 := by
  have e1 : sz S 1 = S / 256 := by show S.tdiv 256 = _; rw [Int.tdiv_eq_ediv_of_nonneg h.1]
  have e2 : sz S 2 = S / 65536 := by show (sz S 1).tdiv 256 = _; rw [Int.tdiv_eq_ediv_of_nonneg (sz_b h 1).1, e1]; omega
  have e3 : sz S 3 = S / 16777216 := by show (sz S 2).tdiv 256 = _; rw [Int.tdiv_eq_ediv_of_nonneg (sz_b h 2).1, e2]; omega
  have e4 : sz S 4 = S / 4294967296 := by show (sz S 3).tdiv 256 = _; rw [Int.tdiv_eq_ediv_of_nonneg (sz_b h 3).1, e3]; omega
  have e5 : sz S 5 = S / 1099511627776 := by show (sz S 4).tdiv 256 = _; rw [Int.tdiv_eq_ediv_of_nonneg (sz_b h 4).1, e4]; omega
  have e6 : sz S 6 = S / 281474976710656 := by show (sz S 5).tdiv 256 = _; rw [Int.tdiv_eq_ediv_of_nonneg (sz_b h 5).1, e5]; omega
  have e7 : sz S 7 = S / 72057594037927936 := by show (sz S 6).tdiv 256 = _; rw [Int.tdiv_eq_ediv_of_nonneg (sz_b h 6).1, e6]; omega
  exact ⟨e1, e2, e3, e4, e5, e6, e7⟩
theorem bv_ev {S : Int} (h : 0 ≤ S ∧ S ≤ 2 ^ 60) {j k : Nat} {d : Int} (hd : 0 < d) (hj : sz S j = S / d) (hk : (2 : Int) ^ min (Int.toNat (56 - 8 * (k : Int))) (IntKind.bits .u64) = d) : bv S j = ev S k := by
  unfold bv ev
  rw [hk, hj, Int.fdiv_eq_ediv_of_nonneg _ (by omega), Int.tmod_eq_emod_of_nonneg (Int.ediv_nonneg h.1 (by omega)), IntKind.wrap_u8, IntKind.wrap_u8]
  omega
theorem e8r_eq {S : Int} (h : 0 ≤ S ∧ S ≤ 2 ^ 60) : e8r S 8 = e8 S := by
  obtain ⟨e1, e2, e3, e4, e5, e6, e7⟩ := sz_eq h
  have e0 : sz S 0 = S / 1 := (Int.ediv_one S).symm
  show [u8 (bv S 7), u8 (bv S 6), u8 (bv S 5), u8 (bv S 4), u8 (bv S 3), u8 (bv S 2), u8 (bv S 1), u8 (bv S 0)] = _
  rw [bv_ev h (k := 0) (by omega) e7 (by decide), bv_ev h (k := 1) (by omega) e6 (by decide), bv_ev h (k := 2) (by omega) e5 (by decide), bv_ev h (k := 3) (by omega) e4 (by decide),
    bv_ev h (k := 4) (by omega) e3 (by decide), bv_ev h (k := 5) (by omega) e2 (by decide), bv_ev h (k := 6) (by omega) e1 (by decide), bv_ev h (k := 7) (by omega) e0 (by decide)]
  rfl
structure VSt (L : List Tr) where
  i : Nat
  M : List Tr
  im : i ≤ padz (L.length % 64)
  e : M = L ++ [u8 128] ++ List.replicate i (u8 0)
structure JSt8 where
  j : Nat
  im : j ≤ 8
theorem r_whole (L : List Tr) (hl : L.length ≤ 2 ^ 45) : ACalls PP GG F.ref17_whole [.bz 1 L] [] fun r H' => r = .sl 0 0 [] 0 (pad L).length none ∧ H' = [.row 1 (pad L)] := by
  refine K.ref17_whole.callsC rfl ?_
  (conv => arg 3; whnf); repeat ((first | (with_reducible apply sT); rfl | (with_reducible apply sF); rfl | (with_reducible apply sE); rfl); conv => arg 3; whnf)
  refine sat_asrt (by simp) ?_
  refine sat_asrt (by simp [roomy]; omega) ?_
  refine sat_brT rfl ?_
  (conv => arg 3; whnf); repeat ((first | (with_reducible apply sT); rfl | (with_reducible apply sF); rfl | (with_reducible apply sE); rfl); conv => arg 3; whnf)
  rw [List.nil_append, show List.take 1 (List.drop 0 [Tr.int IntKind.u8 128]) = [u8 128] from rfl]
  refine sat_asrt (by simp) ?_
  refine sat_asrt (by simp [roomy]; omega) ?_
  refine sat_brT (Nat.beq_refl _) ?_
  (conv => arg 3; whnf); repeat ((first | (with_reducible apply sT); rfl | (with_reducible apply sF); rfl | (with_reducible apply sE); rfl); conv => arg 3; whnf)
  refine sat_loopOf mkX_ops (σ := VSt L) (fun s => [(0, .bz 1 L), (3, .sl 0 0 [] 0 s.M.length none)]) (fun s => [.row 1 s.M]) (fun s => padz (L.length % 64) - s.i)
    (fun ex fr' H' => ex = .exit 0 ∧ ∃ M, fr' = [(0, .bz 1 L), (3, .sl 0 0 [] 0 M.length none)] ∧ M = L ++ [u8 128] ++ List.replicate (padz (L.length % 64)) (u8 0) ∧ H' = [.row 1 M]) ⟨0, L ++ [u8 128], Nat.zero_le _, by rw [List.replicate_zero, List.append_nil]⟩ ?_ ?_
  · rintro ⟨i, M, im, hM⟩
    dsimp only
    have hMl : M.length = L.length + 1 + i := by rw [hM]; simp; omega
    have hz : padz (L.length % 64) = (119 - L.length % 64) % 64 := rfl
    have hta : Int.tmod (M.length : Int) 64 = ((M.length % 64 : Nat) : Int) := by rw [Int.tmod_eq_emod_of_nonneg (by omega)]; omega
    (conv => arg 3; whnf); repeat ((first | (with_reducible apply sT); rfl | (with_reducible apply sF); rfl | (with_reducible apply sE); rfl); conv => arg 3; whnf)
    refine sat_asrt rfl ?_
    rw [hta]
    (conv => arg 3; whnf); repeat ((first | (with_reducible apply sT); rfl | (with_reducible apply sF); rfl | (with_reducible apply sE); rfl); conv => arg 3; whnf)
    refine sat_br (fun hq => ?_) (fun hq => ?_)
    · have hq := bne_iff_ne.1 hq
      have hlt : i < padz (L.length % 64) := by omega
      (conv => arg 3; whnf); repeat ((first | (with_reducible apply sT); rfl | (with_reducible apply sF); rfl | (with_reducible apply sE); rfl); conv => arg 3; whnf)
      rw [show List.take 1 (List.drop 0 [Tr.int IntKind.u8 0]) = [u8 0] from rfl]
      refine sat_asrt (by simp) ?_
      refine sat_asrt (by simp [roomy]; omega) ?_
      refine sat_brT (Nat.beq_refl _) ?_
      (conv => arg 3; whnf); repeat ((first | (with_reducible apply sT); rfl | (with_reducible apply sF); rfl | (with_reducible apply sE); rfl); conv => arg 3; whnf)
      refine sat_ret ⟨⟨i + 1, M ++ [u8 0], hlt, by rw [hM, List.replicate_succ', List.append_assoc, List.append_assoc]⟩, ?_, ?_, by show padz (L.length % 64) - (i + 1) < padz (L.length % 64) - i; omega⟩
      · simp only [List.length_append]; rfl
      · rfl
    · have hq : ((M.length % 64 : Nat) : Int) = 56 := by simpa using hq
      have : i = padz (L.length % 64) := by omega
      subst this
      (conv => arg 3; whnf); repeat ((first | (with_reducible apply sT); rfl | (with_reducible apply sF); rfl | (with_reducible apply sE); rfl); conv => arg 3; whnf)
      exact sat_ret ⟨rfl, M, rfl, hM, rfl⟩
  · rintro ex fr' H' ⟨rfl, M, rfl, hM, rfl⟩
    have hMl : M.length = L.length + 1 + padz (L.length % 64) := by rw [hM]; simp; omega
    have hz : padz (L.length % 64) = (119 - L.length % 64) % 64 := rfl
    have hS : 0 ≤ 8 * (L.length : Int) ∧ 8 * (L.length : Int) ≤ 2 ^ 60 := by omega
    have hpad : pad L = M ++ e8r (8 * (L.length : Int)) 8 := by unfold pad; rw [hM, e8r_eq hS]
    have hlw : IntKind.wrap .u64 (L.length : Int) = L.length := by rw [IntKind.wrap_u64]; omega
    have hSw : IntKind.wrap .u64 (8 * (L.length : Int)) = 8 * (L.length : Int) := by rw [IntKind.wrap_u64]; omega
    rw [hpad]
    (conv => arg 3; whnf); repeat ((first | (with_reducible apply sT); rfl | (with_reducible apply sF); rfl | (with_reducible apply sE); rfl); conv => arg 3; whnf)
    refine sat_rng hlw ?_
    (conv => arg 3; whnf); repeat ((first | (with_reducible apply sT); rfl | (with_reducible apply sF); rfl | (with_reducible apply sE); rfl); conv => arg 3; whnf)
    refine sat_rng hSw ?_
    clear hpad hM hlw hSw
    generalize 8 * (L.length : Int) = S at hS ⊢
    (conv => arg 3; whnf); repeat ((first | (with_reducible apply sT); rfl | (with_reducible apply sF); rfl | (with_reducible apply sE); rfl); conv => arg 3; whnf)
    refine sat_loopOf mkX_ops (σ := JSt8) (fun s => [(3, .sl 0 0 [] 0 M.length none), (4, tu (sz S s.j)), (5, pt 1), (6, ti (7 - (s.j : Int)))]) (fun s => [.row 1 M, .var (.t (.arr 8 (e8r S s.j)))]) (fun s => 8 - s.j)
      (fun ex fr' H' => ex = .exit 2 ∧ fr' = [(3, .sl 0 0 [] 0 M.length none), (5, pt 1)] ∧ H' = [.row 1 M, .var (.t (.arr 8 (e8r S 8)))]) ⟨0, Nat.zero_le _⟩ ?_ ?_
    · rintro ⟨j, jm⟩
      dsimp only
      refine sat_br (fun hj => ?_) (fun hj => ?_)
      · have hj : j < 8 := by have := of_decide_eq_true hj; omega
        have hb := sz_b hS j
        have hw : IntKind.wrap .u64 ((sz S j).tdiv 256) = (sz S j).tdiv 256 := by
          rw [Int.tdiv_eq_ediv_of_nonneg hb.1, IntKind.wrap_u64]; omega
        have h8 : j = 0 ∨ j = 1 ∨ j = 2 ∨ j = 3 ∨ j = 4 ∨ j = 5 ∨ j = 6 ∨ j = 7 := by omega
        rcases h8 with rfl | rfl | rfl | rfl | rfl | rfl | rfl | rfl
        all_goals
          (conv => arg 3; whnf); repeat ((first | (with_reducible apply sT); rfl | (with_reducible apply sF); rfl | (with_reducible apply sE); rfl); conv => arg 3; whnf)
          repeat (first | ((with_reducible refine sat_rng hw ?_); (conv => arg 3; whnf); repeat ((first | (with_reducible apply sT); rfl | (with_reducible apply sF); rfl | (with_reducible apply sE); rfl); conv => arg 3; whnf)) | ((with_reducible refine sat_rng ?_ ?_); (exact wrap64 (by omega) (by omega)); (conv => arg 3; whnf); repeat ((first | (with_reducible apply sT); rfl | (with_reducible apply sF); rfl | (with_reducible apply sE); rfl); conv => arg 3; whnf)) | ((with_reducible refine sat_asrt ?_ ?_); rfl; (conv => arg 3; whnf); repeat ((first | (with_reducible apply sT); rfl | (with_reducible apply sF); rfl | (with_reducible apply sE); rfl); conv => arg 3; whnf)) | ((with_reducible refine sat_rngw ?_); (conv => arg 3; whnf); repeat ((first | (with_reducible apply sT); rfl | (with_reducible apply sF); rfl | (with_reducible apply sE); rfl); conv => arg 3; whnf)))
          exact sat_ret ⟨⟨_, hj⟩, rfl, rfl, by dsimp only; decide⟩
      · have hj : j = 8 := by have := of_decide_eq_false hj; omega
        subst hj
        (conv => arg 3; whnf); repeat ((first | (with_reducible apply sT); rfl | (with_reducible apply sF); rfl | (with_reducible apply sE); rfl); conv => arg 3; whnf)
        exact sat_ret ⟨rfl, rfl, rfl⟩
    · rintro ex fr' H' ⟨rfl, rfl, rfl⟩
      have hel : (e8r S 8).length = 8 := rfl
      generalize e8r S 8 = E at hel ⊢
      (conv => arg 3; whnf); repeat ((first | (with_reducible apply sT); rfl | (with_reducible apply sF); rfl | (with_reducible apply sE); rfl); conv => arg 3; whnf)
      refine sat_asrt (decide_eq_true (by omega)) ?_
      rw [show (8 - 0 : Nat) = 8 from rfl, List.drop_zero, List.take_of_length_le (by omega)]
      (conv => arg 3; whnf); repeat ((first | (with_reducible apply sT); rfl | (with_reducible apply sF); rfl | (with_reducible apply sE); rfl); conv => arg 3; whnf)
      refine sat_asrt (by simp) ?_
      refine sat_asrt (by simp [roomy]; omega) ?_
      refine sat_brT (Nat.beq_refl _) ?_
      (conv => arg 3; whnf); repeat ((first | (with_reducible apply sT); rfl | (with_reducible apply sF); rfl | (with_reducible apply sE); rfl); conv => arg 3; whnf)
      exact sat_ret ⟨by rw [List.length_append], rfl⟩
end Stk
