/- A digest's text, by the program. -/
import Derived.Test.YtidggdjonahmkaaDoorT7
namespace Stk
open Go
set_option maxRecDepth 100000
set_option linter.unusedSimpArgs false
set_option linter.unusedVariables false
set_option maxHeartbeats 8000000
def dc (n : Int) : Int := if n < 10 then 48 + n else 87 + n
abbrev digs : ByteArray := ⟨#[48, 49, 50, 51, 52, 53, 54, 55, 56, 57, 97, 98, 99, 100, 101, 102]⟩
theorem digs_at {n : Int} (h : 0 ≤ n ∧ n ≤ 15) : ((digs.data.toList.getD n.toNat 0).toNat : Int) = dc n := by
  have key : ∀ k : Fin 16, ((digs.data.toList.getD k.val 0).toNat : Int) = dc (k.val : Int) := by decide +kernel
  have := key ⟨n.toNat, by omega⟩
  simp only [Int.toNat_of_nonneg h.1] at this
  exact this
theorem and15 {b : Int} (hb : 0 ≤ b ∧ b ≤ 255) : bitsV .and .u8 b 15 = b % 16 := by
  have key : ∀ a : Fin 256, bitsV .and .u8 (a.val : Int) 15 = (a.val : Int) % 16 := by decide +kernel
  have := key ⟨b.toNat, by omega⟩
  simp only [Int.toNat_of_nonneg hb.1] at this
  exact this
theorem dc_b {n : Int} (h : 0 ≤ n ∧ n ≤ 15) : 48 ≤ dc n ∧ dc n ≤ 102 := by unfold dc; split <;> omega
/-- The text's characters. -/
def tl (hs : List Tr) (i : Nat) : List Tr := (List.range i).flatMap fun j => [u8 (dc (gw hs j / 16)), u8 (dc (gw hs j % 16))]
theorem tl_next (hs : List Tr) (i : Nat) : tl hs (i + 1) = tl hs i ++ [u8 (dc (gw hs i / 16)), u8 (dc (gw hs i % 16))] := by
  unfold tl
  rw [List.range_succ, List.flatMap_append]; rfl
theorem tl_len (hs : List Tr) : ∀ i, (tl hs i).length = 2 * i
  | 0 => rfl
  | i + 1 => by rw [tl_next, List.length_append, tl_len hs i]; rfl
theorem tl_byte (hs : List Tr) (hb : AllB hs) {i : Nat} (hi : i ≤ hs.length) : (tl hs i).all isByte = true := by
  rw [List.all_eq_true]
  intro y hy
  obtain ⟨j, hj, hy⟩ := List.mem_flatMap.1 hy
  have hj := List.mem_range.1 hj
  have g := (hb.get (show j < hs.length by omega)).2
  have d1 := dc_b (n := gw hs j / 16) (by omega)
  have d2 := dc_b (n := gw hs j % 16) (by omega)
  simp only [List.mem_cons, List.not_mem_nil, or_false] at hy
  rcases hy with rfl | rfl
  · exact decide_eq_true ⟨by omega, by omega⟩
  · exact decide_eq_true ⟨by omega, by omega⟩
def tr (hs : List Tr) (i : Nat) : List Tr := tl hs i ++ List.replicate (64 - 2 * i) (u8 0)
structure XSt where
  i : Nat
  im : i ≤ 32
theorem k_text (hs : List Tr) (hb : AllB hs) (hl : hs.length = 32) : ACalls PP GG F.sha_Text [.t (.arr 32 hs)] [] fun r H' => r = .t (.str (strOf (tl hs 32))) ∧ H' = [] := by
  refine K.sha_Text.callsC rfl ?_
  (conv => arg 3; whnf); repeat (first | ((with_reducible refine sat_brT ?_ ?_); rfl; conv => arg 3; whnf) | ((with_reducible refine sat_brF ?_ ?_); rfl; conv => arg 3; whnf) | ((with_reducible refine sat_eqv ?_ ?_); rfl; conv => arg 3; whnf))
  refine sat_asrt rfl ?_
  (conv => arg 3; whnf); repeat (first | ((with_reducible refine sat_brT ?_ ?_); rfl; conv => arg 3; whnf) | ((with_reducible refine sat_brF ?_ ?_); rfl; conv => arg 3; whnf) | ((with_reducible refine sat_eqv ?_ ?_); rfl; conv => arg 3; whnf))
  refine sat_loopOf mkX_ops (σ := XSt) (fun x => [(3, .sl 0 0 [] 0 (2 * x.i) (some 64)), (7, .t (.arr 32 hs)), (8, ti x.i)]) (fun x => [.row 1 (tr hs x.i)]) (fun x => 32 - x.i)
    (fun ex fr' H' => ex = .exit 0 ∧ fr' = [(3, .sl 0 0 [] 0 (2 * 32) (some 64))] ∧ H' = [.row 1 (tr hs 32)]) ⟨0, Nat.zero_le _⟩ ?_ ?_
  · rintro ⟨i, im⟩
    dsimp only
    refine sat_br (fun hi => ?_) (fun hi => ?_)
    · have hi : i < 32 := by have := of_decide_eq_true hi; omega
      obtain ⟨g1, g2⟩ := hb.get (show i < hs.length by omega)
      have htn := tl_next hs i
      have htl := tl_len hs i
      generalize gw hs i = x at g1 g2 htn
      have p4 : (2 : Int) ^ min (Int.toNat 4) (IntKind.bits .u8) = 16 := by decide
      have d1 := digs_at (n := x / 16) (by omega)
      have d2 := digs_at (n := x % 16) (by omega)
      have hfd : x.fdiv (2 ^ min (Int.toNat 4) (IntKind.bits .u8)) = x / 16 := by rw [p4, Int.fdiv_eq_ediv_of_nonneg _ (by decide)]
      have ha := and15 g2
      have hz : ((digs.data.size : Nat) : Int) = 16 := rfl
      (conv => arg 3; whnf); repeat (first | ((with_reducible refine sat_brT ?_ ?_); rfl; conv => arg 3; whnf) | ((with_reducible refine sat_brF ?_ ?_); rfl; conv => arg 3; whnf) | ((with_reducible refine sat_eqv ?_ ?_); rfl; conv => arg 3; whnf))
      refine sat_idx (u8 x) (by omega) (by rw [Int.toNat_natCast]; exact g1) ?_
      (conv => arg 3; whnf); repeat (first | ((with_reducible refine sat_brT ?_ ?_); rfl; conv => arg 3; whnf) | ((with_reducible refine sat_brF ?_ ?_); rfl; conv => arg 3; whnf) | ((with_reducible refine sat_eqv ?_ ?_); rfl; conv => arg 3; whnf))
      refine sat_asrt rfl ?_
      rw [hfd]
      (conv => arg 3; whnf); repeat (first | ((with_reducible refine sat_brT ?_ ?_); rfl; conv => arg 3; whnf) | ((with_reducible refine sat_brF ?_ ?_); rfl; conv => arg 3; whnf) | ((with_reducible refine sat_eqv ?_ ?_); rfl; conv => arg 3; whnf))
      refine sat_asrt (decide_eq_true ⟨by omega, by show x / 16 < 16; omega⟩) ?_
      rw [d1]
      (conv => arg 3; whnf); repeat (first | ((with_reducible refine sat_brT ?_ ?_); rfl; conv => arg 3; whnf) | ((with_reducible refine sat_brF ?_ ?_); rfl; conv => arg 3; whnf) | ((with_reducible refine sat_eqv ?_ ?_); rfl; conv => arg 3; whnf))
      rw [ha]
      refine sat_asrt (decide_eq_true ⟨by omega, by show x % 16 < 16; omega⟩) ?_
      rw [d2]
      (conv => arg 3; whnf); repeat (first | ((with_reducible refine sat_brT ?_ ?_); rfl; conv => arg 3; whnf) | ((with_reducible refine sat_brF ?_ ?_); rfl; conv => arg 3; whnf) | ((with_reducible refine sat_eqv ?_ ?_); rfl; conv => arg 3; whnf))
      rw [show List.take 2 (List.drop 0 [Tr.int IntKind.u8 (dc (x / 16)), Tr.int IntKind.u8 (dc (x % 16))]) = [u8 (dc (x / 16)), u8 (dc (x % 16))] from rfl]
      refine sat_brT (decide_eq_true (by show 2 * i + 2 ≤ 64; omega)) ?_
      (conv => arg 3; whnf); repeat (first | ((with_reducible refine sat_brT ?_ ?_); rfl; conv => arg 3; whnf) | ((with_reducible refine sat_brF ?_ ?_); rfl; conv => arg 3; whnf) | ((with_reducible refine sat_eqv ?_ ?_); rfl; conv => arg 3; whnf))
      refine sat_rng (wrap64 (by omega) (by omega)) ?_
      have hnx : over (tr hs i) (0 + 2 * i) [u8 (dc (x / 16)), u8 (dc (x % 16))] = tr hs (i + 1) := by
        unfold over tr
        rw [Nat.zero_add, List.take_append_of_le_length (by omega), List.take_of_length_le (by omega), htn, List.drop_append, htl, List.drop_eq_nil_of_le (by rw [htl]; simp), List.nil_append]
        congr 1
        rw [List.drop_replicate]
        congr 1
        simp; omega
      rw [hnx]
      exact sat_ret ⟨⟨i + 1, hi⟩, rfl, rfl, by show 32 - (i + 1) < 32 - i; omega⟩
    · have hi : i = 32 := by have := of_decide_eq_false hi; omega
      subst hi
      (conv => arg 3; whnf); repeat (first | ((with_reducible refine sat_brT ?_ ?_); rfl; conv => arg 3; whnf) | ((with_reducible refine sat_brF ?_ ?_); rfl; conv => arg 3; whnf) | ((with_reducible refine sat_eqv ?_ ?_); rfl; conv => arg 3; whnf))
      exact sat_ret ⟨rfl, rfl, rfl⟩
  · rintro ex fr' H' ⟨rfl, rfl, rfl⟩
    (conv => arg 3; whnf); repeat (first | ((with_reducible refine sat_brT ?_ ?_); rfl; conv => arg 3; whnf) | ((with_reducible refine sat_brF ?_ ?_); rfl; conv => arg 3; whnf) | ((with_reducible refine sat_eqv ?_ ?_); rfl; conv => arg 3; whnf))
    have htr : List.take (2 * 32) (List.drop 0 (tr hs 32)) = tl hs 32 := by
      unfold tr
      rw [List.drop_zero, List.take_append_of_le_length (by rw [tl_len]; omega), List.take_of_length_le (by rw [tl_len]; omega)]
    rw [htr]
    refine sat_asrt (tl_byte hs hb (by omega)) ?_
    (conv => arg 3; whnf); repeat (first | ((with_reducible refine sat_brT ?_ ?_); rfl; conv => arg 3; whnf) | ((with_reducible refine sat_brF ?_ ?_); rfl; conv => arg 3; whnf) | ((with_reducible refine sat_eqv ?_ ?_); rfl; conv => arg 3; whnf))
    exact sat_ret ⟨rfl, rfl⟩
end Stk
