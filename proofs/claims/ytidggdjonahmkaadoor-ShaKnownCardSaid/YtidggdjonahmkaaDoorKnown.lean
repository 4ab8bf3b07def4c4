/- Digests that New did not make; the rows. -/
import Derived.Test.YtidggdjonahmkaaDoorK4
namespace Stk
open Go
set_option maxRecDepth 100000
set_option linter.unusedSimpArgs false
set_option linter.unusedVariables false
set_option maxHeartbeats 8000000
abbrev zD : Tr := .agg [.bool false, .arr 8 (List.replicate 8 (w32 0)), .arr 64 (List.replicate 64 (u8 0)), .int .u64 0]
theorem n_sum : ACalls PP GG F.sha_Digest_Sum [.t .nilp] [] fun r H' => r = .tup [.t (.arr 32 (List.replicate 32 (u8 0))), ti 2] ∧ H' = [] := by
  refine K.sha_Digest_Sum.callsC rfl ?_
  (conv => arg 3; whnf); repeat (first | ((with_reducible refine sat_brT ?_ ?_); rfl; conv => arg 3; whnf) | ((with_reducible refine sat_brF ?_ ?_); rfl; conv => arg 3; whnf) | ((with_reducible refine sat_eqv ?_ ?_); rfl; conv => arg 3; whnf))
  exact sat_ret ⟨rfl, rfl⟩
theorem z_sum : ACalls PP GG F.sha_Digest_Sum [pt 0] [.var (.t zD)] fun r H' => r = .tup [.t (.arr 32 (List.replicate 32 (u8 0))), ti 2] ∧ H' = [.var (.t zD)] := by
  refine K.sha_Digest_Sum.callsC rfl ?_
  (conv => arg 3; whnf); repeat (first | ((with_reducible refine sat_brT ?_ ?_); rfl; conv => arg 3; whnf) | ((with_reducible refine sat_brF ?_ ?_); rfl; conv => arg 3; whnf) | ((with_reducible refine sat_eqv ?_ ?_); rfl; conv => arg 3; whnf))
  exact sat_ret ⟨rfl, rfl⟩
theorem n_write (L : List Tr) : ACalls PP GG F.sha_Digest_Write [.t .nilp, .bz 1 L] [] fun r H' => r = ti 2 ∧ H' = [] := by
  refine K.sha_Digest_Write.callsC rfl ?_
  (conv => arg 3; whnf); repeat (first | ((with_reducible refine sat_brT ?_ ?_); rfl; conv => arg 3; whnf) | ((with_reducible refine sat_brF ?_ ?_); rfl; conv => arg 3; whnf) | ((with_reducible refine sat_eqv ?_ ?_); rfl; conv => arg 3; whnf))
  exact sat_ret ⟨rfl, rfl⟩
theorem z_write (L : List Tr) : ACalls PP GG F.sha_Digest_Write [pt 0, .bz 1 L] [.var (.t zD)] fun r H' => r = ti 2 ∧ H' = [.var (.t zD)] := by
  refine K.sha_Digest_Write.callsC rfl ?_
  (conv => arg 3; whnf); repeat (first | ((with_reducible refine sat_brT ?_ ?_); rfl; conv => arg 3; whnf) | ((with_reducible refine sat_brF ?_ ?_); rfl; conv => arg 3; whnf) | ((with_reducible refine sat_eqv ?_ ?_); rfl; conv => arg 3; whnf))
  exact sat_ret ⟨rfl, rfl⟩
theorem n_copy : ACalls PP GG F.sha_Digest_Copy [.t .nilp] [] fun r H' => r = .t .nilp ∧ H' = [] := by
  refine K.sha_Digest_Copy.callsC rfl ?_
  (conv => arg 3; whnf); repeat (first | ((with_reducible refine sat_brT ?_ ?_); rfl; conv => arg 3; whnf) | ((with_reducible refine sat_brF ?_ ?_); rfl; conv => arg 3; whnf) | ((with_reducible refine sat_eqv ?_ ?_); rfl; conv => arg 3; whnf))
  exact sat_ret ⟨rfl, rfl⟩
theorem z_copy : ACalls PP GG F.sha_Digest_Copy [pt 0] [.var (.t zD)] fun r H' => r = .t .nilp ∧ H' = [.var (.t zD)] := by
  refine K.sha_Digest_Copy.callsC rfl ?_
  (conv => arg 3; whnf); repeat (first | ((with_reducible refine sat_brT ?_ ?_); rfl; conv => arg 3; whnf) | ((with_reducible refine sat_brF ?_ ?_); rfl; conv => arg 3; whnf) | ((with_reducible refine sat_eqv ?_ ?_); rfl; conv => arg 3; whnf))
  exact sat_ret ⟨rfl, rfl⟩
abbrev bsOf (s : ByteArray) : List Tr := s.data.toList.map byteT
theorem bsOf_b (s : ByteArray) : AllB (bsOf s) := fun y hy => by
  obtain ⟨b, _, rfl⟩ := List.mem_map.1 hy
  exact ⟨b.toNat, rfl, by omega, by have := b.toNat_lt; omega⟩
structure RowK (y : Tr) : Prop where
  h : ∃ s d, y = .arr 2 [.str s, .str d] ∧ strOf (tl (shaL (bsOf s)) 32) = d ∧ (bsOf s).length ≤ 2 ^ 48
def str0 : ByteArray := ⟨#[]⟩
abbrev rowsK : List Tr := [
  .arr 2 [.str ⟨#[]⟩, .str ⟨#[101, 51, 98, 48, 99, 52, 52, 50, 57, 56, 102, 99, 49, 99, 49, 52, 57, 97, 102, 98, 102, 52, 99, 56, 57, 57, 54, 102, 98, 57, 50, 52, 50, 55, 97, 101, 52, 49, 101, 52, 54, 52, 57, 98, 57, 51, 52, 99, 97, 52, 57, 53, 57, 57, 49, 98, 55, 56, 53, 50, 98, 56, 53, 53]⟩],
  .arr 2 [.str ⟨#[97, 98, 99]⟩, .str ⟨#[98, 97, 55, 56, 49, 54, 98, 102, 56, 102, 48, 49, 99, 102, 101, 97, 52, 49, 52, 49, 52, 48, 100, 101, 53, 100, 97, 101, 50, 50, 50, 51, 98, 48, 48, 51, 54, 49, 97, 51, 57, 54, 49, 55, 55, 97, 57, 99, 98, 52, 49, 48, 102, 102, 54, 49, 102, 50, 48, 48, 49, 53, 97, 100]⟩],
  .arr 2 [.str ⟨#[97, 98, 99, 100, 98, 99, 100, 101, 99, 100, 101, 102, 100, 101, 102, 103, 101, 102, 103, 104, 102, 103, 104, 105, 103, 104, 105, 106, 104, 105, 106, 107, 105, 106, 107, 108, 106, 107, 108, 109, 107, 108, 109, 110, 108, 109, 110, 111, 109, 110, 111, 112, 110, 111, 112, 113]⟩, .str ⟨#[50, 52, 56, 100, 54, 97, 54, 49, 100, 50, 48, 54, 51, 56, 98, 56, 101, 53, 99, 48, 50, 54, 57, 51, 48, 99, 51, 101, 54, 48, 51, 57, 97, 51, 51, 99, 101, 52, 53, 57, 54, 52, 102, 102, 50, 49, 54, 55, 102, 54, 101, 99, 101, 100, 100, 52, 49, 57, 100, 98, 48, 54, 99, 49]⟩]]
theorem rowsK_ok : ∀ y ∈ rowsK, RowK y := by
  intro y hy
  simp only [List.mem_cons, List.not_mem_nil, or_false] at hy
  rcases hy with rfl | rfl | rfl
  · exact ⟨_, _, rfl, by decide +kernel, by decide⟩
  · exact ⟨_, _, rfl, by decide +kernel, by decide⟩
  · exact ⟨_, _, rfl, by decide +kernel, by decide⟩
theorem bad1 : good (abcS.extract 0 63) = false := by decide +kernel
theorem bad2 : good (abcS.extract 0 63 ++ ⟨#[68]⟩) = false := by decide +kernel
theorem bad3 : good ⟨#[98, 97, 55, 56, 49, 54, 98, 102, 56, 102, 48, 49, 99, 102, 101, 97, 52, 49, 52, 49, 52, 48, 100, 101, 53, 100, 97, 101, 50, 50, 50, 51, 98, 48, 48, 51, 54, 49, 97, 51, 57, 54, 49, 55, 55, 97, 57, 99, 98, 52, 49, 48, 102, 102, 54, 49, 102, 50, 48, 48, 49, 53, 97, 100, 48]⟩ = false := by decide +kernel
theorem k_bad {s : ByteArray} (h : good s = false) : ACalls PP GG F.sha_Parse [.t (.str s)] [] fun r H' => r = .tup [.t (.arr 32 (List.replicate 32 (u8 0))), ti 5] ∧ H' = [] := by
  have := k_parse s
  rw [show parse s = (List.replicate 32 (u8 0), 5) by unfold parse; rw [if_neg (by rw [h]; decide)]] at this
  exact this
end Stk
namespace Stk
open Go
set_option maxRecDepth 100000
set_option linter.unusedSimpArgs false
set_option linter.unusedVariables false
set_option maxHeartbeats 8000000
structure R3St where
  i : Nat
  im : i ≤ 3
structure MaSt where
  i : Nat
  im : i ≤ 1000
  xs : List Tr
  e : xs = List.replicate i (u8 97) ++ List.replicate (1000 - i) (u8 0)
structure DaSt where
  i : Nat
  im : i ≤ 1000
  A : List Tr
  wt : List Tr
  e : A = List.replicate (1000 * i) (u8 97)
  di : DI A wt
structure R2St where
  i : Nat
  im : i ≤ 2
theorem l_known : ACalls PP GG F.law17_ShaKnown (toAVs []) [] fun r _ => r = .t (.bool true) := by
  refine K.law17_ShaKnown.callsC rfl ?_
  (conv => arg 3; whnf); repeat (first | ((with_reducible refine sat_brT ?_ ?_); rfl; conv => arg 3; whnf) | ((with_reducible refine sat_brF ?_ ?_); rfl; conv => arg 3; whnf) | ((with_reducible refine sat_eqv ?_ ?_); rfl; conv => arg 3; whnf))
  refine sat_loopOf mkX_ops (σ := R3St) (fun s => [(22, .sl 0 0 [] 0 3 (some 3)), (23, ti 3), (24, ti s.i)]) (fun s => [.row 2 rowsK]) (fun s => 3 - s.i)
    (fun ex fr' H' => ex = .exit 0 ∧ fr' = [(0, .undef)] ∧ H' = [.row 2 rowsK]) ⟨0, Nat.zero_le _⟩ ?_ ?_
  · rintro ⟨i, im⟩
    dsimp only
    refine sat_br (fun hi => ?_) (fun hi => ?_)
    rotate_left
    · (conv => arg 3; whnf); repeat (first | ((with_reducible refine sat_brT ?_ ?_); rfl; conv => arg 3; whnf) | ((with_reducible refine sat_brF ?_ ?_); rfl; conv => arg 3; whnf) | ((with_reducible refine sat_eqv ?_ ?_); rfl; conv => arg 3; whnf))
      exact sat_ret ⟨rfl, rfl, rfl⟩
    have hi : i < 3 := by have := of_decide_eq_true hi; omega
    have hlen : rowsK.length = 3 := rfl
    obtain ⟨s, d, hy, ht, hl⟩ := (rowsK_ok _ (List.getElem_mem (show i < rowsK.length by omega))).h
    have hg : rowsK[i]? = some (.arr 2 [.str s, .str d]) := by rw [List.getElem?_eq_getElem (by omega), hy]
    have hb := bsOf_b s
    generalize rowsK = XS at hg hlen ⊢
    (conv => arg 3; whnf); repeat (first | ((with_reducible refine sat_brT ?_ ?_); rfl; conv => arg 3; whnf) | ((with_reducible refine sat_brF ?_ ?_); rfl; conv => arg 3; whnf) | ((with_reducible refine sat_eqv ?_ ?_); rfl; conv => arg 3; whnf))
    refine sat_asrt (decide_eq_true (by omega)) ?_
    (conv => arg 3; whnf); repeat (first | ((with_reducible refine sat_brT ?_ ?_); rfl; conv => arg 3; whnf) | ((with_reducible refine sat_brF ?_ ?_); rfl; conv => arg 3; whnf) | ((with_reducible refine sat_eqv ?_ ?_); rfl; conv => arg 3; whnf))
    refine sat_idx _ (by simp) (by simpa using hg) ?_
    (conv => arg 3; whnf); repeat (first | ((with_reducible refine sat_brT ?_ ?_); rfl; conv => arg 3; whnf) | ((with_reducible refine sat_brF ?_ ?_); rfl; conv => arg 3; whnf) | ((with_reducible refine sat_eqv ?_ ?_); rfl; conv => arg 3; whnf))
    have ks := k_sum (bsOf s) hb hl
    have kt := k_text (shaL (bsOf s)) (sha_b _) (sha_len _)
    rw [ht] at kt
    generalize shaL (bsOf s) = D at ks kt
    repeat (first | (refine sat_asrt rfl ?_; (conv => arg 3; whnf); repeat (first | ((with_reducible refine sat_brT ?_ ?_); rfl; conv => arg 3; whnf) | ((with_reducible refine sat_brF ?_ ?_); rfl; conv => arg 3; whnf) | ((with_reducible refine sat_eqv ?_ ?_); rfl; conv => arg 3; whnf))) | (refine sat_idx (.str s) (by decide) rfl ?_; (conv => arg 3; whnf); repeat (first | ((with_reducible refine sat_brT ?_ ?_); rfl; conv => arg 3; whnf) | ((with_reducible refine sat_brF ?_ ?_); rfl; conv => arg 3; whnf) | ((with_reducible refine sat_eqv ?_ ?_); rfl; conv => arg 3; whnf))) | (refine sat_idx (.str d) (by decide) rfl ?_; (conv => arg 3; whnf); repeat (first | ((with_reducible refine sat_brT ?_ ?_); rfl; conv => arg 3; whnf) | ((with_reducible refine sat_brF ?_ ?_); rfl; conv => arg 3; whnf) | ((with_reducible refine sat_eqv ?_ ?_); rfl; conv => arg 3; whnf))))
    rw [List.drop_zero, List.take_length]
    refine sat_call ks ?_
    rintro r H' ⟨rfl, rfl⟩
    (conv => arg 3; whnf); repeat (first | ((with_reducible refine sat_brT ?_ ?_); rfl; conv => arg 3; whnf) | ((with_reducible refine sat_brF ?_ ?_); rfl; conv => arg 3; whnf) | ((with_reducible refine sat_eqv ?_ ?_); rfl; conv => arg 3; whnf))
    repeat (first | (refine sat_asrt rfl ?_; (conv => arg 3; whnf); repeat (first | ((with_reducible refine sat_brT ?_ ?_); rfl; conv => arg 3; whnf) | ((with_reducible refine sat_brF ?_ ?_); rfl; conv => arg 3; whnf) | ((with_reducible refine sat_eqv ?_ ?_); rfl; conv => arg 3; whnf))) | (refine sat_idx (.str s) (by decide) rfl ?_; (conv => arg 3; whnf); repeat (first | ((with_reducible refine sat_brT ?_ ?_); rfl; conv => arg 3; whnf) | ((with_reducible refine sat_brF ?_ ?_); rfl; conv => arg 3; whnf) | ((with_reducible refine sat_eqv ?_ ?_); rfl; conv => arg 3; whnf))) | (refine sat_idx (.str d) (by decide) rfl ?_; (conv => arg 3; whnf); repeat (first | ((with_reducible refine sat_brT ?_ ?_); rfl; conv => arg 3; whnf) | ((with_reducible refine sat_brF ?_ ?_); rfl; conv => arg 3; whnf) | ((with_reducible refine sat_eqv ?_ ?_); rfl; conv => arg 3; whnf))))
    refine sat_call kt ?_
    rintro r H' ⟨rfl, rfl⟩
    (conv => arg 3; whnf); repeat (first | ((with_reducible refine sat_brT ?_ ?_); rfl; conv => arg 3; whnf) | ((with_reducible refine sat_brF ?_ ?_); rfl; conv => arg 3; whnf) | ((with_reducible refine sat_eqv ?_ ?_); rfl; conv => arg 3; whnf))
    repeat (first | (refine sat_asrt rfl ?_; (conv => arg 3; whnf); repeat (first | ((with_reducible refine sat_brT ?_ ?_); rfl; conv => arg 3; whnf) | ((with_reducible refine sat_brF ?_ ?_); rfl; conv => arg 3; whnf) | ((with_reducible refine sat_eqv ?_ ?_); rfl; conv => arg 3; whnf))) | (refine sat_idx (.str s) (by decide) rfl ?_; (conv => arg 3; whnf); repeat (first | ((with_reducible refine sat_brT ?_ ?_); rfl; conv => arg 3; whnf) | ((with_reducible refine sat_brF ?_ ?_); rfl; conv => arg 3; whnf) | ((with_reducible refine sat_eqv ?_ ?_); rfl; conv => arg 3; whnf))) | (refine sat_idx (.str d) (by decide) rfl ?_; (conv => arg 3; whnf); repeat (first | ((with_reducible refine sat_brT ?_ ?_); rfl; conv => arg 3; whnf) | ((with_reducible refine sat_brF ?_ ?_); rfl; conv => arg 3; whnf) | ((with_reducible refine sat_eqv ?_ ?_); rfl; conv => arg 3; whnf))))
    refine sat_brF (by simp) ?_
    (conv => arg 3; whnf); repeat (first | ((with_reducible refine sat_brT ?_ ?_); rfl; conv => arg 3; whnf) | ((with_reducible refine sat_brF ?_ ?_); rfl; conv => arg 3; whnf) | ((with_reducible refine sat_eqv ?_ ?_); rfl; conv => arg 3; whnf))
    refine sat_rng (wrap64 (by omega) (by omega)) ?_
    exact sat_ret ⟨⟨i + 1, hi⟩, rfl, rfl, by show 3 - (i + 1) < 3 - i; omega⟩
  · rintro ex fr' H' ⟨rfl, rfl, rfl⟩
    generalize rowsK = XS
    (conv => arg 3; whnf); repeat (first | ((with_reducible refine sat_brT ?_ ?_); rfl; conv => arg 3; whnf) | ((with_reducible refine sat_brF ?_ ?_); rfl; conv => arg 3; whnf) | ((with_reducible refine sat_eqv ?_ ?_); rfl; conv => arg 3; whnf))
    refine sat_asrt (by decide) ?_
    (conv => arg 3; whnf); repeat (first | ((with_reducible refine sat_brT ?_ ?_); rfl; conv => arg 3; whnf) | ((with_reducible refine sat_brF ?_ ?_); rfl; conv => arg 3; whnf) | ((with_reducible refine sat_eqv ?_ ?_); rfl; conv => arg 3; whnf))
    refine sat_loopOf mkX_ops (σ := MaSt) (fun s => [(3, .sl 0 0 [] 0 1000 (some 1000)), (4, ti s.i)]) (fun s => [.row 1 s.xs]) (fun s => 1000 - s.i)
      (fun ex fr' H' => ex = .exit 2 ∧ fr' = [(3, .sl 0 0 [] 0 1000 (some 1000))] ∧ H' = [.row 1 (List.replicate 1000 (u8 97))]) ⟨0, Nat.zero_le _, List.replicate (Int.toNat 1000) (Tr.int .u8 0), rfl⟩ ?_ ?_
    · rintro ⟨i, im, xs, hxs⟩
      dsimp only
      refine sat_br (fun hi => ?_) (fun hi => ?_)
      rotate_left
      · have hi : i = 1000 := by have := of_decide_eq_false hi; omega
        subst hi
        rw [show 1000 - 1000 = 0 from rfl, List.replicate_zero, List.append_nil] at hxs
        subst hxs
        (conv => arg 3; whnf); repeat (first | ((with_reducible refine sat_brT ?_ ?_); rfl; conv => arg 3; whnf) | ((with_reducible refine sat_brF ?_ ?_); rfl; conv => arg 3; whnf) | ((with_reducible refine sat_eqv ?_ ?_); rfl; conv => arg 3; whnf))
        exact sat_ret ⟨rfl, rfl, rfl⟩
      have hi : i < 1000 := by have := of_decide_eq_true hi; omega
      have hxl : xs.length = 1000 := by rw [hxs, List.length_append, List.length_replicate, List.length_replicate]; omega
      have hxi : xs[i]? = some (u8 0) := by
        rw [hxs, List.getElem?_append_right (by rw [List.length_replicate]; omega), List.length_replicate, Nat.sub_self, List.getElem?_replicate, if_pos (by omega)]
      have hnx : xs.set i (u8 97) = List.replicate (i + 1) (u8 97) ++ List.replicate (1000 - (i + 1)) (u8 0) := by
        rw [hxs, List.set_append_right _ _ (by rw [List.length_replicate]; omega), List.length_replicate, Nat.sub_self, show 1000 - i = (1000 - (i + 1)) + 1 by omega, List.replicate_succ]
        rw [List.replicate_succ', List.append_assoc]
        rfl
      (conv => arg 3; whnf); repeat (first | ((with_reducible refine sat_brT ?_ ?_); rfl; conv => arg 3; whnf) | ((with_reducible refine sat_brF ?_ ?_); rfl; conv => arg 3; whnf) | ((with_reducible refine sat_eqv ?_ ?_); rfl; conv => arg 3; whnf))
      refine sat_asrt (decide_eq_true (by omega)) ?_
      (conv => arg 3; whnf); repeat (first | ((with_reducible refine sat_brT ?_ ?_); rfl; conv => arg 3; whnf) | ((with_reducible refine sat_brF ?_ ?_); rfl; conv => arg 3; whnf) | ((with_reducible refine sat_eqv ?_ ?_); rfl; conv => arg 3; whnf))
      refine sat_idx (u8 0) (by simp) (by simpa using hxi) ?_
      (conv => arg 3; whnf); repeat (first | ((with_reducible refine sat_brT ?_ ?_); rfl; conv => arg 3; whnf) | ((with_reducible refine sat_brF ?_ ?_); rfl; conv => arg 3; whnf) | ((with_reducible refine sat_eqv ?_ ?_); rfl; conv => arg 3; whnf))
      refine sat_rng (wrap64 (by omega) (by omega)) ?_
      (conv => arg 3; whnf); repeat (first | ((with_reducible refine sat_brT ?_ ?_); rfl; conv => arg 3; whnf) | ((with_reducible refine sat_brF ?_ ?_); rfl; conv => arg 3; whnf) | ((with_reducible refine sat_eqv ?_ ?_); rfl; conv => arg 3; whnf))
      refine sat_ret ⟨⟨i + 1, hi, xs.set i (u8 97), hnx⟩, rfl, ?_, by show 1000 - (i + 1) < 1000 - i; omega⟩
      rw [Int.toNat_natCast, Nat.zero_add]
    · rintro ex fr' H' ⟨rfl, rfl, rfl⟩
      have hbm : AllB (List.replicate 1000 (u8 97)) := fun y hy => ⟨97, List.eq_of_mem_replicate hy, by omega, by omega⟩
      have hlm : (List.replicate 1000 (u8 97)).length = 1000 := List.length_replicate
      have hrep : ∀ i, List.replicate (1000 * i) (u8 97) ++ List.replicate 1000 (u8 97) = List.replicate (1000 * (i + 1)) (u8 97) := fun i => by
        rw [List.replicate_append_replicate]; rfl
      generalize List.replicate 1000 (u8 97) = ML at hbm hlm hrep ⊢
      (conv => arg 3; whnf); repeat (first | ((with_reducible refine sat_brT ?_ ?_); rfl; conv => arg 3; whnf) | ((with_reducible refine sat_brF ?_ ?_); rfl; conv => arg 3; whnf) | ((with_reducible refine sat_eqv ?_ ?_); rfl; conv => arg 3; whnf))
      refine sat_call k_new ?_
      rintro r H' ⟨rfl, rfl⟩
      (conv => arg 3; whnf); repeat (first | ((with_reducible refine sat_brT ?_ ?_); rfl; conv => arg 3; whnf) | ((with_reducible refine sat_brF ?_ ?_); rfl; conv => arg 3; whnf) | ((with_reducible refine sat_eqv ?_ ?_); rfl; conv => arg 3; whnf))
      refine sat_loopOf mkX_ops (σ := DaSt) (fun s => [(3, .sl 0 0 [] 0 1000 (some 1000)), (5, pt 1), (6, ti s.i)]) (fun s => [.row 1 ML, .var (.t (dG s.A s.wt))]) (fun s => 1000 - s.i)
        (fun ex fr' H' => ex = .exit 4 ∧ ∃ A wt, A = List.replicate (1000 * 1000) (u8 97) ∧ DI A wt ∧ fr' = [(3, .sl 0 0 [] 0 1000 (some 1000)), (5, pt 1)] ∧ H' = [.row 1 ML, .var (.t (dG A wt))]) ⟨0, Nat.zero_le _, [], w0, rfl, di0⟩ ?_ ?_
      · rintro ⟨i, im, A, wt, hA, di⟩
        dsimp only
        (conv => arg 3; whnf); repeat (first | ((with_reducible refine sat_brT ?_ ?_); rfl; conv => arg 3; whnf) | ((with_reducible refine sat_brF ?_ ?_); rfl; conv => arg 3; whnf) | ((with_reducible refine sat_eqv ?_ ?_); rfl; conv => arg 3; whnf))
        refine sat_br (fun hi => ?_) (fun hi => ?_)
        rotate_left
        · have hi : i = 1000 := by have := of_decide_eq_false hi; omega
          subst hi
          (conv => arg 3; whnf); repeat (first | ((with_reducible refine sat_brT ?_ ?_); rfl; conv => arg 3; whnf) | ((with_reducible refine sat_brF ?_ ?_); rfl; conv => arg 3; whnf) | ((with_reducible refine sat_eqv ?_ ?_); rfl; conv => arg 3; whnf))
          exact sat_ret ⟨rfl, A, wt, hA, di, rfl, rfl⟩
        have hi : i < 1000 := by have := of_decide_eq_true hi; omega
        have hal : A.length = 1000 * i := by rw [hA]; exact List.length_replicate
        (conv => arg 3; whnf); repeat (first | ((with_reducible refine sat_brT ?_ ?_); rfl; conv => arg 3; whnf) | ((with_reducible refine sat_brF ?_ ?_); rfl; conv => arg 3; whnf) | ((with_reducible refine sat_eqv ?_ ?_); rfl; conv => arg 3; whnf))
        rw [List.drop_zero, List.take_of_length_le (by omega)]
        refine sat_call (k_write A ML wt hbm di (by omega)) ?_
        rintro r H' ⟨rfl, wt', di', rfl⟩
        (conv => arg 3; whnf); repeat (first | ((with_reducible refine sat_brT ?_ ?_); rfl; conv => arg 3; whnf) | ((with_reducible refine sat_brF ?_ ?_); rfl; conv => arg 3; whnf) | ((with_reducible refine sat_eqv ?_ ?_); rfl; conv => arg 3; whnf))
        refine sat_rng (wrap64 (by omega) (by omega)) ?_
        (conv => arg 3; whnf); repeat (first | ((with_reducible refine sat_brT ?_ ?_); rfl; conv => arg 3; whnf) | ((with_reducible refine sat_brF ?_ ?_); rfl; conv => arg 3; whnf) | ((with_reducible refine sat_eqv ?_ ?_); rfl; conv => arg 3; whnf))
        exact sat_ret ⟨⟨i + 1, hi, A ++ ML, wt', by rw [hA]; exact hrep i, di'⟩, rfl, rfl, by show 1000 - (i + 1) < 1000 - i; omega⟩
      · rintro ex fr' H' ⟨rfl, A, wt, hA, di, rfl, rfl⟩
        have hal : A.length = 1000 * 1000 := by rw [hA]; exact List.length_replicate
        have ks := k_dsum A wt di (by omega)
        have kt := k_text (shaL A) (sha_b _) (sha_len _)
        rw [show strOf (tl (shaL A) 32) = milS by rw [hA]; exact million] at kt
        generalize shaL A = D at ks kt
        (conv => arg 3; whnf); repeat (first | ((with_reducible refine sat_brT ?_ ?_); rfl; conv => arg 3; whnf) | ((with_reducible refine sat_brF ?_ ?_); rfl; conv => arg 3; whnf) | ((with_reducible refine sat_eqv ?_ ?_); rfl; conv => arg 3; whnf))
        refine sat_call ks ?_
        rintro r H' ⟨rfl, rfl⟩
        (conv => arg 3; whnf); repeat (first | ((with_reducible refine sat_brT ?_ ?_); rfl; conv => arg 3; whnf) | ((with_reducible refine sat_brF ?_ ?_); rfl; conv => arg 3; whnf) | ((with_reducible refine sat_eqv ?_ ?_); rfl; conv => arg 3; whnf))
        refine sat_call kt ?_
        rintro r H' ⟨rfl, rfl⟩
        (conv => arg 3; whnf); repeat (first | ((with_reducible refine sat_brT ?_ ?_); rfl; conv => arg 3; whnf) | ((with_reducible refine sat_brF ?_ ?_); rfl; conv => arg 3; whnf) | ((with_reducible refine sat_eqv ?_ ?_); rfl; conv => arg 3; whnf))
        refine sat_brF (by decide +kernel) ?_
        (conv => arg 3; whnf); repeat (first | ((with_reducible refine sat_brT ?_ ?_); rfl; conv => arg 3; whnf) | ((with_reducible refine sat_brF ?_ ?_); rfl; conv => arg 3; whnf) | ((with_reducible refine sat_eqv ?_ ?_); rfl; conv => arg 3; whnf))
        refine sat_loopOf mkX_ops (σ := R2St) (fun s => [(3, .sl 0 0 [] 0 1000 (some 1000)), (9, ti s.i)]) (fun s => [.row 1 ML]) (fun s => 2 - s.i)
          (fun ex fr' H' => ex = .exit 6 ∧ fr' = [(0, .undef)] ∧ H' = [.row 1 ML]) ⟨0, Nat.zero_le _⟩ ?_ ?_
        · rintro ⟨i, im⟩
          dsimp only
          (conv => arg 3; whnf); repeat (first | ((with_reducible refine sat_brT ?_ ?_); rfl; conv => arg 3; whnf) | ((with_reducible refine sat_brF ?_ ?_); rfl; conv => arg 3; whnf) | ((with_reducible refine sat_eqv ?_ ?_); rfl; conv => arg 3; whnf))
          refine sat_br (fun hi => ?_) (fun hi => ?_)
          rotate_left
          · (conv => arg 3; whnf); repeat (first | ((with_reducible refine sat_brT ?_ ?_); rfl; conv => arg 3; whnf) | ((with_reducible refine sat_brF ?_ ?_); rfl; conv => arg 3; whnf) | ((with_reducible refine sat_eqv ?_ ?_); rfl; conv => arg 3; whnf))
            exact sat_ret ⟨rfl, rfl, rfl⟩
          have hi : i < 2 := by have := of_decide_eq_true hi; omega
          rcases (show i = 0 ∨ i = 1 by omega) with rfl | rfl
          · (conv => arg 3; whnf); repeat (first | ((with_reducible refine sat_brT ?_ ?_); rfl; conv => arg 3; whnf) | ((with_reducible refine sat_brF ?_ ?_); rfl; conv => arg 3; whnf) | ((with_reducible refine sat_eqv ?_ ?_); rfl; conv => arg 3; whnf))
            refine sat_call n_sum ?_
            rintro r H' ⟨rfl, rfl⟩
            (conv => arg 3; whnf); repeat (first | ((with_reducible refine sat_brT ?_ ?_); rfl; conv => arg 3; whnf) | ((with_reducible refine sat_brF ?_ ?_); rfl; conv => arg 3; whnf) | ((with_reducible refine sat_eqv ?_ ?_); rfl; conv => arg 3; whnf))
            refine sat_asrt (by decide +kernel) ?_
            (conv => arg 3; whnf); repeat (first | ((with_reducible refine sat_brT ?_ ?_); rfl; conv => arg 3; whnf) | ((with_reducible refine sat_brF ?_ ?_); rfl; conv => arg 3; whnf) | ((with_reducible refine sat_eqv ?_ ?_); rfl; conv => arg 3; whnf))
            (try (with_reducible refine sat_brF ?_ ?_); decide +kernel; (conv => arg 3; whnf); repeat (first | ((with_reducible refine sat_brT ?_ ?_); rfl; conv => arg 3; whnf) | ((with_reducible refine sat_brF ?_ ?_); rfl; conv => arg 3; whnf) | ((with_reducible refine sat_eqv ?_ ?_); rfl; conv => arg 3; whnf)))
            rw [List.drop_zero, List.take_of_length_le (by omega)]
            refine sat_call (n_write ML) ?_
            rintro r H' ⟨rfl, rfl⟩
            (conv => arg 3; whnf); repeat (first | ((with_reducible refine sat_brT ?_ ?_); rfl; conv => arg 3; whnf) | ((with_reducible refine sat_brF ?_ ?_); rfl; conv => arg 3; whnf) | ((with_reducible refine sat_eqv ?_ ?_); rfl; conv => arg 3; whnf))
            refine sat_call n_copy ?_
            rintro r H' ⟨rfl, rfl⟩
            (conv => arg 3; whnf); repeat (first | ((with_reducible refine sat_brT ?_ ?_); rfl; conv => arg 3; whnf) | ((with_reducible refine sat_brF ?_ ?_); rfl; conv => arg 3; whnf) | ((with_reducible refine sat_eqv ?_ ?_); rfl; conv => arg 3; whnf))
            refine sat_rng (wrap64 (by omega) (by omega)) ?_
            (conv => arg 3; whnf); repeat (first | ((with_reducible refine sat_brT ?_ ?_); rfl; conv => arg 3; whnf) | ((with_reducible refine sat_brF ?_ ?_); rfl; conv => arg 3; whnf) | ((with_reducible refine sat_eqv ?_ ?_); rfl; conv => arg 3; whnf))
            exact sat_ret ⟨⟨1, by omega⟩, rfl, rfl, by show 2 - 1 < 2 - 0; decide⟩
          · (conv => arg 3; whnf); repeat (first | ((with_reducible refine sat_brT ?_ ?_); rfl; conv => arg 3; whnf) | ((with_reducible refine sat_brF ?_ ?_); rfl; conv => arg 3; whnf) | ((with_reducible refine sat_eqv ?_ ?_); rfl; conv => arg 3; whnf))
            refine sat_call z_sum ?_
            rintro r H' ⟨rfl, rfl⟩
            (conv => arg 3; whnf); repeat (first | ((with_reducible refine sat_brT ?_ ?_); rfl; conv => arg 3; whnf) | ((with_reducible refine sat_brF ?_ ?_); rfl; conv => arg 3; whnf) | ((with_reducible refine sat_eqv ?_ ?_); rfl; conv => arg 3; whnf))
            refine sat_asrt (by decide +kernel) ?_
            (conv => arg 3; whnf); repeat (first | ((with_reducible refine sat_brT ?_ ?_); rfl; conv => arg 3; whnf) | ((with_reducible refine sat_brF ?_ ?_); rfl; conv => arg 3; whnf) | ((with_reducible refine sat_eqv ?_ ?_); rfl; conv => arg 3; whnf))
            (try (with_reducible refine sat_brF ?_ ?_); decide +kernel; (conv => arg 3; whnf); repeat (first | ((with_reducible refine sat_brT ?_ ?_); rfl; conv => arg 3; whnf) | ((with_reducible refine sat_brF ?_ ?_); rfl; conv => arg 3; whnf) | ((with_reducible refine sat_eqv ?_ ?_); rfl; conv => arg 3; whnf)))
            rw [List.drop_zero, List.take_of_length_le (by omega)]
            refine sat_call (z_write ML) ?_
            rintro r H' ⟨rfl, rfl⟩
            (conv => arg 3; whnf); repeat (first | ((with_reducible refine sat_brT ?_ ?_); rfl; conv => arg 3; whnf) | ((with_reducible refine sat_brF ?_ ?_); rfl; conv => arg 3; whnf) | ((with_reducible refine sat_eqv ?_ ?_); rfl; conv => arg 3; whnf))
            refine sat_call z_copy ?_
            rintro r H' ⟨rfl, rfl⟩
            (conv => arg 3; whnf); repeat (first | ((with_reducible refine sat_brT ?_ ?_); rfl; conv => arg 3; whnf) | ((with_reducible refine sat_brF ?_ ?_); rfl; conv => arg 3; whnf) | ((with_reducible refine sat_eqv ?_ ?_); rfl; conv => arg 3; whnf))
            refine sat_rng (wrap64 (by omega) (by omega)) ?_
            (conv => arg 3; whnf); repeat (first | ((with_reducible refine sat_brT ?_ ?_); rfl; conv => arg 3; whnf) | ((with_reducible refine sat_brF ?_ ?_); rfl; conv => arg 3; whnf) | ((with_reducible refine sat_eqv ?_ ?_); rfl; conv => arg 3; whnf))
            exact sat_ret ⟨⟨2, by omega⟩, rfl, rfl, by show 2 - 2 < 2 - 1; decide⟩
        · rintro ex fr' H' ⟨rfl, rfl, rfl⟩
          (conv => arg 3; whnf); repeat (first | ((with_reducible refine sat_brT ?_ ?_); rfl; conv => arg 3; whnf) | ((with_reducible refine sat_brF ?_ ?_); rfl; conv => arg 3; whnf) | ((with_reducible refine sat_eqv ?_ ?_); rfl; conv => arg 3; whnf))
          refine sat_asrt (by decide +kernel) ?_
          (conv => arg 3; whnf); repeat (first | ((with_reducible refine sat_brT ?_ ?_); rfl; conv => arg 3; whnf) | ((with_reducible refine sat_brF ?_ ?_); rfl; conv => arg 3; whnf) | ((with_reducible refine sat_eqv ?_ ?_); rfl; conv => arg 3; whnf))
          refine sat_call (k_bad bad1) ?_
          rintro r H' ⟨rfl, rfl⟩
          (conv => arg 3; whnf); repeat (first | ((with_reducible refine sat_brT ?_ ?_); rfl; conv => arg 3; whnf) | ((with_reducible refine sat_brF ?_ ?_); rfl; conv => arg 3; whnf) | ((with_reducible refine sat_eqv ?_ ?_); rfl; conv => arg 3; whnf))
          refine sat_asrt (by decide +kernel) ?_
          (conv => arg 3; whnf); repeat (first | ((with_reducible refine sat_brT ?_ ?_); rfl; conv => arg 3; whnf) | ((with_reducible refine sat_brF ?_ ?_); rfl; conv => arg 3; whnf) | ((with_reducible refine sat_eqv ?_ ?_); rfl; conv => arg 3; whnf))
          refine sat_asrt (by decide +kernel) ?_
          (conv => arg 3; whnf); repeat (first | ((with_reducible refine sat_brT ?_ ?_); rfl; conv => arg 3; whnf) | ((with_reducible refine sat_brF ?_ ?_); rfl; conv => arg 3; whnf) | ((with_reducible refine sat_eqv ?_ ?_); rfl; conv => arg 3; whnf))
          refine sat_call (k_bad bad2) ?_
          rintro r H' ⟨rfl, rfl⟩
          (conv => arg 3; whnf); repeat (first | ((with_reducible refine sat_brT ?_ ?_); rfl; conv => arg 3; whnf) | ((with_reducible refine sat_brF ?_ ?_); rfl; conv => arg 3; whnf) | ((with_reducible refine sat_eqv ?_ ?_); rfl; conv => arg 3; whnf))
          refine sat_call (k_bad bad3) ?_
          rintro r H' ⟨rfl, rfl⟩
          (conv => arg 3; whnf); repeat (first | ((with_reducible refine sat_brT ?_ ?_); rfl; conv => arg 3; whnf) | ((with_reducible refine sat_brF ?_ ?_); rfl; conv => arg 3; whnf) | ((with_reducible refine sat_eqv ?_ ?_); rfl; conv => arg 3; whnf))
          refine sat_call k_wakes ?_
          rintro r H' ⟨rfl, rfl⟩
          (conv => arg 3; whnf); repeat (first | ((with_reducible refine sat_brT ?_ ?_); rfl; conv => arg 3; whnf) | ((with_reducible refine sat_brF ?_ ?_); rfl; conv => arg 3; whnf) | ((with_reducible refine sat_eqv ?_ ?_); rfl; conv => arg 3; whnf))
          exact sat_ret rfl
end Stk
