/- WalKnown: logs that Open did not make; the limit; the chapter's rows. -/
import Derived.Test.YtmcdljgpalejaaaKnown1
namespace Stk
open Go
set_option maxRecDepth 100000
set_option linter.unusedSimpArgs false
set_option linter.unusedVariables false
set_option maxHeartbeats 8000000
theorem l_known : ACalls PP GG F.law22_WalKnown (toAVs []) [] fun r _ => r = .t (.bool true) := by
  refine K.law22_WalKnown.callsC rfl ?_
  (conv => arg 3; whnf); repeat (first | ((with_reducible refine sat_brT ?_ ?_); rfl; conv => arg 3; whnf) | ((with_reducible refine sat_brF ?_ ?_); rfl; conv => arg 3; whnf) | ((with_reducible refine sat_eqv ?_ ?_); rfl; conv => arg 3; whnf))
  refine sat_call n_open ?_
  rintro r H' ⟨rfl, rfl⟩
  (conv => arg 3; whnf); repeat (first | ((with_reducible refine sat_brT ?_ ?_); rfl; conv => arg 3; whnf) | ((with_reducible refine sat_brF ?_ ?_); rfl; conv => arg 3; whnf) | ((with_reducible refine sat_eqv ?_ ?_); rfl; conv => arg 3; whnf))
  refine sat_call n_append ?_
  rintro r H' ⟨rfl, rfl⟩
  (conv => arg 3; whnf); repeat (first | ((with_reducible refine sat_brT ?_ ?_); rfl; conv => arg 3; whnf) | ((with_reducible refine sat_brF ?_ ?_); rfl; conv => arg 3; whnf) | ((with_reducible refine sat_eqv ?_ ?_); rfl; conv => arg 3; whnf))
  refine sat_call n_sync ?_
  rintro r H' ⟨rfl, rfl⟩
  (conv => arg 3; whnf); repeat (first | ((with_reducible refine sat_brT ?_ ?_); rfl; conv => arg 3; whnf) | ((with_reducible refine sat_brF ?_ ?_); rfl; conv => arg 3; whnf) | ((with_reducible refine sat_eqv ?_ ?_); rfl; conv => arg 3; whnf))
  refine sat_call n_replace ?_
  rintro r H' ⟨rfl, rfl⟩
  (conv => arg 3; whnf); repeat (first | ((with_reducible refine sat_brT ?_ ?_); rfl; conv => arg 3; whnf) | ((with_reducible refine sat_brF ?_ ?_); rfl; conv => arg 3; whnf) | ((with_reducible refine sat_eqv ?_ ?_); rfl; conv => arg 3; whnf))
  refine sat_call n_len ?_
  rintro r H' ⟨rfl, rfl⟩
  (conv => arg 3; whnf); repeat (first | ((with_reducible refine sat_brT ?_ ?_); rfl; conv => arg 3; whnf) | ((with_reducible refine sat_brF ?_ ?_); rfl; conv => arg 3; whnf) | ((with_reducible refine sat_eqv ?_ ?_); rfl; conv => arg 3; whnf))
  refine sat_call n_records ?_
  rintro r H' ⟨rfl, rfl⟩
  (conv => arg 3; whnf); repeat (first | ((with_reducible refine sat_brT ?_ ?_); rfl; conv => arg 3; whnf) | ((with_reducible refine sat_brF ?_ ?_); rfl; conv => arg 3; whnf) | ((with_reducible refine sat_eqv ?_ ?_); rfl; conv => arg 3; whnf))
  refine sat_call z_append ?_
  rintro r H' ⟨rfl, rfl⟩
  (conv => arg 3; whnf); repeat (first | ((with_reducible refine sat_brT ?_ ?_); rfl; conv => arg 3; whnf) | ((with_reducible refine sat_brF ?_ ?_); rfl; conv => arg 3; whnf) | ((with_reducible refine sat_eqv ?_ ?_); rfl; conv => arg 3; whnf))
  refine sat_call z_len ?_
  rintro r H' ⟨rfl, rfl⟩
  (conv => arg 3; whnf); repeat (first | ((with_reducible refine sat_brT ?_ ?_); rfl; conv => arg 3; whnf) | ((with_reducible refine sat_brF ?_ ?_); rfl; conv => arg 3; whnf) | ((with_reducible refine sat_eqv ?_ ?_); rfl; conv => arg 3; whnf))
  refine sat_call k_new ?_
  rintro r H' ⟨rfl, rfl⟩
  (conv => arg 3; whnf); repeat (first | ((with_reducible refine sat_brT ?_ ?_); rfl; conv => arg 3; whnf) | ((with_reducible refine sat_brF ?_ ?_); rfl; conv => arg 3; whnf) | ((with_reducible refine sat_eqv ?_ ?_); rfl; conv => arg 3; whnf))
  refine sat_call (open_ok D0 D0 D0_ok AllB.nil rfl [] rfl 0 rfl) ?_
  rintro r H' ⟨rfl, rfl⟩
  (conv => arg 3; whnf); repeat (first | ((with_reducible refine sat_brT ?_ ?_); rfl; conv => arg 3; whnf) | ((with_reducible refine sat_brF ?_ ?_); rfl; conv => arg 3; whnf) | ((with_reducible refine sat_eqv ?_ ?_); rfl; conv => arg 3; whnf))
  refine sat_asrt (by decide) ?_
  (conv => arg 3; whnf); repeat (first | ((with_reducible refine sat_brT ?_ ?_); rfl; conv => arg 3; whnf) | ((with_reducible refine sat_brF ?_ ?_); rfl; conv => arg 3; whnf) | ((with_reducible refine sat_eqv ?_ ?_); rfl; conv => arg 3; whnf))
  obtain ⟨big, hbig⟩ : ∃ b, b = List.replicate (Int.toNat 1048576) (Tr.int .u8 0) := ⟨_, rfl⟩
  have hbl : big.length = 1048576 := by rw [hbig, List.length_replicate]; rfl
  have hbb : AllB big := fun y hy => ⟨0, by rw [hbig] at hy; exact List.eq_of_mem_replicate hy, by omega⟩
  rw [← hbig]
  clear hbig
  refine sat_call k_new ?_
  rintro r H' ⟨rfl, rfl⟩
  (conv => arg 3; whnf); repeat (first | ((with_reducible refine sat_brT ?_ ?_); rfl; conv => arg 3; whnf) | ((with_reducible refine sat_brF ?_ ?_); rfl; conv => arg 3; whnf) | ((with_reducible refine sat_eqv ?_ ?_); rfl; conv => arg 3; whnf))
  have etk : List.take (Int.toNat 1048576) (List.drop 0 big) = big := by rw [List.drop_zero]; exact List.take_of_length_le (by rw [hbl]; decide)
  rw [etk]
  refine sat_brF (decide_eq_false (by omega)) ?_
  (conv => arg 3; whnf); repeat (first | ((with_reducible refine sat_brT ?_ ?_); rfl; conv => arg 3; whnf) | ((with_reducible refine sat_brF ?_ ?_); rfl; conv => arg 3; whnf) | ((with_reducible refine sat_eqv ?_ ?_); rfl; conv => arg 3; whnf))
  refine sat_asrt (by simp [roomy]; omega) ?_
  (conv => arg 3; whnf); repeat (first | ((with_reducible refine sat_brT ?_ ?_); rfl; conv => arg 3; whnf) | ((with_reducible refine sat_brF ?_ ?_); rfl; conv => arg 3; whnf) | ((with_reducible refine sat_eqv ?_ ?_); rfl; conv => arg 3; whnf))
  have hrp : D0.replace (longB big) = (DL big, 0) := by
    rw [rep0 rfl rfl (by simp [longB]; omega)]; rfl
  have kr := k_replace D0 D0_ok (longB big) (by simp [longB]; omega)
  rw [hrp] at kr
  have etl : List.take (5 + big.length) (List.drop 0 (List.take 5 (List.drop 0 [Tr.int .u8 1, Tr.int .u8 0, Tr.int .u8 16, Tr.int .u8 0, Tr.int .u8 0]) ++ big)) = longB big := by
    show List.take (5 + big.length) (longB big) = _
    exact List.take_of_length_le (by simp [longB]; omega)
  rw [etl]
  refine sat_call kr ?_
  rintro r H' ⟨rfl, rfl⟩
  (conv => arg 3; whnf); repeat (first | ((with_reducible refine sat_brT ?_ ?_); rfl; conv => arg 3; whnf) | ((with_reducible refine sat_brF ?_ ?_); rfl; conv => arg 3; whnf) | ((with_reducible refine sat_eqv ?_ ?_); rfl; conv => arg 3; whnf))
  have hDLc : records (DL big).cont = [] := by rw [show (DL big).cont = longB big by simp [Dk.cont]]; exact long_rec big
  have hDLo : (DL big).OK := ⟨Nat.le_refl _, by show (longB big).length ≤ _; simp [longB]; omega, by show (0 : Int) ≤ ((longB big).length : Int); omega, Int.le_refl _, by show (0 : Int) ≤ 0; decide, by show (0 : Int) ≤ 9223372036854775807; decide⟩
  have hDLb : AllB (DL big).xs := AllB.cons (by decide) (AllB.cons (by decide) (AllB.cons (by decide) (AllB.cons (by decide) (AllB.cons (by decide) hbb))))
  refine sat_call (open_ok (DL big) D0 hDLo hDLb (DL_opn hbl) [] hDLc 0 rfl) ?_
  rintro r H' ⟨rfl, rfl⟩
  (conv => arg 3; whnf); repeat (first | ((with_reducible refine sat_brT ?_ ?_); rfl; conv => arg 3; whnf) | ((with_reducible refine sat_brF ?_ ?_); rfl; conv => arg 3; whnf) | ((with_reducible refine sat_eqv ?_ ?_); rfl; conv => arg 3; whnf))
  refine sat_call (k_wlen W0) ?_
  rintro r H' ⟨rfl, rfl⟩
  (conv => arg 3; whnf); repeat (first | ((with_reducible refine sat_brT ?_ ?_); rfl; conv => arg 3; whnf) | ((with_reducible refine sat_brF ?_ ?_); rfl; conv => arg 3; whnf) | ((with_reducible refine sat_eqv ?_ ?_); rfl; conv => arg 3; whnf))
  refine sat_call (k_len D0) ?_
  rintro r H' ⟨rfl, rfl⟩
  (conv => arg 3; whnf); repeat (first | ((with_reducible refine sat_brT ?_ ?_); rfl; conv => arg 3; whnf) | ((with_reducible refine sat_brF ?_ ?_); rfl; conv => arg 3; whnf) | ((with_reducible refine sat_eqv ?_ ?_); rfl; conv => arg 3; whnf))
  rw [etk]
  refine sat_asrt (by decide) ?_
  (conv => arg 3; whnf); repeat (first | ((with_reducible refine sat_brT ?_ ?_); rfl; conv => arg 3; whnf) | ((with_reducible refine sat_brF ?_ ?_); rfl; conv => arg 3; whnf) | ((with_reducible refine sat_eqv ?_ ?_); rfl; conv => arg 3; whnf))
  have hxl : (big ++ [u8 0]).length > 1048576 := by rw [List.length_append, hbl]; decide
  have kA0 := k_wappend W0 D0_ok (big ++ [u8 0]) (by rw [List.length_append, hbl]; decide) (by decide) (by decide)
  rw [apd_long hxl] at kA0
  have etx : List.take (Int.toNat 1048576 + (List.take 1 (List.drop 0 [Tr.int .u8 0])).length) (List.drop 0 (big ++ List.take 1 (List.drop 0 [Tr.int .u8 0]))) = big ++ [u8 0] := by
    show List.take (Int.toNat 1048576 + 1) (big ++ [u8 0]) = _
    exact List.take_of_length_le (by rw [List.length_append, hbl]; decide)
  rw [etx]
  refine sat_call kA0 ?_
  rintro r H' ⟨rfl, rfl⟩
  (conv => arg 3; whnf); repeat (first | ((with_reducible refine sat_brT ?_ ?_); rfl; conv => arg 3; whnf) | ((with_reducible refine sat_brF ?_ ?_); rfl; conv => arg 3; whnf) | ((with_reducible refine sat_eqv ?_ ?_); rfl; conv => arg 3; whnf))
  rw [etk]
  have kA1 := k_wappend W0 D0_ok big (by rw [hbl]; decide) (by decide) (by decide)
  rw [apd_1 hbl] at kA1
  refine sat_call kA1 ?_
  rintro r H' ⟨rfl, rfl⟩
  (conv => arg 3; whnf); repeat (first | ((with_reducible refine sat_brT ?_ ?_); rfl; conv => arg 3; whnf) | ((with_reducible refine sat_brF ?_ ?_); rfl; conv => arg 3; whnf) | ((with_reducible refine sat_eqv ?_ ?_); rfl; conv => arg 3; whnf))
  have hW1 : (W1 big).d.OK := ⟨by show 1048580 ≤ (formB big).length; rw [formB_len, hbl]; decide, by show 1048580 ≤ 4194304; decide, by show (0 : Int) ≤ 0; decide, by show (0 : Int) ≤ ((1048580 : Nat) : Int); decide, by show (0 : Int) ≤ 0; decide, by show (0 : Int) ≤ 9223372036854775807; decide⟩
  have b12 : AllB q12 := AllB.cons (by decide) (AllB.cons (by decide) AllB.nil)
  have bF2 : AllB (formsL [q12]) := allR_forms (fun x hx => by rw [List.mem_singleton] at hx; subst hx; exact ⟨b12, by decide⟩)
  have kR2 := k_wreplace (W1 big) hW1 [q12] bF2 (fun x hx => by rw [List.mem_singleton] at hx; subst hx; exact b12) (by decide)
  rw [rep_2] at kR2
  refine sat_call kR2 ?_
  rintro r H' ⟨rfl, rfl⟩
  (conv => arg 3; whnf); repeat (first | ((with_reducible refine sat_brT ?_ ?_); rfl; conv => arg 3; whnf) | ((with_reducible refine sat_brF ?_ ?_); rfl; conv => arg 3; whnf) | ((with_reducible refine sat_eqv ?_ ?_); rfl; conv => arg 3; whnf))
  have kA3 := k_wappend W2 ⟨by decide, by decide, by decide, by decide, by decide, by decide⟩ q3 (by decide) (by decide) (by decide)
  rw [apd_3] at kA3
  refine sat_call kA3 ?_
  rintro r H' ⟨rfl, rfl⟩
  (conv => arg 3; whnf); repeat (first | ((with_reducible refine sat_brT ?_ ?_); rfl; conv => arg 3; whnf) | ((with_reducible refine sat_brF ?_ ?_); rfl; conv => arg 3; whnf) | ((with_reducible refine sat_eqv ?_ ?_); rfl; conv => arg 3; whnf))
  have kF4 := k_fuse W3.d 1 true
  rw [fuse_4] at kF4
  refine sat_call kF4 ?_
  rintro r H' ⟨rfl, rfl⟩
  (conv => arg 3; whnf); repeat (first | ((with_reducible refine sat_brT ?_ ?_); rfl; conv => arg 3; whnf) | ((with_reducible refine sat_brF ?_ ?_); rfl; conv => arg 3; whnf) | ((with_reducible refine sat_eqv ?_ ?_); rfl; conv => arg 3; whnf))
  rw [etk]
  refine sat_asrt (by decide) ?_
  (conv => arg 3; whnf); repeat (first | ((with_reducible refine sat_brT ?_ ?_); rfl; conv => arg 3; whnf) | ((with_reducible refine sat_brF ?_ ?_); rfl; conv => arg 3; whnf) | ((with_reducible refine sat_eqv ?_ ?_); rfl; conv => arg 3; whnf))
  rw [etx]
  have kR5 := k_wreplace W4 ⟨by decide, by decide, by decide, by decide, by decide, by decide⟩ [big ++ [u8 0]] (by
    rw [formsL_cons, formsL_nil, List.append_nil]
    exact AllB.cons (by omega) (AllB.cons (by omega) (AllB.cons (by omega) (AllB.cons (by rw [List.length_append, hbl]; decide) (hbb.append (AllB.cons (by decide) AllB.nil)))))) (fun x hx => by rw [List.mem_singleton] at hx; subst hx; exact hbb.append (AllB.cons (by decide) AllB.nil)) (by rw [formsL_len]; simp [lensum, hbl])
  rw [rep_long hxl] at kR5
  refine sat_call kR5 ?_
  rintro r H' ⟨rfl, rfl⟩
  (conv => arg 3; whnf); repeat (first | ((with_reducible refine sat_brT ?_ ?_); rfl; conv => arg 3; whnf) | ((with_reducible refine sat_brF ?_ ?_); rfl; conv => arg 3; whnf) | ((with_reducible refine sat_eqv ?_ ?_); rfl; conv => arg 3; whnf))
  have b9 : AllB q9 := AllB.cons (by decide) AllB.nil
  have b88 : AllB q88 := AllB.cons (by decide) (AllB.cons (by decide) AllB.nil)
  have b3 : AllB q3 := AllB.cons (by decide) AllB.nil
  have bb : ∀ x ∈ [q9, q88], AllB x := fun x hx => by
    rcases List.mem_cons.1 hx with rfl | hx
    · exact b9
    · rw [List.mem_singleton] at hx; subst hx; exact b88
  have r98 : AllR [q9, q88] := fun x hx => ⟨bb x hx, by
    rcases List.mem_cons.1 hx with rfl | hx
    · decide
    · rw [List.mem_singleton] at hx; subst hx; decide⟩
  have r13 : AllR [q12, q3] := fun x hx => by
    rcases List.mem_cons.1 hx with rfl | hx
    · exact ⟨b12, by decide⟩
    · rw [List.mem_singleton] at hx; subst hx; exact ⟨b3, by decide⟩
  have kR6 := k_wreplace W4 ⟨by decide, by decide, by decide, by decide, by decide, by decide⟩ [q9, q88] (allR_forms r98) bb (by decide)
  rw [rep_5] at kR6
  refine sat_call kR6 ?_
  rintro r H' ⟨rfl, rfl⟩
  (conv => arg 3; whnf); repeat (first | ((with_reducible refine sat_brT ?_ ?_); rfl; conv => arg 3; whnf) | ((with_reducible refine sat_brF ?_ ?_); rfl; conv => arg 3; whnf) | ((with_reducible refine sat_eqv ?_ ?_); rfl; conv => arg 3; whnf))
  have kS := k_wsync W5 ⟨by decide, by decide, by decide, by decide, by decide, by decide⟩
  rw [syn_5] at kS
  refine sat_call kS ?_
  rintro r H' ⟨rfl, rfl⟩
  (conv => arg 3; whnf); repeat (first | ((with_reducible refine sat_brT ?_ ?_); rfl; conv => arg 3; whnf) | ((with_reducible refine sat_brF ?_ ?_); rfl; conv => arg 3; whnf) | ((with_reducible refine sat_eqv ?_ ?_); rfl; conv => arg 3; whnf))
  have kC := k_crash W5.d ⟨by decide, by decide, by decide, by decide, by decide, by decide⟩ 0
  rw [crash_6] at kC
  refine sat_call kC ?_
  rintro r H' ⟨rfl, rfl⟩
  (conv => arg 3; whnf); repeat (first | ((with_reducible refine sat_brT ?_ ?_); rfl; conv => arg 3; whnf) | ((with_reducible refine sat_brF ?_ ?_); rfl; conv => arg 3; whnf) | ((with_reducible refine sat_eqv ?_ ?_); rfl; conv => arg 3; whnf))
  have kA6 := k_wappend W6 ⟨by decide, by decide, by decide, by decide, by decide, by decide⟩ [] (by decide) (by decide) (by decide)
  rw [apd_6] at kA6
  refine sat_call kA6 ?_
  rintro r H' ⟨rfl, rfl⟩
  (conv => arg 3; whnf); repeat (first | ((with_reducible refine sat_brT ?_ ?_); rfl; conv => arg 3; whnf) | ((with_reducible refine sat_brF ?_ ?_); rfl; conv => arg 3; whnf) | ((with_reducible refine sat_eqv ?_ ?_); rfl; conv => arg 3; whnf))
  refine sat_call (open_ok W6.d W6.d ⟨by decide, by decide, by decide, by decide, by decide, by decide⟩ (allR_forms r98) opn_6 [q9, q88] rec_6 11 rfl) ?_
  rintro r H' ⟨rfl, rfl⟩
  (conv => arg 3; whnf); repeat (first | ((with_reducible refine sat_brT ?_ ?_); rfl; conv => arg 3; whnf) | ((with_reducible refine sat_brF ?_ ?_); rfl; conv => arg 3; whnf) | ((with_reducible refine sat_eqv ?_ ?_); rfl; conv => arg 3; whnf))
  refine sat_call (k_records ⟨W6.d, [q9, q88], none, 11, false⟩ r98 (by decide)) ?_
  rintro r H' ⟨rfl, rfl⟩
  (conv => arg 3; whnf); repeat (first | ((with_reducible refine sat_brT ?_ ?_); rfl; conv => arg 3; whnf) | ((with_reducible refine sat_brF ?_ ?_); rfl; conv => arg 3; whnf) | ((with_reducible refine sat_eqv ?_ ?_); rfl; conv => arg 3; whnf))
  refine sat_call (k_same [q9, q88] [q9, q88] r98 r98 (by decide)) ?_
  rintro r H' ⟨q, rfl, hq, rfl⟩
  obtain rfl := hq.2 rfl
  clear hq
  (conv => arg 3; whnf); repeat (first | ((with_reducible refine sat_brT ?_ ?_); rfl; conv => arg 3; whnf) | ((with_reducible refine sat_brF ?_ ?_); rfl; conv => arg 3; whnf) | ((with_reducible refine sat_eqv ?_ ?_); rfl; conv => arg 3; whnf))
  refine sat_call (k_records ⟨W6.d, [q12, q3], none, 11, true⟩ r13 (by decide)) ?_
  rintro r H' ⟨rfl, rfl⟩
  (conv => arg 3; whnf); repeat (first | ((with_reducible refine sat_brT ?_ ?_); rfl; conv => arg 3; whnf) | ((with_reducible refine sat_brF ?_ ?_); rfl; conv => arg 3; whnf) | ((with_reducible refine sat_eqv ?_ ?_); rfl; conv => arg 3; whnf))
  refine sat_call (k_same [q12, q3] [q12, q3] r13 r13 (by decide)) ?_
  rintro r H' ⟨q, rfl, hq, rfl⟩
  obtain rfl := hq.2 rfl
  clear hq
  (conv => arg 3; whnf); repeat (first | ((with_reducible refine sat_brT ?_ ?_); rfl; conv => arg 3; whnf) | ((with_reducible refine sat_brF ?_ ?_); rfl; conv => arg 3; whnf) | ((with_reducible refine sat_eqv ?_ ?_); rfl; conv => arg 3; whnf))
  refine sat_call k_wakes ?_
  rintro r H' ⟨rfl, rfl⟩
  (conv => arg 3; whnf); repeat (first | ((with_reducible refine sat_brT ?_ ?_); rfl; conv => arg 3; whnf) | ((with_reducible refine sat_brF ?_ ?_); rfl; conv => arg 3; whnf) | ((with_reducible refine sat_eqv ?_ ?_); rfl; conv => arg 3; whnf))
  exact sat_ret rfl
end Stk
