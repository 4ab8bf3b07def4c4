/- PackKnown: the chapter's rows, and the limits. -/
import Derived.Test.YtliklkagieaoeaaKn1
namespace Stk
open Go
set_option maxRecDepth 100000
set_option linter.unusedSimpArgs false
set_option linter.unusedVariables false
set_option maxHeartbeats 16000000
theorem l_known : ACalls PP GG F.law20_PackKnown (toAVs []) [] fun r _ => r = .t (.bool true) := by
  have kE3 := k_PutEntry e3 zC_ok
  rw [put_e3] at kE3
  have hX78 := len_e3
  have hX0 := fst_e3
  have k78 := take_78
  refine K.law20_PackKnown.callsC rfl ?_
  (conv => arg 3; whnf); repeat (first | ((with_reducible refine sat_brT ?_ ?_); rfl; conv => arg 3; whnf) | ((with_reducible refine sat_brF ?_ ?_); rfl; conv => arg 3; whnf) | ((with_reducible refine sat_eqv ?_ ?_); rfl; conv => arg 3; whnf))
  refine sat_call kE3 ?_
  rintro r H' ⟨cap1, rfl, rfl⟩
  (conv => arg 3; whnf); repeat (first | ((with_reducible refine sat_brT ?_ ?_); rfl; conv => arg 3; whnf) | ((with_reducible refine sat_brF ?_ ?_); rfl; conv => arg 3; whnf) | ((with_reducible refine sat_eqv ?_ ?_); rfl; conv => arg 3; whnf))
  refine sat_asrt (by decide) ?_
  (conv => arg 3; whnf); repeat (first | ((with_reducible refine sat_brT ?_ ?_); rfl; conv => arg 3; whnf) | ((with_reducible refine sat_brF ?_ ?_); rfl; conv => arg 3; whnf) | ((with_reducible refine sat_eqv ?_ ?_); rfl; conv => arg 3; whnf))
  refine sat_asrt (by decide) ?_
  (conv => arg 3; whnf); repeat (first | ((with_reducible refine sat_brT ?_ ?_); rfl; conv => arg 3; whnf) | ((with_reducible refine sat_brF ?_ ?_); rfl; conv => arg 3; whnf) | ((with_reducible refine sat_eqv ?_ ?_); rfl; conv => arg 3; whnf))
  refine sat_idx (u8 0) (by decide) rfl ?_
  (conv => arg 3; whnf); repeat (first | ((with_reducible refine sat_brT ?_ ?_); rfl; conv => arg 3; whnf) | ((with_reducible refine sat_brF ?_ ?_); rfl; conv => arg 3; whnf) | ((with_reducible refine sat_eqv ?_ ?_); rfl; conv => arg 3; whnf))
  refine sat_call (Q' := fun r H' => r = .tup [.t zCt, ti 5] ∧ H' = []) (by
    show ACalls _ _ _ [.bz 1 odd] [] _
    exact k_takeC_no odd (fun y hy => by rcases List.mem_or_eq_of_mem_set hy with h | rfl; exact zeros_b 34 y h; exact ⟨2, rfl, by decide⟩) 5 (by decide) take_odd) ?_
  rintro r H' ⟨rfl, rfl⟩
  (conv => arg 3; whnf); repeat (first | ((with_reducible refine sat_brT ?_ ?_); rfl; conv => arg 3; whnf) | ((with_reducible refine sat_brF ?_ ?_); rfl; conv => arg 3; whnf) | ((with_reducible refine sat_eqv ?_ ?_); rfl; conv => arg 3; whnf))
  refine sat_asrt (by decide) ?_
  (conv => arg 3; whnf); repeat (first | ((with_reducible refine sat_brT ?_ ?_); rfl; conv => arg 3; whnf) | ((with_reducible refine sat_brF ?_ ?_); rfl; conv => arg 3; whnf) | ((with_reducible refine sat_eqv ?_ ?_); rfl; conv => arg 3; whnf))
  refine sat_call (Q' := fun r H' => r = .tup [.t zCt, ti 5] ∧ H' = []) (by
    show ACalls _ _ _ [.bz 1 (zeros 71)] [] _
    exact k_takeC_no (zeros 71) (zeros_b 71) 5 (by decide) take_71) ?_
  rintro r H' ⟨rfl, rfl⟩
  (conv => arg 3; whnf); repeat (first | ((with_reducible refine sat_brT ?_ ?_); rfl; conv => arg 3; whnf) | ((with_reducible refine sat_brF ?_ ?_); rfl; conv => arg 3; whnf) | ((with_reducible refine sat_eqv ?_ ?_); rfl; conv => arg 3; whnf))
  refine sat_asrt (by decide) ?_
  (conv => arg 3; whnf); repeat (first | ((with_reducible refine sat_brT ?_ ?_); rfl; conv => arg 3; whnf) | ((with_reducible refine sat_brF ?_ ?_); rfl; conv => arg 3; whnf) | ((with_reducible refine sat_eqv ?_ ?_); rfl; conv => arg 3; whnf))
  obtain ⟨d, hd⟩ : ∃ d, d = List.replicate (Int.toNat 65537) (Tr.int .u8 0) := ⟨_, rfl⟩
  have hdl : d.length = 65537 := by rw [hd, List.length_replicate]; rfl
  have hdb : AllB d := by rw [hd]; exact zeros_b _
  have hdt : List.take (Int.toNat 65537) (List.drop 0 d) = d := by rw [List.drop_zero]; exact List.take_of_length_le (by rw [hdl]; decide)
  rw [← hd, hdt]
  have kC := k_PutCmd (bigC d) (bigC_ok hdb (by omega))
  rw [put_bigC hdl] at kC
  refine sat_call kC ?_
  rintro r H' ⟨cap2, rfl, rfl⟩
  (conv => arg 3; whnf); repeat (first | ((with_reducible refine sat_brT ?_ ?_); rfl; conv => arg 3; whnf) | ((with_reducible refine sat_brF ?_ ?_); rfl; conv => arg 3; whnf) | ((with_reducible refine sat_eqv ?_ ?_); rfl; conv => arg 3; whnf))
  refine sat_asrt (by decide) ?_
  (conv => arg 3; whnf); repeat (first | ((with_reducible refine sat_brT ?_ ?_); rfl; conv => arg 3; whnf) | ((with_reducible refine sat_brF ?_ ?_); rfl; conv => arg 3; whnf) | ((with_reducible refine sat_eqv ?_ ?_); rfl; conv => arg 3; whnf))
  have e201 : List.take (Int.toNat 201) (List.drop 0 (List.replicate (Int.toNat 201) (zE.t true))) = (zes 201).map eT := by
    rw [zes_t, List.drop_zero, List.take_of_length_le (by rw [List.length_replicate]; exact Nat.le_refl _)]; rfl
  have kM := k_PutMsg (mK (zes 201) []) (mK_ok (by decide) AllB.nil (by decide))
  rw [put_201] at kM
  refine sat_call (Q' := PutR ([], 3)) (by
    show ACalls _ _ _ [av15 0 0 0 0 0 0 0 0 0 0 false 0 z32 (.bz 40 (List.take (Int.toNat 201) (List.drop 0 (List.replicate (Int.toNat 201) (zE.t true))))) (.bz 1 [])] [] _
    rw [e201]; exact kM) ?_
  rintro r H' ⟨cap3, rfl, rfl⟩
  (conv => arg 3; whnf); repeat (first | ((with_reducible refine sat_brT ?_ ?_); rfl; conv => arg 3; whnf) | ((with_reducible refine sat_brF ?_ ?_); rfl; conv => arg 3; whnf) | ((with_reducible refine sat_eqv ?_ ?_); rfl; conv => arg 3; whnf))
  refine sat_asrt (by decide) ?_
  (conv => arg 3; whnf); repeat (first | ((with_reducible refine sat_brT ?_ ?_); rfl; conv => arg 3; whnf) | ((with_reducible refine sat_brF ?_ ?_); rfl; conv => arg 3; whnf) | ((with_reducible refine sat_eqv ?_ ?_); rfl; conv => arg 3; whnf))
  rw [← hd, hdt]
  have kMe := k_PutMsg (mK [(⟨0, bigC d⟩, false)] []) (mE_ok hdb (by omega))
  rw [put_mE hdl] at kMe
  refine sat_call kMe ?_
  rintro r H' ⟨cap4, rfl, rfl⟩
  (conv => arg 3; whnf); repeat (first | ((with_reducible refine sat_brT ?_ ?_); rfl; conv => arg 3; whnf) | ((with_reducible refine sat_brF ?_ ?_); rfl; conv => arg 3; whnf) | ((with_reducible refine sat_eqv ?_ ?_); rfl; conv => arg 3; whnf))
  have e200 : List.take (Int.toNat 200) (List.drop 0 (List.replicate (Int.toNat 200) (zE.t true))) = (zes 200).map eT := by
    rw [zes_t, List.drop_zero, List.take_of_length_le (by rw [List.length_replicate]; exact Nat.le_refl _)]; rfl
  obtain ⟨d2, hd2⟩ : ∃ d, d = List.replicate (Int.toNat 65536) (Tr.int .u8 0) := ⟨_, rfl⟩
  have hd2l : d2.length = 65536 := by rw [hd2, List.length_replicate]; rfl
  have hd2b : AllB d2 := by rw [hd2]; exact zeros_b _
  have hd2t : List.take (Int.toNat 65536) (List.drop 0 d2) = d2 := by rw [List.drop_zero]; exact List.take_of_length_le (by rw [hd2l]; decide)
  have hin := mK_in hd2b hd2l
  have oK := hin.ok
  have kK := k_PutMsg (mK (zes 200) d2) oK
  rw [putM_in hin] at kK
  have bK : AllB (msgB (mK (zes 200) d2)) := by
    have h1 : AllB (mK (zes 200) d2).head := ((((( AllB.cons hin.k AllB.nil).append (nums_b _)).append (mkB_b _)).append (leB_b _ _)).append hin.hb).append (leB_b _ _)
    exact (h1.append (entriesB_b fun p hp => (oK.e p hp).1)).append ((leB_b _ _).append hin.db)
  have kT := k_TakeMsg (msgB (mK (zes 200) d2)) bK
  rw [takeM_put hin] at kT
  have hun : (mK (zes 200) d2).un.es.length = 200 := by show ((zes 200).map _).length = 200; rw [List.length_map, List.length_replicate]
  have hud : (mK (zes 200) d2).un.data.length = 65536 := hd2l
  generalize (mK (zes 200) d2).un = U at *
  have hMK : (mK (zes 200) d2).av = av15 0 0 0 0 0 0 0 0 0 0 false 0 z32 (.bz 40 ((zes 200).map eT)) (.bz 1 d2) := rfl
  rw [hMK] at kK
  generalize msgB (mK (zes 200) d2) = X at *
  clear hMK hin oK
  refine sat_any ?_ ?_
  all_goals
    (conv => arg 3; whnf); repeat (first | ((with_reducible refine sat_brT ?_ ?_); rfl; conv => arg 3; whnf) | ((with_reducible refine sat_brF ?_ ?_); rfl; conv => arg 3; whnf) | ((with_reducible refine sat_eqv ?_ ?_); rfl; conv => arg 3; whnf))
    refine sat_asrt (by decide) ?_
    (conv => arg 3; whnf); repeat (first | ((with_reducible refine sat_brT ?_ ?_); rfl; conv => arg 3; whnf) | ((with_reducible refine sat_brF ?_ ?_); rfl; conv => arg 3; whnf) | ((with_reducible refine sat_eqv ?_ ?_); rfl; conv => arg 3; whnf))
    refine sat_asrt (by decide) ?_
    (conv => arg 3; whnf); repeat (first | ((with_reducible refine sat_brT ?_ ?_); rfl; conv => arg 3; whnf) | ((with_reducible refine sat_brF ?_ ?_); rfl; conv => arg 3; whnf) | ((with_reducible refine sat_eqv ?_ ?_); rfl; conv => arg 3; whnf))
    rw [← hd2, hd2t]
    refine sat_call (Q' := PutR (X, 0)) (by
      show ACalls _ _ _ [av15 0 0 0 0 0 0 0 0 0 0 false 0 z32 (.bz 40 (List.take (Int.toNat 200) (List.drop 0 (List.replicate (Int.toNat 200) (zE.t true))))) (.bz 1 d2)] [] _
      rw [e200]; exact kK) ?_
    rintro r H' ⟨cap5, rfl, rfl⟩
    (conv => arg 3; whnf); repeat (first | ((with_reducible refine sat_brT ?_ ?_); rfl; conv => arg 3; whnf) | ((with_reducible refine sat_brF ?_ ?_); rfl; conv => arg 3; whnf) | ((with_reducible refine sat_eqv ?_ ?_); rfl; conv => arg 3; whnf))
    rw [List.drop_zero, List.take_length]
    refine sat_call kT ?_
    rintro r H' (⟨-, rfl, rfl⟩ | ⟨h9, -⟩)
    rotate_left
    · exact absurd rfl h9
    (conv => arg 3; whnf); repeat (first | ((with_reducible refine sat_brT ?_ ?_); rfl; conv => arg 3; whnf) | ((with_reducible refine sat_brF ?_ ?_); rfl; conv => arg 3; whnf) | ((with_reducible refine sat_eqv ?_ ?_); rfl; conv => arg 3; whnf))
    refine sat_asrt (by show decide ((0 : Int) ≤ 0 ∧ (0 : Int) < ((entryB e3).length : Int)) = true; rw [hX78]; decide) ?_
    (conv => arg 3; whnf); repeat (first | ((with_reducible refine sat_brT ?_ ?_); rfl; conv => arg 3; whnf) | ((with_reducible refine sat_brF ?_ ?_); rfl; conv => arg 3; whnf) | ((with_reducible refine sat_eqv ?_ ?_); rfl; conv => arg 3; whnf))
    refine sat_idx (u8 3) (by decide) hX0 ?_
    (conv => arg 3; whnf); repeat (first | ((with_reducible refine sat_brT ?_ ?_); rfl; conv => arg 3; whnf) | ((with_reducible refine sat_brF ?_ ?_); rfl; conv => arg 3; whnf) | ((with_reducible refine sat_eqv ?_ ?_); rfl; conv => arg 3; whnf))
    refine sat_brF (by show ((U.es.length : Int) != 200) = false; rw [hun]; decide) ?_
    (conv => arg 3; whnf); repeat (first | ((with_reducible refine sat_brT ?_ ?_); rfl; conv => arg 3; whnf) | ((with_reducible refine sat_brF ?_ ?_); rfl; conv => arg 3; whnf) | ((with_reducible refine sat_eqv ?_ ?_); rfl; conv => arg 3; whnf))
    refine sat_brF (by show ((U.data.length : Int) != 65536) = false; rw [hud]; decide) ?_
    (conv => arg 3; whnf); repeat (first | ((with_reducible refine sat_brT ?_ ?_); rfl; conv => arg 3; whnf) | ((with_reducible refine sat_brF ?_ ?_); rfl; conv => arg 3; whnf) | ((with_reducible refine sat_eqv ?_ ?_); rfl; conv => arg 3; whnf))
    refine sat_asrt (by decide) ?_
    (conv => arg 3; whnf); repeat (first | ((with_reducible refine sat_brT ?_ ?_); rfl; conv => arg 3; whnf) | ((with_reducible refine sat_brF ?_ ?_); rfl; conv => arg 3; whnf) | ((with_reducible refine sat_eqv ?_ ?_); rfl; conv => arg 3; whnf))
    refine sat_asrt (by decide) ?_
    (conv => arg 3; whnf); repeat (first | ((with_reducible refine sat_brT ?_ ?_); rfl; conv => arg 3; whnf) | ((with_reducible refine sat_brF ?_ ?_); rfl; conv => arg 3; whnf) | ((with_reducible refine sat_eqv ?_ ?_); rfl; conv => arg 3; whnf))
    refine sat_idx (u8 0) (by decide) rfl ?_
    (conv => arg 3; whnf); repeat (first | ((with_reducible refine sat_brT ?_ ?_); rfl; conv => arg 3; whnf) | ((with_reducible refine sat_brF ?_ ?_); rfl; conv => arg 3; whnf) | ((with_reducible refine sat_eqv ?_ ?_); rfl; conv => arg 3; whnf))
    refine sat_call (Q' := fun r H' => r = .tup [.t zMt, ti 5] ∧ H' = []) (by
      show ACalls _ _ _ [.bz 1 many] [] _
      exact k_takeM_no many (fun y hy => by rcases List.mem_or_eq_of_mem_set hy with h | rfl; exact zeros_b 118 y h; exact ⟨201, rfl, by decide⟩) 5 (by decide) take_many) ?_
    rintro r H' ⟨rfl, rfl⟩
    (conv => arg 3; whnf); repeat (first | ((with_reducible refine sat_brT ?_ ?_); rfl; conv => arg 3; whnf) | ((with_reducible refine sat_brF ?_ ?_); rfl; conv => arg 3; whnf) | ((with_reducible refine sat_eqv ?_ ?_); rfl; conv => arg 3; whnf))
    refine sat_asrt (by decide) ?_
    (conv => arg 3; whnf); repeat (first | ((with_reducible refine sat_brT ?_ ?_); rfl; conv => arg 3; whnf) | ((with_reducible refine sat_brF ?_ ?_); rfl; conv => arg 3; whnf) | ((with_reducible refine sat_eqv ?_ ?_); rfl; conv => arg 3; whnf))
    refine sat_asrt (by decide) ?_
    (conv => arg 3; whnf); repeat (first | ((with_reducible refine sat_brT ?_ ?_); rfl; conv => arg 3; whnf) | ((with_reducible refine sat_brF ?_ ?_); rfl; conv => arg 3; whnf) | ((with_reducible refine sat_eqv ?_ ?_); rfl; conv => arg 3; whnf))
    refine sat_idx (u8 0) (by decide) rfl ?_
    (conv => arg 3; whnf); repeat (first | ((with_reducible refine sat_brT ?_ ?_); rfl; conv => arg 3; whnf) | ((with_reducible refine sat_brF ?_ ?_); rfl; conv => arg 3; whnf) | ((with_reducible refine sat_eqv ?_ ?_); rfl; conv => arg 3; whnf))
    refine sat_asrt (by decide) ?_
    (conv => arg 3; whnf); repeat (first | ((with_reducible refine sat_brT ?_ ?_); rfl; conv => arg 3; whnf) | ((with_reducible refine sat_brF ?_ ?_); rfl; conv => arg 3; whnf) | ((with_reducible refine sat_eqv ?_ ?_); rfl; conv => arg 3; whnf))
    refine sat_idx (u8 0) (by decide) rfl ?_
    (conv => arg 3; whnf); repeat (first | ((with_reducible refine sat_brT ?_ ?_); rfl; conv => arg 3; whnf) | ((with_reducible refine sat_brF ?_ ?_); rfl; conv => arg 3; whnf) | ((with_reducible refine sat_eqv ?_ ?_); rfl; conv => arg 3; whnf))
    refine sat_call (Q' := fun r H' => r = .tup [.t zCt, ti 5] ∧ H' = []) (by
      show ACalls _ _ _ [.bz 1 long] [] _
      exact k_takeC_no long (fun y hy => by
        rcases List.mem_or_eq_of_mem_set hy with h | rfl
        · rcases List.mem_or_eq_of_mem_set h with h | rfl
          · exact zeros_b 70 y h
          · exact ⟨1, rfl, by decide⟩
        · exact ⟨1, rfl, by decide⟩) 5 (by decide) take_long) ?_
    rintro r H' ⟨rfl, rfl⟩
    (conv => arg 3; whnf); repeat (first | ((with_reducible refine sat_brT ?_ ?_); rfl; conv => arg 3; whnf) | ((with_reducible refine sat_brF ?_ ?_); rfl; conv => arg 3; whnf) | ((with_reducible refine sat_eqv ?_ ?_); rfl; conv => arg 3; whnf))
    refine sat_asrt (by decide) ?_
    (conv => arg 3; whnf); repeat (first | ((with_reducible refine sat_brT ?_ ?_); rfl; conv => arg 3; whnf) | ((with_reducible refine sat_brF ?_ ?_); rfl; conv => arg 3; whnf) | ((with_reducible refine sat_eqv ?_ ?_); rfl; conv => arg 3; whnf))
    refine sat_call (Q' := TakeER (takeE (zeros 78))) (by
      show ACalls _ _ _ [.bz 1 (zeros 78)] [] _
      exact k_TakeEntry (zeros 78) (zeros_b 78)) ?_
    generalize takeE (zeros 78) = TE at *
    rintro r H' (⟨h8, rfl, rfl⟩ | ⟨h9, -⟩)
    rotate_left
    · exact absurd k78 h9
    (conv => arg 3; whnf); repeat (first | ((with_reducible refine sat_brT ?_ ?_); rfl; conv => arg 3; whnf) | ((with_reducible refine sat_brF ?_ ?_); rfl; conv => arg 3; whnf) | ((with_reducible refine sat_eqv ?_ ?_); rfl; conv => arg 3; whnf))
    refine sat_call k_wakes ?_
    rintro r H' ⟨rfl, rfl⟩
    (conv => arg 3; whnf); repeat (first | ((with_reducible refine sat_brT ?_ ?_); rfl; conv => arg 3; whnf) | ((with_reducible refine sat_brF ?_ ?_); rfl; conv => arg 3; whnf) | ((with_reducible refine sat_eqv ?_ ?_); rfl; conv => arg 3; whnf))
    exact sat_ret rfl
end Stk
