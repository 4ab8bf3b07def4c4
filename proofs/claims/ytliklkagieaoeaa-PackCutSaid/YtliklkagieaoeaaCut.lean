/- PackCut: a form that is cut short, or goes on. -/
import Derived.Test.YtliklkagieaoeaaQ2
import Derived.Test.YtliklkagieaoeaaP11c
namespace Stk
open Go
set_option maxRecDepth 100000
set_option linter.unusedSimpArgs false
set_option linter.unusedVariables false
set_option maxHeartbeats 8000000
theorem k_takeM_no (L : List Tr) (hL : AllB L) (e : Int) (he : e ≠ 0) (h : takeM L = (zM, e)) : ACalls PP GG F.pack_TakeMsg [.bz 1 L] [] fun r H' => r = .tup [.t zMt, ti e] ∧ H' = [] := by
  have k := k_TakeMsg L hL
  rw [h] at k
  refine k.mono ?_
  rintro r H' (⟨h1, -⟩ | ⟨-, -, h2, h3⟩)
  · exact absurd h1 he
  · exact ⟨h2, h3⟩
theorem put_casesM {m : Ms} (hw : m.WB) (ht : m.data.length + tot m.es ≤ 300000) : (putM m = (msgB m, 0) ∧ m.IN ∧ (msgB m).length ≤ 300200 ∧ AllB (msgB m) ∧ 118 ≤ (msgB m).length) ∨ putM m = ([], 3) := by
  have hm := hw.ok ht
  obtain ⟨hb1, hb2⟩ := putM_b hm ht
  by_cases hb : m.bad = true
  · exact .inr (by unfold putM; rw [if_pos hb])
  · have e : putM m = (msgB m, 0) := by unfold putM; rw [if_neg hb]
    rw [e] at hb1 hb2
    refine .inl ⟨e, hw.isIn hb, hb2, hb1, ?_⟩
    have := Ms.head_len hm
    unfold msgB
    rw [List.length_append, List.length_append]
    omega
theorem l_cut (x0 x1 x2 : Tr) (h0 : TrD MsD x0) (h1 : TrD (.int .u32) x1) (h2 : TrD (.int .u8) x2) : ACalls PP GG F.law20_PackCut (toAVs [x0, x1, x2]) [] fun r _ => r = .t (.bool true) := by
  obtain ⟨m, f, g, rfl, hw⟩ := ms_of h0
  obtain ⟨at_, rfl, wat⟩ := h1
  obtain ⟨more, rfl, wmo⟩ := h2
  have hmo := wf_u8 wmo
  have hat : 0 ≤ at_ ∧ at_ ≤ 4294967295 := by
    simp only [Lit.wf, Bool.and_eq_true, decide_eq_true_eq] at wat
    have h1 : IntKind.min .u32 = 0 := by decide
    have h2 : IntKind.max .u32 = 4294967295 := by decide
    omega
  clear h0 wat wmo
  have hhg := k_huge m (by have := hw.dl; omega) (by have := hw.el; omega) (fun p hp => by have := (hw.e p hp).2.2; omega)
  refine K.law20_PackCut.callsC rfl ?_
  (conv => arg 3; whnf); repeat (first | ((with_reducible refine sat_brT ?_ ?_); rfl; conv => arg 3; whnf) | ((with_reducible refine sat_brF ?_ ?_); rfl; conv => arg 3; whnf) | ((with_reducible refine sat_eqv ?_ ?_); rfl; conv => arg 3; whnf))
  refine sat_call hhg ?_
  rintro r H' ⟨q, rfl, hq, rfl⟩
  cases q
  rotate_left
  · (conv => arg 3; whnf); repeat (first | ((with_reducible refine sat_brT ?_ ?_); rfl; conv => arg 3; whnf) | ((with_reducible refine sat_brF ?_ ?_); rfl; conv => arg 3; whnf) | ((with_reducible refine sat_eqv ?_ ?_); rfl; conv => arg 3; whnf))
    refine sat_call k_wakes ?_
    rintro r H' ⟨rfl, rfl⟩
    (conv => arg 3; whnf); repeat (first | ((with_reducible refine sat_brT ?_ ?_); rfl; conv => arg 3; whnf) | ((with_reducible refine sat_brF ?_ ?_); rfl; conv => arg 3; whnf) | ((with_reducible refine sat_eqv ?_ ?_); rfl; conv => arg 3; whnf))
    exact sat_ret rfl
  have ht := hq rfl
  have hm : m.OK := hw.ok ht
  have kP := k_PutMsgC m hm
  rcases put_casesM hw ht with ⟨e, hin, hxl, hxb, hx118⟩ | e
  · rw [e] at kP
    have hcut := fun (T : List Tr) => takeM_cut (T := T) hin
    have hmore := takeM_more hin (u8 more) []
    generalize msgB m = X at *
    (conv => arg 3; whnf); repeat (first | ((with_reducible refine sat_brT ?_ ?_); rfl; conv => arg 3; whnf) | ((with_reducible refine sat_brF ?_ ?_); rfl; conv => arg 3; whnf) | ((with_reducible refine sat_eqv ?_ ?_); rfl; conv => arg 3; whnf))
    refine sat_call kP ?_
    rintro r H' ⟨cap, hcap, rfl, rfl⟩
    (conv => arg 3; whnf); repeat (first | ((with_reducible refine sat_brT ?_ ?_); rfl; conv => arg 3; whnf) | ((with_reducible refine sat_brF ?_ ?_); rfl; conv => arg 3; whnf) | ((with_reducible refine sat_eqv ?_ ?_); rfl; conv => arg 3; whnf))
    refine sat_brF (decide_eq_false (by show ¬ ((X.length : Int) = 0); omega)) ?_
    refine sat_rng (wrap64 (by omega) (by omega)) ?_
    (conv => arg 3; whnf); repeat (first | ((with_reducible refine sat_brT ?_ ?_); rfl; conv => arg 3; whnf) | ((with_reducible refine sat_brF ?_ ?_); rfl; conv => arg 3; whnf) | ((with_reducible refine sat_eqv ?_ ?_); rfl; conv => arg 3; whnf))
    refine sat_asrt (by show ((X.length : Int) != 0) = true; exact bne_iff_ne.2 (by omega)) ?_
    have hX0 : (0 : Int) < (X.length : Int) := by omega
    obtain ⟨p, hp, hp2⟩ : ∃ p : Nat, at_.tmod (X.length : Int) = (p : Int) ∧ p < X.length := by
      rw [Int.tmod_eq_emod_of_nonneg hat.1]
      have h1 := Int.emod_nonneg at_ (show (X.length : Int) ≠ 0 by omega)
      have h2 := Int.emod_lt_of_pos at_ hX0
      exact ⟨(at_ % (X.length : Int)).toNat, by omega, by omega⟩
    rw [hp]
    (conv => arg 3; whnf); repeat (first | ((with_reducible refine sat_brT ?_ ?_); rfl; conv => arg 3; whnf) | ((with_reducible refine sat_brF ?_ ?_); rfl; conv => arg 3; whnf) | ((with_reducible refine sat_eqv ?_ ?_); rfl; conv => arg 3; whnf))
    have hcap2 : (p : Int) ≤ ((cap.getD (max X.length (X.length - 0)) : Nat) : Int) := by
      rcases hcap with rfl | rfl
      · show (p : Int) ≤ ((max X.length (X.length - 0) : Nat) : Int); omega
      · show (p : Int) ≤ (X.length : Int); omega
    refine sat_asrt (by show decide (0 ≤ (p : Int) ∧ (p : Int) ≤ ((cap.getD (max X.length (X.length - 0)) : Nat) : Int)) = true; exact decide_eq_true ⟨by omega, hcap2⟩) ?_
    (conv => arg 3; whnf); repeat (first | ((with_reducible refine sat_brT ?_ ?_); rfl; conv => arg 3; whnf) | ((with_reducible refine sat_brF ?_ ?_); rfl; conv => arg 3; whnf) | ((with_reducible refine sat_eqv ?_ ?_); rfl; conv => arg 3; whnf))
    have hTp : X.take p <+: X := List.take_prefix p X
    have hTne : X.take p ≠ X := fun e => by have := congrArg List.length e; rw [List.length_take] at this; omega
    refine sat_call (Q' := fun r H' => r = .tup [.t zMt, ti 4] ∧ H' = []) (by
      show ACalls _ _ _ [.bz 1 (X.take p)] [] _
      exact k_takeM_no _ (hxb.take p) 4 (by decide) (hcut _ hTp hTne)) ?_
    rintro r H' ⟨rfl, rfl⟩
    (conv => arg 3; whnf); repeat (first | ((with_reducible refine sat_brT ?_ ?_); rfl; conv => arg 3; whnf) | ((with_reducible refine sat_brF ?_ ?_); rfl; conv => arg 3; whnf) | ((with_reducible refine sat_eqv ?_ ?_); rfl; conv => arg 3; whnf))
    have etx : List.take X.length (List.drop 0 X) = X := by rw [List.drop_zero, List.take_length]
    refine sat_asrt (by show roomy (List.take X.length (List.drop 0 X)).length 1 = true; rw [etx]; simp [roomy]; omega) ?_
    (conv => arg 3; whnf); repeat (first | ((with_reducible refine sat_brT ?_ ?_); rfl; conv => arg 3; whnf) | ((with_reducible refine sat_brF ?_ ?_); rfl; conv => arg 3; whnf) | ((with_reducible refine sat_eqv ?_ ?_); rfl; conv => arg 3; whnf))
    refine sat_asrt (by simp) ?_
    refine sat_asrt (by show roomy ((List.take X.length (List.drop 0 X)).length + 1) 1 = true; rw [etx]; simp [roomy]; omega) ?_
    refine sat_brT (by simp) ?_
    (conv => arg 3; whnf); repeat (first | ((with_reducible refine sat_brT ?_ ?_); rfl; conv => arg 3; whnf) | ((with_reducible refine sat_brF ?_ ?_); rfl; conv => arg 3; whnf) | ((with_reducible refine sat_eqv ?_ ?_); rfl; conv => arg 3; whnf))
    have hall : AllB (X ++ [u8 more]) := hxb.append (AllB.cons hmo AllB.nil)
    refine sat_call (Q' := fun r H' => r = .tup [.t zMt, ti 5] ∧ H' = []) (by
      show ACalls _ _ _ [.bz 1 (List.take (List.take X.length (List.drop 0 X) ++ [u8 more]).length (List.drop 0 (List.take X.length (List.drop 0 X) ++ [u8 more])))] [] _
      rw [etx, List.drop_zero, List.take_length]
      exact k_takeM_no _ hall 5 (by decide) hmore) ?_
    rintro r H' ⟨rfl, rfl⟩
    (conv => arg 3; whnf); repeat (first | ((with_reducible refine sat_brT ?_ ?_); rfl; conv => arg 3; whnf) | ((with_reducible refine sat_brF ?_ ?_); rfl; conv => arg 3; whnf) | ((with_reducible refine sat_eqv ?_ ?_); rfl; conv => arg 3; whnf))
    refine sat_call k_wakes ?_
    rintro r H' ⟨rfl, rfl⟩
    (conv => arg 3; whnf); repeat (first | ((with_reducible refine sat_brT ?_ ?_); rfl; conv => arg 3; whnf) | ((with_reducible refine sat_brF ?_ ?_); rfl; conv => arg 3; whnf) | ((with_reducible refine sat_eqv ?_ ?_); rfl; conv => arg 3; whnf))
    exact sat_ret rfl
  · rw [e] at kP
    (conv => arg 3; whnf); repeat (first | ((with_reducible refine sat_brT ?_ ?_); rfl; conv => arg 3; whnf) | ((with_reducible refine sat_brF ?_ ?_); rfl; conv => arg 3; whnf) | ((with_reducible refine sat_eqv ?_ ?_); rfl; conv => arg 3; whnf))
    refine sat_call kP ?_
    rintro r H' ⟨cap, hcap, rfl, rfl⟩
    (conv => arg 3; whnf); repeat (first | ((with_reducible refine sat_brT ?_ ?_); rfl; conv => arg 3; whnf) | ((with_reducible refine sat_brF ?_ ?_); rfl; conv => arg 3; whnf) | ((with_reducible refine sat_eqv ?_ ?_); rfl; conv => arg 3; whnf))
    refine sat_call k_wakes ?_
    rintro r H' ⟨rfl, rfl⟩
    (conv => arg 3; whnf); repeat (first | ((with_reducible refine sat_brT ?_ ?_); rfl; conv => arg 3; whnf) | ((with_reducible refine sat_brF ?_ ?_); rfl; conv => arg 3; whnf) | ((with_reducible refine sat_eqv ?_ ?_); rfl; conv => arg 3; whnf))
    exact sat_ret rfl
end Stk
