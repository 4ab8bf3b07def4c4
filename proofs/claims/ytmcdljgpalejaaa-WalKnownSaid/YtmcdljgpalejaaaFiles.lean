/- WalFiles: a file's records. -/
import Derived.Test.YtmcdljgpalejaaaW5
namespace Stk
open Go
set_option maxRecDepth 100000
set_option linter.unusedSimpArgs false
set_option linter.unusedVariables false
set_option maxHeartbeats 4000000
theorem allR_forms : ∀ {R : List (List Tr)}, AllR R → AllB (formsL R)
  | [], _ => AllB.nil
  | x :: R, h => by
    rw [formsL_cons]
    exact (formB_b (h x (by simp)).1 (h x (by simp)).2).append (allR_forms fun y hy => h y (by simp [hy]))
theorem records_forms : ∀ (R : List (List Tr)), AllR R → records (formsL R) = R
  | [], _ => rfl
  | x :: R, h => by
    obtain ⟨h1, h2⟩ := h x (by simp)
    rw [formsL_cons]
    show records (u8 _ :: u8 _ :: u8 _ :: u8 _ :: (x ++ formsL R)) = _
    rw [records_cons (n := x.length) (by omega) ⟨h2, by simp⟩, List.take_left' rfl, List.drop_left' rfl, records_forms R fun y hy => h y (by simp [hy])]
theorem bytesB {x : Tr} (h : TrD (.sl 1 (.int .u8)) x) : ∃ f L, x = .sl f 1 L ∧ AllB L := by
  obtain ⟨f, L, rfl, _, h1, h2⟩ := h
  refine ⟨f, L, rfl, ?_⟩
  intro y hy
  obtain ⟨a, rfl, w1⟩ := h2 y hy
  have := wf_u8 w1
  exact ⟨a, rfl, by omega, by omega⟩
theorem l_files (x0 : Tr) (h0 : TrD (.sl 1 (.int .u8)) x0) : ACalls PP GG F.law22_WalFiles (toAVs [x0]) [] fun r _ => r = .t (.bool true) := by
  obtain ⟨f, file, rfl, hf⟩ := bytesB h0
  refine K.law22_WalFiles.calls rfl ?_
  (conv => arg 3; whnf); repeat (first | ((with_reducible refine sat_brT ?_ ?_); rfl; conv => arg 3; whnf) | ((with_reducible refine sat_brF ?_ ?_); rfl; conv => arg 3; whnf) | ((with_reducible refine sat_eqv ?_ ?_); rfl; conv => arg 3; whnf))
  refine sat_br (fun h => ?_) (fun h => ?_)
  · refine sat_call k_wakes ?_
    rintro r H' ⟨rfl, rfl⟩
    (conv => arg 3; whnf); repeat (first | ((with_reducible refine sat_brT ?_ ?_); rfl; conv => arg 3; whnf) | ((with_reducible refine sat_brF ?_ ?_); rfl; conv => arg 3; whnf) | ((with_reducible refine sat_eqv ?_ ?_); rfl; conv => arg 3; whnf))
    exact sat_ret rfl
  · have h := of_decide_eq_false h
    (conv => arg 3; whnf); repeat (first | ((with_reducible refine sat_brT ?_ ?_); rfl; conv => arg 3; whnf) | ((with_reducible refine sat_brF ?_ ?_); rfl; conv => arg 3; whnf) | ((with_reducible refine sat_eqv ?_ ?_); rfl; conv => arg 3; whnf))
    refine sat_call k_new ?_
    rintro r H' ⟨rfl, rfl⟩
    (conv => arg 3; whnf); repeat (first | ((with_reducible refine sat_brT ?_ ?_); rfl; conv => arg 3; whnf) | ((with_reducible refine sat_brF ?_ ?_); rfl; conv => arg 3; whnf) | ((with_reducible refine sat_eqv ?_ ?_); rfl; conv => arg 3; whnf))
    refine sat_call (k_replace _ ⟨by simp, by simp, by simp, by simp, by simp, by simp⟩ file (by omega)) ?_
    rintro r H' ⟨rfl, rfl⟩
    have e1 : Dk.replace ⟨false, false, [], 0, 0, 0⟩ file = (⟨false, false, file, file.length, file.length, 0⟩, 0) := by
      exact rep0 rfl rfl (by omega)
    rw [e1]
    have hd1 : Dk.OK ⟨false, false, file, file.length, file.length, 0⟩ := ⟨by simp, by simp; omega, by simp, by simp, by simp, by simp⟩
    (conv => arg 3; whnf); repeat (first | ((with_reducible refine sat_brT ?_ ?_); rfl; conv => arg 3; whnf) | ((with_reducible refine sat_brF ?_ ?_); rfl; conv => arg 3; whnf) | ((with_reducible refine sat_eqv ?_ ?_); rfl; conv => arg 3; whnf))
    refine sat_call (k_open _ hd1 hf) ?_
    have ec : Dk.cont ⟨false, false, file, file.length, file.length, 0⟩ = file := by simp [Dk.cont]
    obtain ⟨ft, fr⟩ := forms_take _ file (Nat.le_refl _) hf
    have e2 : Dk.opn ⟨false, false, file, file.length, file.length, 0⟩ = (⟨false, false, formsL (records file), (formsL (records file)).length, (formsL (records file)).length, 0⟩, 0) := by
      unfold Dk.opn
      rw [if_neg (by simp), ec]
      by_cases hq : (formsL (records file)).length < file.length
      · rw [if_pos hq, rep0 rfl rfl (by omega)]; rfl
      · rw [if_neg hq]
        have : formsL (records file) = file := by rw [ft, List.take_of_length_le (by omega)]
        rw [this]
    have hR : AllR (records file) := fr
    have hfb : (formsL (records file)).length ≤ 5000 := by have := congrArg List.length ft; rw [List.length_take] at this; omega
    have hrl := formsL_len (records file)
    rw [e2, ec]
    generalize hDD : (⟨false, false, formsL (records file), (formsL (records file)).length, (formsL (records file)).length, 0⟩ : Dk) = D
    have hdx : D.xs = formsL (records file) := by rw [← hDD]
    have hdn : D.n = (formsL (records file)).length := by rw [← hDD]
    have hdw : D.down = false := by rw [← hDD]
    have hDc : D.cont = formsL (records file) := by rw [Dk.cont, hdx, hdn, List.take_length]
    have hrf : records (formsL (records file)) = records file := records_forms _ hR
    have hDo : D.opn = (D, 0) := by
      unfold Dk.opn
      rw [if_neg (by simp [hdw]), hDc, hrf, if_neg (by omega)]
    have hDk : D.OK := ⟨by rw [hdx, hdn]; exact Nat.le_refl _, by rw [hdn]; omega, by rw [← hDD]; simp, by rw [← hDD]; simp, by rw [← hDD]; simp, by rw [← hDD]; simp⟩
    have hDb : AllB D.xs := by rw [hdx]; exact allR_forms hR
    have hrd := k_read D hDk
    have hop := k_open D hDk hDb
    rw [hDo, hDc, hrf] at hop
    rw [show List.take D.n D.xs = formsL (records file) from hDc] at hrd
    have hsp := k_rsplit file hf (by omega)
    generalize records file = R at *
    rintro r H' (⟨h2, -⟩ | ⟨-, rfl, rfl⟩)
    · exact absurd rfl h2
    (conv => arg 3; whnf); repeat (first | ((with_reducible refine sat_brT ?_ ?_); rfl; conv => arg 3; whnf) | ((with_reducible refine sat_brF ?_ ?_); rfl; conv => arg 3; whnf) | ((with_reducible refine sat_eqv ?_ ?_); rfl; conv => arg 3; whnf))
    refine sat_call (k_records ⟨D, R, none, (formsL R).length, false⟩ hR (by show R.length ≤ _; omega)) ?_
    rintro r H' ⟨rfl, rfl⟩
    (conv => arg 3; whnf); repeat (first | ((with_reducible refine sat_brT ?_ ?_); rfl; conv => arg 3; whnf) | ((with_reducible refine sat_brF ?_ ?_); rfl; conv => arg 3; whnf) | ((with_reducible refine sat_eqv ?_ ?_); rfl; conv => arg 3; whnf))
    refine sat_call hrd ?_
    rintro r H' (⟨h2, -⟩ | ⟨-, rfl, rfl⟩)
    · rw [hdw] at h2; cases h2
    (conv => arg 3; whnf); repeat (first | ((with_reducible refine sat_brT ?_ ?_); rfl; conv => arg 3; whnf) | ((with_reducible refine sat_brF ?_ ?_); rfl; conv => arg 3; whnf) | ((with_reducible refine sat_eqv ?_ ?_); rfl; conv => arg 3; whnf))
    refine sat_call hop ?_
    rintro r H' (⟨h2, -⟩ | ⟨-, rfl, rfl⟩)
    · exact absurd rfl h2
    (conv => arg 3; whnf); repeat (first | ((with_reducible refine sat_brT ?_ ?_); rfl; conv => arg 3; whnf) | ((with_reducible refine sat_brF ?_ ?_); rfl; conv => arg 3; whnf) | ((with_reducible refine sat_eqv ?_ ?_); rfl; conv => arg 3; whnf))
    have er : List.take R.length (List.drop 0 (R.map rx)) = R.map rx := by rw [List.drop_zero, List.take_of_length_le (by simp)]
    have eb : List.take (formsL R).length (List.drop 0 (formsL R)) = formsL R := by rw [List.drop_zero, List.take_length]
    have hfB := allR_forms hR
    refine sat_call (Q' := fun r H' => r = .sl 0 0 [] 0 (formsL R).length none ∧ H' = [.row 1 (formsL R)]) (by
      show ACalls _ _ _ [.bz 1 (List.take R.length (List.drop 0 (R.map rx)))] [] _
      rw [er]; exact k_rforms R hR (by omega)) ?_
    rintro r H' ⟨rfl, rfl⟩
    (conv => arg 3; whnf); repeat (first | ((with_reducible refine sat_brT ?_ ?_); rfl; conv => arg 3; whnf) | ((with_reducible refine sat_brF ?_ ?_); rfl; conv => arg 3; whnf) | ((with_reducible refine sat_eqv ?_ ?_); rfl; conv => arg 3; whnf))
    refine sat_call (Q' := fun r H' => ∃ q, r = tb q ∧ (q = true ↔ formsL R = formsL R) ∧ H' = []) (by
      show ACalls _ _ _ [.bz 1 (List.take (formsL R).length (List.drop 0 (formsL R))), .bz 1 (List.take (formsL R).length (List.drop 0 (formsL R)))] [] _
      rw [eb]; exact k_bytes _ _ hfB hfB (by omega)) ?_
    rintro r H' ⟨q, rfl, hq, rfl⟩
    rw [hq.2 rfl]
    (conv => arg 3; whnf); repeat (first | ((with_reducible refine sat_brT ?_ ?_); rfl; conv => arg 3; whnf) | ((with_reducible refine sat_brF ?_ ?_); rfl; conv => arg 3; whnf) | ((with_reducible refine sat_eqv ?_ ?_); rfl; conv => arg 3; whnf))
    refine sat_call hrd ?_
    rintro r H' (⟨h2, -⟩ | ⟨-, rfl, rfl⟩)
    · rw [hdw] at h2; cases h2
    (conv => arg 3; whnf); repeat (first | ((with_reducible refine sat_brT ?_ ?_); rfl; conv => arg 3; whnf) | ((with_reducible refine sat_brF ?_ ?_); rfl; conv => arg 3; whnf) | ((with_reducible refine sat_eqv ?_ ?_); rfl; conv => arg 3; whnf))
    refine sat_call (Q' := fun r H' => ∃ q, r = tb q ∧ (q = true ↔ formsL R = formsL R) ∧ H' = []) (by
      show ACalls _ _ _ [.bz 1 (List.take (formsL R).length (List.drop 0 (formsL R))), .bz 1 (List.take (formsL R).length (List.drop 0 (formsL R)))] [] _
      rw [eb]; exact k_bytes _ _ hfB hfB (by omega)) ?_
    rintro r H' ⟨q, rfl, hq, rfl⟩
    rw [hq.2 rfl]
    (conv => arg 3; whnf); repeat (first | ((with_reducible refine sat_brT ?_ ?_); rfl; conv => arg 3; whnf) | ((with_reducible refine sat_brF ?_ ?_); rfl; conv => arg 3; whnf) | ((with_reducible refine sat_eqv ?_ ?_); rfl; conv => arg 3; whnf))
    refine sat_call (k_records ⟨D, R, none, (formsL R).length, false⟩ hR (by show R.length ≤ _; omega)) ?_
    rintro r H' ⟨rfl, rfl⟩
    (conv => arg 3; whnf); repeat (first | ((with_reducible refine sat_brT ?_ ?_); rfl; conv => arg 3; whnf) | ((with_reducible refine sat_brF ?_ ?_); rfl; conv => arg 3; whnf) | ((with_reducible refine sat_eqv ?_ ?_); rfl; conv => arg 3; whnf))
    refine sat_call (Q' := fun r H' => ∃ q, r = tb q ∧ (q = true ↔ R = R) ∧ H' = []) (by
      show ACalls _ _ _ [.bz 1 (List.take R.length (List.drop 0 (R.map rx))), .bz 1 (List.take R.length (List.drop 0 (R.map rx)))] [] _
      rw [er]; exact k_same _ _ hR hR (by omega)) ?_
    rintro r H' ⟨q, rfl, hq, rfl⟩
    rw [hq.2 rfl]
    (conv => arg 3; whnf); repeat (first | ((with_reducible refine sat_brT ?_ ?_); rfl; conv => arg 3; whnf) | ((with_reducible refine sat_brF ?_ ?_); rfl; conv => arg 3; whnf) | ((with_reducible refine sat_eqv ?_ ?_); rfl; conv => arg 3; whnf))
    refine sat_call hsp ?_
    rintro r H' ⟨rfl, rfl⟩
    (conv => arg 3; whnf); repeat (first | ((with_reducible refine sat_brT ?_ ?_); rfl; conv => arg 3; whnf) | ((with_reducible refine sat_brF ?_ ?_); rfl; conv => arg 3; whnf) | ((with_reducible refine sat_eqv ?_ ?_); rfl; conv => arg 3; whnf))
    refine sat_call (Q' := fun r H' => ∃ q, r = tb q ∧ (q = true ↔ R = R) ∧ H' = []) (by
      show ACalls _ _ _ [.bz 1 (List.take R.length (List.drop 0 (R.map rx))), .bz 1 (List.take R.length (List.drop 0 (R.map rx)))] [] _
      rw [er]; exact k_same _ _ hR hR (by omega)) ?_
    rintro r H' ⟨q, rfl, hq, rfl⟩
    rw [hq.2 rfl]
    (conv => arg 3; whnf); repeat (first | ((with_reducible refine sat_brT ?_ ?_); rfl; conv => arg 3; whnf) | ((with_reducible refine sat_brF ?_ ?_); rfl; conv => arg 3; whnf) | ((with_reducible refine sat_eqv ?_ ?_); rfl; conv => arg 3; whnf))
    refine sat_call k_wakes ?_
    rintro r H' ⟨rfl, rfl⟩
    (conv => arg 3; whnf); repeat (first | ((with_reducible refine sat_brT ?_ ?_); rfl; conv => arg 3; whnf) | ((with_reducible refine sat_brF ?_ ?_); rfl; conv => arg 3; whnf) | ((with_reducible refine sat_eqv ?_ ?_); rfl; conv => arg 3; whnf))
    exact sat_ret rfl
end Stk
