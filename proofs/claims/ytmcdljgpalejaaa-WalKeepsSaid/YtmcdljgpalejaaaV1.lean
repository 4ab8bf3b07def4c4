/- The law's own records: copies, beginnings, sizes. -/
import Derived.Test.YtmcdljgpalejaaaW8
import Derived.Test.YtmcdljgpalejaaaFw28
namespace Stk
open Go
set_option maxRecDepth 100000
set_option linter.unusedSimpArgs false
set_option linter.unusedVariables false
set_option maxHeartbeats 4000000
theorem lensum_take_succ {R : List (List Tr)} {i : Nat} {x : List Tr} (h : R[i]? = some x) : lensum (R.take (i + 1)) = lensum (R.take i) + x.length := by
  rw [take_succ_get h]; simp [lensum]
structure LaSt (Q : List (List Tr)) where
  i : Nat
  le : i ≤ Q.length
theorem k_large (Q : List (List Tr)) (hl : Q.length ≤ 2 ^ 48) (hx : ∀ x ∈ Q, x.length ≤ 2 ^ 48) : ACalls PP GG F.law22_large [.bz 1 (Q.map rx)] [] fun r H' => ∃ q, r = tb q ∧ (q = false → Q.length + lensum Q ≤ 2000) ∧ H' = [] := by
  refine K.law22_large.callsC rfl ?_
  (conv => arg 3; whnf); repeat (first | ((with_reducible refine sat_brT ?_ ?_); rfl; conv => arg 3; whnf) | ((with_reducible refine sat_brF ?_ ?_); rfl; conv => arg 3; whnf) | ((with_reducible refine sat_eqv ?_ ?_); rfl; conv => arg 3; whnf))
  refine sat_loopOf mkX_ops (σ := { x : LaSt Q // lensum (Q.take x.i) ≤ 2 ^ 49 }) (fun x => [(0, .bz 1 (Q.map rx)), (3, ti ((Q.map rx).length + lensum (Q.take x.1.i))), (4, ti x.1.i)]) (fun _ => []) (fun x => Q.length - x.1.i)
    (fun ex fr' H' => H' = [] ∧ ex = .exit 0 ∧ ∃ n : Nat, fr' = [(3, ti n)] ∧ (n ≤ 2000 → Q.length + lensum Q ≤ 2000)) ⟨⟨0, Nat.zero_le _⟩, by simp [lensum]⟩ ?_ ?_
  · rintro ⟨⟨i, hi⟩, hs⟩
    dsimp only at hs ⊢
    have hs' : (Q.map rx).length = Q.length := List.length_map ..
    have hcast : ((Q.map rx).length : Int) + (lensum (Q.take i) : Int) = ((Q.length + lensum (Q.take i) : Nat) : Int) := by rw [hs']; push_cast; rfl
    refine sat_br (fun h => ?_) (fun h => ?_)
    · have h : i < Q.length := by simpa using h
      have hu : Q[i]? = some Q[i] := List.getElem?_eq_getElem h
      have hul := hx _ (List.getElem_mem h)
      generalize Q[i] = u at *
      have hsum := lensum_take_succ hu
      (conv => arg 3; whnf); repeat (first | ((with_reducible refine sat_brT ?_ ?_); rfl; conv => arg 3; whnf) | ((with_reducible refine sat_brF ?_ ?_); rfl; conv => arg 3; whnf) | ((with_reducible refine sat_eqv ?_ ?_); rfl; conv => arg 3; whnf))
      refine sat_br (fun h2 => ?_) (fun h2 => ?_)
      · have h2 := of_decide_eq_true h2
        (conv => arg 3; whnf); repeat (first | ((with_reducible refine sat_brT ?_ ?_); rfl; conv => arg 3; whnf) | ((with_reducible refine sat_brF ?_ ?_); rfl; conv => arg 3; whnf) | ((with_reducible refine sat_eqv ?_ ?_); rfl; conv => arg 3; whnf))
        refine sat_idx (rx u) (by simp) (by simpa using get_rx hu) ?_
        (conv => arg 3; whnf); repeat (first | ((with_reducible refine sat_brT ?_ ?_); rfl; conv => arg 3; whnf) | ((with_reducible refine sat_brF ?_ ?_); rfl; conv => arg 3; whnf) | ((with_reducible refine sat_eqv ?_ ?_); rfl; conv => arg 3; whnf))
        refine sat_rng (wrap64 (by omega) (by omega)) ?_
        (conv => arg 3; whnf); repeat (first | ((with_reducible refine sat_brT ?_ ?_); rfl; conv => arg 3; whnf) | ((with_reducible refine sat_brF ?_ ?_); rfl; conv => arg 3; whnf) | ((with_reducible refine sat_eqv ?_ ?_); rfl; conv => arg 3; whnf))
        refine sat_rng (wrap64 (by omega) (by omega)) ?_
        refine sat_ret ⟨⟨⟨i + 1, by omega⟩, by show lensum (Q.take (i + 1)) ≤ _; omega⟩, ?_, rfl, by show Q.length - (i + 1) < Q.length - i; omega⟩
        show _ = [(0, AV.bz 1 (Q.map rx)), (3, ti ((Q.map rx).length + lensum (Q.take (i + 1)))), (4, ti (i + 1 : Nat))]
        rw [hsum]
        push_cast
        rw [Int.add_assoc]
        rfl
      · have h2 := of_decide_eq_false h2
        (conv => arg 3; whnf); repeat (first | ((with_reducible refine sat_brT ?_ ?_); rfl; conv => arg 3; whnf) | ((with_reducible refine sat_brF ?_ ?_); rfl; conv => arg 3; whnf) | ((with_reducible refine sat_eqv ?_ ?_); rfl; conv => arg 3; whnf))
        refine sat_ret ⟨rfl, rfl, Q.length + lensum (Q.take i), by rw [← hcast]; rfl, fun h3 => ?_⟩
        omega
    · have h : ¬ i < Q.length := by simpa using h
      (conv => arg 3; whnf); repeat (first | ((with_reducible refine sat_brT ?_ ?_); rfl; conv => arg 3; whnf) | ((with_reducible refine sat_brF ?_ ?_); rfl; conv => arg 3; whnf) | ((with_reducible refine sat_eqv ?_ ?_); rfl; conv => arg 3; whnf))
      refine sat_ret ⟨rfl, rfl, Q.length + lensum (Q.take i), by rw [← hcast]; rfl, fun h3 => ?_⟩
      rwa [List.take_of_length_le (by omega)] at h3
  · rintro ex fr' H' ⟨rfl, rfl, n, rfl, hn⟩
    (conv => arg 3; whnf); repeat (first | ((with_reducible refine sat_brT ?_ ?_); rfl; conv => arg 3; whnf) | ((with_reducible refine sat_brF ?_ ?_); rfl; conv => arg 3; whnf) | ((with_reducible refine sat_eqv ?_ ?_); rfl; conv => arg 3; whnf))
    exact sat_ret ⟨_, rfl, fun h => hn (by have := of_decide_eq_false h; omega), rfl⟩
theorem k_first (Q : List (List Tr)) : ACalls PP GG F.law22_first [.t (.sl false 1 (Q.map rx))] [] fun r H' => (Q = [] ∧ r = .sl 0 0 [] 0 0 none ∧ H' = [.row 1 []]) ∨ ∃ u S, Q = u :: S ∧ r = .t (rx u) ∧ H' = [] := by
  refine K.law22_first.callsC rfl ?_
  (conv => arg 3; whnf); repeat (first | ((with_reducible refine sat_brT ?_ ?_); rfl; conv => arg 3; whnf) | ((with_reducible refine sat_brF ?_ ?_); rfl; conv => arg 3; whnf) | ((with_reducible refine sat_eqv ?_ ?_); rfl; conv => arg 3; whnf))
  cases Q with
  | nil =>
    (conv => arg 3; whnf); repeat (first | ((with_reducible refine sat_brT ?_ ?_); rfl; conv => arg 3; whnf) | ((with_reducible refine sat_brF ?_ ?_); rfl; conv => arg 3; whnf) | ((with_reducible refine sat_eqv ?_ ?_); rfl; conv => arg 3; whnf))
    exact sat_ret (.inl ⟨rfl, rfl, rfl⟩)
  | cons u S =>
    refine sat_brF (by simp; omega) ?_
    (conv => arg 3; whnf); repeat (first | ((with_reducible refine sat_brT ?_ ?_); rfl; conv => arg 3; whnf) | ((with_reducible refine sat_brF ?_ ?_); rfl; conv => arg 3; whnf) | ((with_reducible refine sat_eqv ?_ ?_); rfl; conv => arg 3; whnf))
    refine sat_idx (rx u) (by simp) (by simp) ?_
    (conv => arg 3; whnf); repeat (first | ((with_reducible refine sat_brT ?_ ?_); rfl; conv => arg 3; whnf) | ((with_reducible refine sat_brF ?_ ?_); rfl; conv => arg 3; whnf) | ((with_reducible refine sat_eqv ?_ ?_); rfl; conv => arg 3; whnf))
    exact sat_ret (.inr ⟨u, S, rfl, rfl, rfl⟩)
theorem k_begins (a b : List (List Tr)) (ha : AllR a) (hb : AllR b) (hl : a.length ≤ 2 ^ 50) : ACalls PP GG F.law22_begins [.bz 1 (a.map rx), .bz 1 (b.map rx)] [] fun r H' => ∃ q, r = tb q ∧ (q = true ↔ b <+: a) ∧ H' = [] := by
  refine K.law22_begins.callsC rfl ?_
  (conv => arg 3; whnf); repeat (first | ((with_reducible refine sat_brT ?_ ?_); rfl; conv => arg 3; whnf) | ((with_reducible refine sat_brF ?_ ?_); rfl; conv => arg 3; whnf) | ((with_reducible refine sat_eqv ?_ ?_); rfl; conv => arg 3; whnf))
  refine sat_br (fun h => ?_) (fun h => ?_)
  · have h : b.length ≤ a.length := by simpa using h
    (conv => arg 3; whnf); repeat (first | ((with_reducible refine sat_brT ?_ ?_); rfl; conv => arg 3; whnf) | ((with_reducible refine sat_brF ?_ ?_); rfl; conv => arg 3; whnf) | ((with_reducible refine sat_eqv ?_ ?_); rfl; conv => arg 3; whnf))
    refine sat_asrt (by first | rfl | (simp; done) | (simp; omega)) ?_
    (conv => arg 3; whnf); repeat (first | ((with_reducible refine sat_brT ?_ ?_); rfl; conv => arg 3; whnf) | ((with_reducible refine sat_brF ?_ ?_); rfl; conv => arg 3; whnf) | ((with_reducible refine sat_eqv ?_ ?_); rfl; conv => arg 3; whnf))
    have e : List.take (b.map rx).length (List.drop 0 (a.map rx)) = (a.take b.length).map rx := by rw [List.drop_zero, List.length_map, List.map_take]
    have k := k_same (a.take b.length) b (fun x hx => ha x (List.mem_of_mem_take hx)) hb (by rw [List.length_take]; omega)
    rw [List.map_take, ← List.length_map (f := rx)] at k
    refine sat_call k ?_
    rintro r H' ⟨q, rfl, hq, rfl⟩
    (conv => arg 3; whnf); repeat (first | ((with_reducible refine sat_brT ?_ ?_); rfl; conv => arg 3; whnf) | ((with_reducible refine sat_brF ?_ ?_); rfl; conv => arg 3; whnf) | ((with_reducible refine sat_eqv ?_ ?_); rfl; conv => arg 3; whnf))
    refine sat_ret ⟨q, rfl, ?_, rfl⟩
    rw [hq, List.prefix_iff_eq_take, List.length_map]
    exact eq_comm
  · have h : ¬ b.length ≤ a.length := by simpa using h
    (conv => arg 3; whnf); repeat (first | ((with_reducible refine sat_brT ?_ ?_); rfl; conv => arg 3; whnf) | ((with_reducible refine sat_brF ?_ ?_); rfl; conv => arg 3; whnf) | ((with_reducible refine sat_eqv ?_ ?_); rfl; conv => arg 3; whnf))
    refine sat_ret ⟨false, rfl, ?_, rfl⟩
    simp
    intro hp
    exact h hp.length_le
theorem k_ownR (Q : List (List Tr)) (hl : Q.length ≤ 2 ^ 40) (hx : ∀ x ∈ Q, x.length ≤ 2 ^ 40) : ACalls PP GG F.law22_own [.bz 1 (Q.map rx)] [] fun r H' => r = .sl 0 0 [] 0 Q.length none ∧ H' = [.row 1 (Q.map rx)] := by
  refine K.law22_own.callsC rfl ?_
  (conv => arg 3; whnf); repeat (first | ((with_reducible refine sat_brT ?_ ?_); rfl; conv => arg 3; whnf) | ((with_reducible refine sat_brF ?_ ?_); rfl; conv => arg 3; whnf) | ((with_reducible refine sat_eqv ?_ ?_); rfl; conv => arg 3; whnf))
  refine sat_loopOf mkX_ops (σ := LaSt Q) (fun x => [(0, .bz 1 (Q.map rx)), (3, .sl 0 0 [] 0 (Q.take x.i).length none), (4, ti x.i)]) (fun x => [.row 1 ((Q.take x.i).map rx)]) (fun x => Q.length - x.i)
    (fun ex fr' H' => H' = [.row 1 (Q.map rx)] ∧ ex = .exit 0 ∧ fr' = [(3, .sl 0 0 [] 0 Q.length none)]) ⟨0, Nat.zero_le _⟩ ?_ ?_
  · rintro ⟨i, hi⟩
    dsimp only
    refine sat_br (fun h => ?_) (fun h => ?_)
    · have h : i < Q.length := by simpa using h
      have hu : Q[i]? = some Q[i] := List.getElem?_eq_getElem h
      have hul := hx _ (List.getElem_mem h)
      generalize Q[i] = u at *
      (conv => arg 3; whnf); repeat (first | ((with_reducible refine sat_brT ?_ ?_); rfl; conv => arg 3; whnf) | ((with_reducible refine sat_brF ?_ ?_); rfl; conv => arg 3; whnf) | ((with_reducible refine sat_eqv ?_ ?_); rfl; conv => arg 3; whnf))
      refine sat_idx (rx u) (by simp) (by simpa using get_rx hu) ?_
      (conv => arg 3; whnf); repeat (first | ((with_reducible refine sat_brT ?_ ?_); rfl; conv => arg 3; whnf) | ((with_reducible refine sat_brF ?_ ?_); rfl; conv => arg 3; whnf) | ((with_reducible refine sat_eqv ?_ ?_); rfl; conv => arg 3; whnf))
      refine sat_asrt (by simp [roomy]; omega) ?_
      (conv => arg 3; whnf); repeat (first | ((with_reducible refine sat_brT ?_ ?_); rfl; conv => arg 3; whnf) | ((with_reducible refine sat_brF ?_ ?_); rfl; conv => arg 3; whnf) | ((with_reducible refine sat_eqv ?_ ?_); rfl; conv => arg 3; whnf))
      refine sat_asrt (by simp) ?_
      refine sat_asrt (by simp [roomy]; omega) ?_
      refine sat_brT (by simp) ?_
      (conv => arg 3; whnf); repeat (first | ((with_reducible refine sat_brT ?_ ?_); rfl; conv => arg 3; whnf) | ((with_reducible refine sat_brF ?_ ?_); rfl; conv => arg 3; whnf) | ((with_reducible refine sat_eqv ?_ ?_); rfl; conv => arg 3; whnf))
      refine sat_rng (wrap64 (by omega) (by omega)) ?_
      have em : List.take u.length (List.drop 0 u) = u := by rw [List.drop_zero, List.take_length]
      have e2 : (Q.take i).map rx ++ [rx u] = (Q.take (i + 1)).map rx := by rw [take_succ_get hu, List.map_append]; rfl
      refine sat_ret ⟨⟨i + 1, by omega⟩, ?_, ?_, by show Q.length - (i + 1) < Q.length - i; omega⟩
      · rw [em, show List.take 1 (List.drop 0 [Tr.sl false 1 u]) = [rx u] from rfl, e2, List.length_map]; rfl
      · rw [em, show List.take 1 (List.drop 0 [Tr.sl false 1 u]) = [rx u] from rfl, e2]
    · have h : ¬ i < Q.length := by simpa using h
      rw [List.take_of_length_le (by omega)]
      exact sat_ret ⟨rfl, rfl, rfl⟩
  · rintro ex fr' H' ⟨rfl, rfl, rfl⟩
    (conv => arg 3; whnf); repeat (first | ((with_reducible refine sat_brT ?_ ?_); rfl; conv => arg 3; whnf) | ((with_reducible refine sat_brF ?_ ?_); rfl; conv => arg 3; whnf) | ((with_reducible refine sat_eqv ?_ ?_); rfl; conv => arg 3; whnf))
    exact sat_ret ⟨rfl, rfl⟩
end Stk
