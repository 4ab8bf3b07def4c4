/- Contracts of the document's net, and of Keep. -/
import Derived.Test.YtkkgpjklcpnicaaNs
import Derived.Test.YtkkgpjklcpnicaaWk
namespace Stk
open Go
set_option maxRecDepth 100000
set_option linter.unusedSimpArgs false
set_option linter.unusedVariables false
set_option maxHeartbeats 2000000
abbrev Rn.v (L : List Tr) (b : Nat) : AO := .var (.agg [.sl b 0 [] 0 L.length none])
abbrev Rn.H (L : List Tr) : Hp := [Rn.v L 1, .row 1 L]
abbrev Rn.H' (L : List Tr) : Hp := [Rn.v L 2, .gone, .row 1 L]
def Rn.has (L : List Tr) (i : Int) : Bool := decide (0 ≤ i ∧ i < (L.length : Int))
theorem r_has (L : List Tr) (i : Int) : ACalls PP GG F.ref27_Net_has [pt 0, ti i] (Rn.H L) fun r H' => r = tb (Rn.has L i) ∧ H' = Rn.H L := by
  refine K.ref27_Net_has.callsQ rfl ?_
  (conv => arg 3; whnf); repeat (first | ((with_reducible refine sat_brT ?_ ?_); rfl; conv => arg 3; whnf) | ((with_reducible refine sat_brF ?_ ?_); rfl; conv => arg 3; whnf) | ((with_reducible refine sat_eqv ?_ ?_); rfl; conv => arg 3; whnf))
  refine sat_br (fun h => ?_) (fun h => ?_)
  · have h := of_decide_eq_true h
    (conv => arg 3; whnf); repeat (first | ((with_reducible refine sat_brT ?_ ?_); rfl; conv => arg 3; whnf) | ((with_reducible refine sat_brF ?_ ?_); rfl; conv => arg 3; whnf) | ((with_reducible refine sat_eqv ?_ ?_); rfl; conv => arg 3; whnf))
    refine sat_ret ⟨?_, rfl⟩
    simp [Rn.has, h]
  · have h := of_decide_eq_false h
    (conv => arg 3; whnf); repeat (first | ((with_reducible refine sat_brT ?_ ?_); rfl; conv => arg 3; whnf) | ((with_reducible refine sat_brF ?_ ?_); rfl; conv => arg 3; whnf) | ((with_reducible refine sat_eqv ?_ ?_); rfl; conv => arg 3; whnf))
    refine sat_ret ⟨?_, rfl⟩
    simp [Rn.has, h]
def Rn.send (L ys : List Tr) : List Tr × Int := if (L.length : Int) + ys.length > 4096 then (L, 7) else (L ++ ys, 0)
theorem r_send (L : List Tr) (hL : L.length ≤ 4096) (f : Bool) (ys : List Tr) (hy : ys.length ≤ 2 ^ 47) : ACalls PP GG F.ref27_Net_Send [pt 0, .t (.sl f 1 ys)] (Rn.H L) fun r H' => r = ti (Rn.send L ys).2 ∧ H' = Rn.H' (Rn.send L ys).1 := by
  refine K.ref27_Net_Send.callsC rfl ?_
  (conv => arg 3; whnf); repeat (first | ((with_reducible refine sat_brT ?_ ?_); rfl; conv => arg 3; whnf) | ((with_reducible refine sat_brF ?_ ?_); rfl; conv => arg 3; whnf) | ((with_reducible refine sat_eqv ?_ ?_); rfl; conv => arg 3; whnf))
  refine sat_rng (wrap64 (by omega) (by omega)) ?_
  (conv => arg 3; whnf); repeat (first | ((with_reducible refine sat_brT ?_ ?_); rfl; conv => arg 3; whnf) | ((with_reducible refine sat_brF ?_ ?_); rfl; conv => arg 3; whnf) | ((with_reducible refine sat_eqv ?_ ?_); rfl; conv => arg 3; whnf))
  refine sat_br (fun h => ?_) (fun h => ?_)
  · have e : Rn.send L ys = (L, 7) := by unfold Rn.send; rw [if_pos (of_decide_eq_true h)]
    rw [e]
    (conv => arg 3; whnf); repeat (first | ((with_reducible refine sat_brT ?_ ?_); rfl; conv => arg 3; whnf) | ((with_reducible refine sat_brF ?_ ?_); rfl; conv => arg 3; whnf) | ((with_reducible refine sat_eqv ?_ ?_); rfl; conv => arg 3; whnf))
    exact sat_ret ⟨rfl, rfl⟩
  · have h := of_decide_eq_false h
    have e : Rn.send L ys = (L ++ ys, 0) := by unfold Rn.send; rw [if_neg h]
    rw [e]
    (conv => arg 3; whnf); repeat (first | ((with_reducible refine sat_brT ?_ ?_); rfl; conv => arg 3; whnf) | ((with_reducible refine sat_brF ?_ ?_); rfl; conv => arg 3; whnf) | ((with_reducible refine sat_eqv ?_ ?_); rfl; conv => arg 3; whnf))
    refine sat_asrt (by simp) ?_
    refine sat_asrt (by simp [roomy]; omega) ?_
    (conv => arg 3; whnf); repeat (first | ((with_reducible refine sat_brT ?_ ?_); rfl; conv => arg 3; whnf) | ((with_reducible refine sat_brF ?_ ?_); rfl; conv => arg 3; whnf) | ((with_reducible refine sat_eqv ?_ ?_); rfl; conv => arg 3; whnf))
    refine sat_asrt (by simp) ?_
    refine sat_asrt (by simp [roomy]; omega) ?_
    refine sat_brT (Nat.beq_refl _) ?_
    (conv => arg 3; whnf); repeat (first | ((with_reducible refine sat_brT ?_ ?_); rfl; conv => arg 3; whnf) | ((with_reducible refine sat_brF ?_ ?_); rfl; conv => arg 3; whnf) | ((with_reducible refine sat_eqv ?_ ?_); rfl; conv => arg 3; whnf))
    refine sat_ret ?_
    simp [retP]
theorem r_sendO (L : List Tr) (hL : L.length ≤ 4096) (k : Nat) (hk : k < L.length) : ACalls PP GG F.ref27_Net_Send [pt 0, .sl 1 0 [] (0 + k) (k + 1 - k) none] (Rn.H L) fun r H' =>
    (L.length = 4096 ∧ r = ti 7 ∧ H' = Rn.H L) ∨ (L.length < 4096 ∧ r = ti 0 ∧ ∃ y, L[k]? = some y ∧ H' = [Rn.v (L ++ [y]) 2, .row 1 L, .row 1 (L ++ [y])]) := by
  refine K.ref27_Net_Send.callsC rfl ?_
  have e1 : k + 1 - k = 1 := by omega
  have eg : L[k]? = some L[k] := List.getElem?_eq_getElem hk
  have e2 : (L.drop (0 + k)).take (k + 1 - k) = [L[k]] := by
    rw [e1, Nat.zero_add, List.drop_eq_getElem_cons hk, List.take_succ_cons, List.take_zero]
  generalize L[k] = y at eg e2
  (conv => arg 3; whnf); repeat (first | ((with_reducible refine sat_brT ?_ ?_); rfl; conv => arg 3; whnf) | ((with_reducible refine sat_brF ?_ ?_); rfl; conv => arg 3; whnf) | ((with_reducible refine sat_eqv ?_ ?_); rfl; conv => arg 3; whnf))
  refine sat_rng (wrap64 (by omega) (by omega)) ?_
  (conv => arg 3; whnf); repeat (first | ((with_reducible refine sat_brT ?_ ?_); rfl; conv => arg 3; whnf) | ((with_reducible refine sat_brF ?_ ?_); rfl; conv => arg 3; whnf) | ((with_reducible refine sat_eqv ?_ ?_); rfl; conv => arg 3; whnf))
  refine sat_br (fun h => ?_) (fun h => ?_)
  · have h := of_decide_eq_true h
    (conv => arg 3; whnf); repeat (first | ((with_reducible refine sat_brT ?_ ?_); rfl; conv => arg 3; whnf) | ((with_reducible refine sat_brF ?_ ?_); rfl; conv => arg 3; whnf) | ((with_reducible refine sat_eqv ?_ ?_); rfl; conv => arg 3; whnf))
    exact sat_ret (.inl ⟨by omega, rfl, rfl⟩)
  · have h := of_decide_eq_false h
    (conv => arg 3; whnf); repeat (first | ((with_reducible refine sat_brT ?_ ?_); rfl; conv => arg 3; whnf) | ((with_reducible refine sat_brF ?_ ?_); rfl; conv => arg 3; whnf) | ((with_reducible refine sat_eqv ?_ ?_); rfl; conv => arg 3; whnf))
    refine sat_asrt (by simp) ?_
    refine sat_asrt (by simp [roomy]; omega) ?_
    (conv => arg 3; whnf); repeat (first | ((with_reducible refine sat_brT ?_ ?_); rfl; conv => arg 3; whnf) | ((with_reducible refine sat_brF ?_ ?_); rfl; conv => arg 3; whnf) | ((with_reducible refine sat_eqv ?_ ?_); rfl; conv => arg 3; whnf))
    refine sat_asrt (by simp) ?_
    rw [e2]
    refine sat_asrt (by simp [roomy]; omega) ?_
    refine sat_brT (Nat.beq_refl _) ?_
    (conv => arg 3; whnf); repeat (first | ((with_reducible refine sat_brT ?_ ?_); rfl; conv => arg 3; whnf) | ((with_reducible refine sat_brF ?_ ?_); rfl; conv => arg 3; whnf) | ((with_reducible refine sat_eqv ?_ ?_); rfl; conv => arg 3; whnf))
    refine sat_ret (.inr ⟨by omega, rfl, y, eg, ?_⟩)
    simp
theorem r_dup (L : List Tr) (hL : L.length ≤ 4096) (i : Int) : ACalls PP GG F.ref27_Net_Dup [pt 0, ti i] (Rn.H L) fun r H' =>
    (Rn.has L i = false ∧ r = ti 6 ∧ H' = Rn.H' L) ∨ (Rn.has L i = true ∧ ∃ y, L[i.toNat]? = some y ∧ r = ti (Rn.send L [y]).2 ∧ H' = Rn.H' (Rn.send L [y]).1) := by
  refine K.ref27_Net_Dup.callsC rfl ?_
  refine sat_call (r_has L i) ?_
  rintro r H' ⟨rfl, rfl⟩
  cases hh : Rn.has L i with
  | false =>
    (conv => arg 3; whnf); repeat (first | ((with_reducible refine sat_brT ?_ ?_); rfl; conv => arg 3; whnf) | ((with_reducible refine sat_brF ?_ ?_); rfl; conv => arg 3; whnf) | ((with_reducible refine sat_eqv ?_ ?_); rfl; conv => arg 3; whnf))
    exact sat_ret (.inl ⟨rfl, rfl, rfl⟩)
  | true =>
    have hi : 0 ≤ i ∧ i < (L.length : Int) := of_decide_eq_true hh
    obtain ⟨k, rfl⟩ : ∃ k : Nat, i = k := ⟨i.toNat, by omega⟩
    have hk1 : ((k : Int) + 1).toNat = k + 1 := by omega
    have hk0 : (k : Int).toNat = k := Int.toNat_natCast k
    have hk : k < L.length := by omega
    (conv => arg 3; whnf); repeat (first | ((with_reducible refine sat_brT ?_ ?_); rfl; conv => arg 3; whnf) | ((with_reducible refine sat_brF ?_ ?_); rfl; conv => arg 3; whnf) | ((with_reducible refine sat_eqv ?_ ?_); rfl; conv => arg 3; whnf))
    refine sat_rng (wrap64 (by omega) (by omega)) ?_
    (conv => arg 3; whnf); repeat (first | ((with_reducible refine sat_brT ?_ ?_); rfl; conv => arg 3; whnf) | ((with_reducible refine sat_brF ?_ ?_); rfl; conv => arg 3; whnf) | ((with_reducible refine sat_eqv ?_ ?_); rfl; conv => arg 3; whnf))
    refine sat_asrt (by simp; omega) ?_
    refine sat_asrt (by simp; omega) ?_
    rw [hk0, hk1]
    (conv => arg 3; whnf); repeat (first | ((with_reducible refine sat_brT ?_ ?_); rfl; conv => arg 3; whnf) | ((with_reducible refine sat_brF ?_ ?_); rfl; conv => arg 3; whnf) | ((with_reducible refine sat_eqv ?_ ?_); rfl; conv => arg 3; whnf))
    refine sat_call (r_sendO L hL k hk) ?_
    rintro r H' (⟨h1, rfl, rfl⟩ | ⟨h1, rfl, y, hy, rfl⟩)
    · (conv => arg 3; whnf); repeat (first | ((with_reducible refine sat_brT ?_ ?_); rfl; conv => arg 3; whnf) | ((with_reducible refine sat_brF ?_ ?_); rfl; conv => arg 3; whnf) | ((with_reducible refine sat_eqv ?_ ?_); rfl; conv => arg 3; whnf))
      have hy : L[k]? = some L[k] := List.getElem?_eq_getElem hk
      refine sat_ret (.inr ⟨rfl, _, hy, ?_, ?_⟩) <;> (unfold Rn.send; rw [if_pos (by simp; omega)])
    · (conv => arg 3; whnf); repeat (first | ((with_reducible refine sat_brT ?_ ?_); rfl; conv => arg 3; whnf) | ((with_reducible refine sat_brF ?_ ?_); rfl; conv => arg 3; whnf) | ((with_reducible refine sat_eqv ?_ ?_); rfl; conv => arg 3; whnf))
      refine sat_ret (.inr ⟨rfl, y, hy, ?_, ?_⟩) <;> (unfold Rn.send; rw [if_neg (by simp; omega)])
theorem r_at (L : List Tr) (ha : Ns.All L) (i : Int) : ACalls PP GG F.ref27_Net_At [pt 0, ti i] (Rn.H L) fun r H' =>
    H' = Rn.H L ∧ ((Rn.has L i = false ∧ r = .tup [.t (.str ⟨#[]⟩), ti 6]) ∨ (Rn.has L i = true ∧ ∃ s, L[i.toNat]? = some (.str s) ∧ r = .tup [.t (.str s), ti 0])) := by
  refine K.ref27_Net_At.callsQ rfl ?_
  refine sat_call (r_has L i) ?_
  rintro r H' ⟨rfl, rfl⟩
  cases hh : Rn.has L i with
  | false =>
    (conv => arg 3; whnf); repeat (first | ((with_reducible refine sat_brT ?_ ?_); rfl; conv => arg 3; whnf) | ((with_reducible refine sat_brF ?_ ?_); rfl; conv => arg 3; whnf) | ((with_reducible refine sat_eqv ?_ ?_); rfl; conv => arg 3; whnf))
    exact sat_ret ⟨rfl, .inl ⟨rfl, rfl⟩⟩
  | true =>
    have hi : 0 ≤ i ∧ i < (L.length : Int) := of_decide_eq_true hh
    obtain ⟨j, rfl⟩ : ∃ k : Nat, i = k := ⟨i.toNat, by omega⟩
    obtain ⟨s, hs⟩ := ha.get (show j < L.length by omega)
    (conv => arg 3; whnf); repeat (first | ((with_reducible refine sat_brT ?_ ?_); rfl; conv => arg 3; whnf) | ((with_reducible refine sat_brF ?_ ?_); rfl; conv => arg 3; whnf) | ((with_reducible refine sat_eqv ?_ ?_); rfl; conv => arg 3; whnf))
    refine sat_asrt (decide_eq_true (by omega)) ?_
    (conv => arg 3; whnf); repeat (first | ((with_reducible refine sat_brT ?_ ?_); rfl; conv => arg 3; whnf) | ((with_reducible refine sat_brF ?_ ?_); rfl; conv => arg 3; whnf) | ((with_reducible refine sat_eqv ?_ ?_); rfl; conv => arg 3; whnf))
    refine sat_idx (.str s) (by simp) (by simpa using hs) ?_
    (conv => arg 3; whnf); repeat (first | ((with_reducible refine sat_brT ?_ ?_); rfl; conv => arg 3; whnf) | ((with_reducible refine sat_brF ?_ ?_); rfl; conv => arg 3; whnf) | ((with_reducible refine sat_eqv ?_ ?_); rfl; conv => arg 3; whnf))
    exact sat_ret ⟨rfl, .inr ⟨rfl, s, hs, rfl⟩⟩
structure DeSt (L : List Tr) where
  k : Nat
  kl : k ≤ L.length
theorem erase_take {L : List Tr} {i k : Nat} {y : Tr} (hy : L[k]? = some y) : (L.take (k + 1)).eraseIdx i = if k = i then (L.take k).eraseIdx i else (L.take k).eraseIdx i ++ [y] := by
  have hk : k < L.length := by rcases Nat.lt_or_ge k L.length with h | h; exact h; rw [List.getElem?_eq_none h] at hy; cases hy
  have e : L.take (k + 1) = L.take k ++ [y] := by rw [List.take_add_one, hy]; rfl
  have lk : (L.take k).length = k := by rw [List.length_take]; omega
  rw [e]
  split
  · rename_i h; subst h
    have e1 : [y].eraseIdx 0 = [] := rfl
    rw [List.eraseIdx_append_of_length_le (by omega), lk, Nat.sub_self, e1, List.eraseIdx_of_length_le (by omega), List.append_nil]
  · rename_i h
    by_cases hi : i < k
    · rw [List.eraseIdx_append_of_lt_length (by omega)]
    · have e1 : [y].eraseIdx (i - k) = [y] := List.eraseIdx_of_length_le (by rw [List.length_singleton]; omega)
      rw [List.eraseIdx_append_of_length_le (by omega), lk, e1, List.eraseIdx_of_length_le (l := L.take k) (by omega)]
theorem r_deliver (L : List Tr) (ha : Ns.All L) (hL : L.length ≤ 4096) (i : Int) : ACalls PP GG F.ref27_Net_Deliver [pt 0, ti i] (Rn.H L) fun r H' =>
    (Rn.has L i = false ∧ r = .tup [.t (.str ⟨#[]⟩), ti 6] ∧ H' = Rn.H' L) ∨ (Rn.has L i = true ∧ ∃ s, L[i.toNat]? = some (.str s) ∧ r = .tup [.t (.str s), ti 0] ∧ H' = Rn.H' (L.eraseIdx i.toNat)) := by
  refine K.ref27_Net_Deliver.callsC rfl ?_
  refine sat_call (r_has L i) ?_
  rintro r H' ⟨rfl, rfl⟩
  cases hh : Rn.has L i with
  | false =>
    (conv => arg 3; whnf); repeat (first | ((with_reducible refine sat_brT ?_ ?_); rfl; conv => arg 3; whnf) | ((with_reducible refine sat_brF ?_ ?_); rfl; conv => arg 3; whnf) | ((with_reducible refine sat_eqv ?_ ?_); rfl; conv => arg 3; whnf))
    exact sat_ret (.inl ⟨rfl, rfl, rfl⟩)
  | true =>
    have hi : 0 ≤ i ∧ i < (L.length : Int) := of_decide_eq_true hh
    obtain ⟨j, rfl⟩ : ∃ k : Nat, i = k := ⟨i.toNat, by omega⟩
    obtain ⟨s, hs⟩ := ha.get (show j < L.length by omega)
    (conv => arg 3; whnf); repeat (first | ((with_reducible refine sat_brT ?_ ?_); rfl; conv => arg 3; whnf) | ((with_reducible refine sat_brF ?_ ?_); rfl; conv => arg 3; whnf) | ((with_reducible refine sat_eqv ?_ ?_); rfl; conv => arg 3; whnf))
    refine sat_asrt (decide_eq_true (by omega)) ?_
    (conv => arg 3; whnf); repeat (first | ((with_reducible refine sat_brT ?_ ?_); rfl; conv => arg 3; whnf) | ((with_reducible refine sat_brF ?_ ?_); rfl; conv => arg 3; whnf) | ((with_reducible refine sat_eqv ?_ ?_); rfl; conv => arg 3; whnf))
    refine sat_idx (.str s) (by simp) (by simpa using hs) ?_
    (conv => arg 3; whnf); repeat (first | ((with_reducible refine sat_brT ?_ ?_); rfl; conv => arg 3; whnf) | ((with_reducible refine sat_brF ?_ ?_); rfl; conv => arg 3; whnf) | ((with_reducible refine sat_eqv ?_ ?_); rfl; conv => arg 3; whnf))
    refine sat_loopOf mkX_ops (σ := DeSt L) (fun x => [(0, pt 0), (1, ti j), (6, .t (.str s)), (7, .sl 2 0 [] 0 ((L.take x.k).eraseIdx j).length none), (8, ti x.k)]) (fun x => [Rn.v L 1, .row 1 L, .row 1 ((L.take x.k).eraseIdx j)]) (fun x => L.length - x.k)
      (fun ex fr' H' => ex = .exit 0 ∧ fr' = [(0, pt 0), (6, .t (.str s)), (7, .sl 2 0 [] 0 (L.eraseIdx j).length none)] ∧ H' = [Rn.v L 1, .row 1 L, .row 1 (L.eraseIdx j)]) ⟨0, Nat.zero_le _⟩ ?_ ?_
    · rintro ⟨k, kl⟩
      dsimp only
      have hol : ((L.take k).eraseIdx j).length ≤ 4096 := by
        have := List.length_eraseIdx_le (l := L.take k) (i := j); simp at this; omega
      refine sat_br (fun hk => ?_) (fun hk => ?_)
      · have hk : k < L.length := by have := of_decide_eq_true hk; omega
        obtain ⟨u, hu⟩ := ha.get hk
        have he := erase_take (i := j) hu
        (conv => arg 3; whnf); repeat (first | ((with_reducible refine sat_brT ?_ ?_); rfl; conv => arg 3; whnf) | ((with_reducible refine sat_brF ?_ ?_); rfl; conv => arg 3; whnf) | ((with_reducible refine sat_eqv ?_ ?_); rfl; conv => arg 3; whnf))
        refine sat_br (fun hne => ?_) (fun hne => ?_)
        · have hne : ¬ k = j := by simp at hne; omega
          rw [if_neg hne] at he
          (conv => arg 3; whnf); repeat (first | ((with_reducible refine sat_brT ?_ ?_); rfl; conv => arg 3; whnf) | ((with_reducible refine sat_brF ?_ ?_); rfl; conv => arg 3; whnf) | ((with_reducible refine sat_eqv ?_ ?_); rfl; conv => arg 3; whnf))
          refine sat_asrt (decide_eq_true (by omega)) ?_
          (conv => arg 3; whnf); repeat (first | ((with_reducible refine sat_brT ?_ ?_); rfl; conv => arg 3; whnf) | ((with_reducible refine sat_brF ?_ ?_); rfl; conv => arg 3; whnf) | ((with_reducible refine sat_eqv ?_ ?_); rfl; conv => arg 3; whnf))
          refine sat_idx (.str u) (by simp) (by simpa using hu) ?_
          (conv => arg 3; whnf); repeat (first | ((with_reducible refine sat_brT ?_ ?_); rfl; conv => arg 3; whnf) | ((with_reducible refine sat_brF ?_ ?_); rfl; conv => arg 3; whnf) | ((with_reducible refine sat_eqv ?_ ?_); rfl; conv => arg 3; whnf))
          refine sat_asrt (by first | rfl | (simp; done) | (simp; omega)) ?_
          refine sat_asrt (by simp [roomy]; omega) ?_
          refine sat_brT (Nat.beq_refl _) ?_
          (conv => arg 3; whnf); repeat (first | ((with_reducible refine sat_brT ?_ ?_); rfl; conv => arg 3; whnf) | ((with_reducible refine sat_brF ?_ ?_); rfl; conv => arg 3; whnf) | ((with_reducible refine sat_eqv ?_ ?_); rfl; conv => arg 3; whnf))
          refine sat_rng (wrap64 (by omega) (by omega)) ?_
          exact sat_ret ⟨⟨k + 1, hk⟩, by dsimp only; rw [he]; try rfl, by dsimp only; rw [he]; try rfl, by show L.length - (k + 1) < L.length - k; omega⟩
        · have hne : k = j := by simp at hne; omega
          rw [if_pos hne] at he
          (conv => arg 3; whnf); repeat (first | ((with_reducible refine sat_brT ?_ ?_); rfl; conv => arg 3; whnf) | ((with_reducible refine sat_brF ?_ ?_); rfl; conv => arg 3; whnf) | ((with_reducible refine sat_eqv ?_ ?_); rfl; conv => arg 3; whnf))
          refine sat_rng (wrap64 (by omega) (by omega)) ?_
          exact sat_ret ⟨⟨k + 1, hk⟩, by dsimp only; rw [he]; try rfl, by dsimp only; rw [he]; try rfl, by show L.length - (k + 1) < L.length - k; omega⟩
      · have hk : ¬ k < L.length := by have := of_decide_eq_false hk; omega
        rw [show L.take k = L from List.take_of_length_le (by omega)]
        (conv => arg 3; whnf); repeat (first | ((with_reducible refine sat_brT ?_ ?_); rfl; conv => arg 3; whnf) | ((with_reducible refine sat_brF ?_ ?_); rfl; conv => arg 3; whnf) | ((with_reducible refine sat_eqv ?_ ?_); rfl; conv => arg 3; whnf))
        refine sat_ret ?_
        exact ⟨rfl, rfl, rfl⟩
    · rintro ex fr' H' ⟨rfl, rfl, rfl⟩
      (conv => arg 3; whnf); repeat (first | ((with_reducible refine sat_brT ?_ ?_); rfl; conv => arg 3; whnf) | ((with_reducible refine sat_brF ?_ ?_); rfl; conv => arg 3; whnf) | ((with_reducible refine sat_eqv ?_ ?_); rfl; conv => arg 3; whnf))
      exact sat_ret (.inr ⟨rfl, s, hs, rfl, rfl⟩)
def longer (m : Int) : Tr → Bool
  | .str s => decide ((s.size : Int) > m)
  | _ => false
theorem filter_take {L : List Tr} {p : Tr → Bool} {k : Nat} {y : Tr} (hy : L[k]? = some y) : (L.take (k + 1)).filter p = if p y then (L.take k).filter p ++ [y] else (L.take k).filter p := by
  have e : L.take (k + 1) = L.take k ++ [y] := by rw [List.take_add_one, hy]; rfl
  rw [e, List.filter_append]
  cases h : p y <;> simp [h]
theorem r_keep (L : List Tr) (ha : Ns.All L) (hL : L.length ≤ 4096) (m : Int) : ACalls PP GG F.ref27_Net_Keep [pt 0, ti m] (Rn.H L) fun r H' => r = ti ((L.length : Int) - ((L.filter (longer m)).length : Int)) ∧ H' = Rn.H' (L.filter (longer m)) := by
  refine K.ref27_Net_Keep.callsC rfl ?_
  (conv => arg 3; whnf); repeat (first | ((with_reducible refine sat_brT ?_ ?_); rfl; conv => arg 3; whnf) | ((with_reducible refine sat_brF ?_ ?_); rfl; conv => arg 3; whnf) | ((with_reducible refine sat_eqv ?_ ?_); rfl; conv => arg 3; whnf))
  refine sat_loopOf mkX_ops (σ := DeSt L) (fun x => [(0, pt 0), (1, ti m), (5, .sl 2 0 [] 0 ((L.take x.k).filter (longer m)).length none), (6, ti x.k)]) (fun x => [Rn.v L 1, .row 1 L, .row 1 ((L.take x.k).filter (longer m))]) (fun x => L.length - x.k)
    (fun ex fr' H' => ex = .exit 0 ∧ fr' = [(0, pt 0), (5, .sl 2 0 [] 0 (L.filter (longer m)).length none)] ∧ H' = [Rn.v L 1, .row 1 L, .row 1 (L.filter (longer m))]) ⟨0, Nat.zero_le _⟩ ?_ ?_
  · rintro ⟨k, kl⟩
    dsimp only
    have hol : ((L.take k).filter (longer m)).length ≤ 4096 := by
      have := List.length_filter_le (longer m) (L.take k); simp at this; omega
    refine sat_br (fun hk => ?_) (fun hk => ?_)
    · have hk : k < L.length := by have := of_decide_eq_true hk; omega
      obtain ⟨u, hu⟩ := ha.get hk
      have he := filter_take (p := longer m) hu
      (conv => arg 3; whnf); repeat (first | ((with_reducible refine sat_brT ?_ ?_); rfl; conv => arg 3; whnf) | ((with_reducible refine sat_brF ?_ ?_); rfl; conv => arg 3; whnf) | ((with_reducible refine sat_eqv ?_ ?_); rfl; conv => arg 3; whnf))
      refine sat_asrt (decide_eq_true (by omega)) ?_
      (conv => arg 3; whnf); repeat (first | ((with_reducible refine sat_brT ?_ ?_); rfl; conv => arg 3; whnf) | ((with_reducible refine sat_brF ?_ ?_); rfl; conv => arg 3; whnf) | ((with_reducible refine sat_eqv ?_ ?_); rfl; conv => arg 3; whnf))
      refine sat_idx (.str u) (by simp) (by simpa using hu) ?_
      (conv => arg 3; whnf); repeat (first | ((with_reducible refine sat_brT ?_ ?_); rfl; conv => arg 3; whnf) | ((with_reducible refine sat_brF ?_ ?_); rfl; conv => arg 3; whnf) | ((with_reducible refine sat_eqv ?_ ?_); rfl; conv => arg 3; whnf))
      refine sat_br (fun hlg => ?_) (fun hlg => ?_)
      · rw [if_pos (show longer m (.str u) = true from hlg)] at he
        (conv => arg 3; whnf); repeat (first | ((with_reducible refine sat_brT ?_ ?_); rfl; conv => arg 3; whnf) | ((with_reducible refine sat_brF ?_ ?_); rfl; conv => arg 3; whnf) | ((with_reducible refine sat_eqv ?_ ?_); rfl; conv => arg 3; whnf))
        refine sat_asrt (decide_eq_true (by omega)) ?_
        (conv => arg 3; whnf); repeat (first | ((with_reducible refine sat_brT ?_ ?_); rfl; conv => arg 3; whnf) | ((with_reducible refine sat_brF ?_ ?_); rfl; conv => arg 3; whnf) | ((with_reducible refine sat_eqv ?_ ?_); rfl; conv => arg 3; whnf))
        refine sat_idx (.str u) (by simp) (by simpa using hu) ?_
        (conv => arg 3; whnf); repeat (first | ((with_reducible refine sat_brT ?_ ?_); rfl; conv => arg 3; whnf) | ((with_reducible refine sat_brF ?_ ?_); rfl; conv => arg 3; whnf) | ((with_reducible refine sat_eqv ?_ ?_); rfl; conv => arg 3; whnf))
        refine sat_asrt (by first | rfl | (simp; done) | (simp; omega)) ?_
        refine sat_asrt (by simp [roomy]; omega) ?_
        refine sat_brT (Nat.beq_refl _) ?_
        (conv => arg 3; whnf); repeat (first | ((with_reducible refine sat_brT ?_ ?_); rfl; conv => arg 3; whnf) | ((with_reducible refine sat_brF ?_ ?_); rfl; conv => arg 3; whnf) | ((with_reducible refine sat_eqv ?_ ?_); rfl; conv => arg 3; whnf))
        refine sat_rng (wrap64 (by omega) (by omega)) ?_
        exact sat_ret ⟨⟨k + 1, hk⟩, by dsimp only; rw [he]; try rfl, by dsimp only; rw [he]; try rfl, by show L.length - (k + 1) < L.length - k; omega⟩
      · rw [if_neg (show ¬ longer m (.str u) = true by rw [show longer m (.str u) = false from hlg]; simp)] at he
        (conv => arg 3; whnf); repeat (first | ((with_reducible refine sat_brT ?_ ?_); rfl; conv => arg 3; whnf) | ((with_reducible refine sat_brF ?_ ?_); rfl; conv => arg 3; whnf) | ((with_reducible refine sat_eqv ?_ ?_); rfl; conv => arg 3; whnf))
        refine sat_rng (wrap64 (by omega) (by omega)) ?_
        exact sat_ret ⟨⟨k + 1, hk⟩, by dsimp only; rw [he]; try rfl, by dsimp only; rw [he]; try rfl, by show L.length - (k + 1) < L.length - k; omega⟩
    · have hk : ¬ k < L.length := by have := of_decide_eq_false hk; omega
      rw [show L.take k = L from List.take_of_length_le (by omega)]
      (conv => arg 3; whnf); repeat (first | ((with_reducible refine sat_brT ?_ ?_); rfl; conv => arg 3; whnf) | ((with_reducible refine sat_brF ?_ ?_); rfl; conv => arg 3; whnf) | ((with_reducible refine sat_eqv ?_ ?_); rfl; conv => arg 3; whnf))
      refine sat_ret ?_
      exact ⟨rfl, rfl, rfl⟩
  · rintro ex fr' H' ⟨rfl, rfl, rfl⟩
    have := List.length_filter_le (longer m) L
    (conv => arg 3; whnf); repeat (first | ((with_reducible refine sat_brT ?_ ?_); rfl; conv => arg 3; whnf) | ((with_reducible refine sat_brF ?_ ?_); rfl; conv => arg 3; whnf) | ((with_reducible refine sat_eqv ?_ ?_); rfl; conv => arg 3; whnf))
    refine sat_rng (wrap64 (by omega) (by omega)) ?_
    (conv => arg 3; whnf); repeat (first | ((with_reducible refine sat_brT ?_ ?_); rfl; conv => arg 3; whnf) | ((with_reducible refine sat_brF ?_ ?_); rfl; conv => arg 3; whnf) | ((with_reducible refine sat_eqv ?_ ?_); rfl; conv => arg 3; whnf))
    exact sat_ret ⟨rfl, rfl⟩
theorem k_pred (a n : Int) (f : Bool) (ys : List Tr) (s : ByteArray) : ACalls PP GG F.law27_NetPlays_1 [.t (.str s), pt 0] [.var (.t (.agg [.int .i64 a, .int .i64 n, .sl f 1 ys]))] fun r H' => r = tb (longer n (.str s)) ∧ H' = [.var (.t (.agg [.int .i64 a, .int .i64 n, .sl f 1 ys]))] := by
  refine K.law27_NetPlays_1.callsQ rfl ?_
  (conv => arg 3; whnf); repeat (first | ((with_reducible refine sat_brT ?_ ?_); rfl; conv => arg 3; whnf) | ((with_reducible refine sat_brF ?_ ?_); rfl; conv => arg 3; whnf) | ((with_reducible refine sat_eqv ?_ ?_); rfl; conv => arg 3; whnf))
  exact sat_ret ⟨rfl, rfl⟩
structure KpSt (L : List Tr) where
  k : Nat
  kl : k ≤ L.length
theorem k_keep (d : Nt) (hd : Ns.OK d) (a n : Int) (f : Bool) (ys : List Tr) : ACalls PP GG F.net_Net_string_Keep [pt 0, .fn F.law27_NetPlays_1 [] [pt 2]] [d.v 1, .row 1 d.xs, .var (.t (.agg [.int .i64 a, .int .i64 n, .sl f 1 ys]))] fun r H' =>
    r = ti ((d.c.length : Int) - ((d.c.filter (longer n)).length : Int)) ∧ H' = [Nt.v ⟨d.c.filter (longer n), (d.c.filter (longer n)).length⟩ 3, .gone, .var (.t (.agg [.int .i64 a, .int .i64 n, .sl f 1 ys])), .row 1 (d.c.filter (longer n))] := by
  have hcl := Ns.c_length hd
  have hn := hd.n
  have hb := hd.big
  refine K.net_Net_string_Keep.callsC rfl ?_
  refine sat_call (Ns.real d) ?_
  rintro r H' ⟨rfl, rfl⟩
  (conv => arg 3; whnf); repeat (first | ((with_reducible refine sat_brT ?_ ?_); rfl; conv => arg 3; whnf) | ((with_reducible refine sat_brF ?_ ?_); rfl; conv => arg 3; whnf) | ((with_reducible refine sat_eqv ?_ ?_); rfl; conv => arg 3; whnf))
  refine sat_loopOf mkX_ops (σ := KpSt d.c) (fun x => [(0, pt 0), (1, .fn F.law27_NetPlays_1 [] [pt 2]), (5, .sl 3 0 [] 0 ((d.c.take x.k).filter (longer n)).length none), (15, .sl 1 0 [] 0 d.n none), (16, ti d.n), (17, ti x.k)]) (fun x => [d.v 1, .row 1 d.xs, .var (.t (.agg [.int .i64 a, .int .i64 n, .sl f 1 ys])), .row 1 ((d.c.take x.k).filter (longer n))]) (fun x => d.c.length - x.k)
    (fun ex fr' H' => ex = .exit 0 ∧ fr' = [(0, pt 0), (5, .sl 3 0 [] 0 (d.c.filter (longer n)).length none)] ∧ H' = [d.v 1, .row 1 d.xs, .var (.t (.agg [.int .i64 a, .int .i64 n, .sl f 1 ys])), .row 1 (d.c.filter (longer n))]) ⟨0, Nat.zero_le _⟩ ?_ ?_
  · rintro ⟨k, kl⟩
    dsimp only
    have hol : ((d.c.take k).filter (longer n)).length ≤ 4096 := by
      have := List.length_filter_le (longer n) (d.c.take k); simp at this; omega
    refine sat_br (fun hk => ?_) (fun hk => ?_)
    · have hk : k < d.n := by have := of_decide_eq_true hk; omega
      obtain ⟨u, hu⟩ := hd.all.get (show k < d.xs.length by omega)
      have hu' : d.c[k]? = some (.str u) := by show (d.xs.take d.n)[k]? = _; rw [List.getElem?_take, if_pos hk]; exact hu
      have he := filter_take (p := longer n) hu'
      (conv => arg 3; whnf); repeat (first | ((with_reducible refine sat_brT ?_ ?_); rfl; conv => arg 3; whnf) | ((with_reducible refine sat_brF ?_ ?_); rfl; conv => arg 3; whnf) | ((with_reducible refine sat_eqv ?_ ?_); rfl; conv => arg 3; whnf))
      refine sat_asrt (decide_eq_true (by omega)) ?_
      (conv => arg 3; whnf); repeat (first | ((with_reducible refine sat_brT ?_ ?_); rfl; conv => arg 3; whnf) | ((with_reducible refine sat_brF ?_ ?_); rfl; conv => arg 3; whnf) | ((with_reducible refine sat_eqv ?_ ?_); rfl; conv => arg 3; whnf))
      refine sat_idx (.str u) (by simp) (by simpa using hu) ?_
      (conv => arg 3; whnf); repeat (first | ((with_reducible refine sat_brT ?_ ?_); rfl; conv => arg 3; whnf) | ((with_reducible refine sat_brF ?_ ?_); rfl; conv => arg 3; whnf) | ((with_reducible refine sat_eqv ?_ ?_); rfl; conv => arg 3; whnf))
      refine sat_call (k_pred a n f ys u) ?_
      rintro r H' ⟨rfl, rfl⟩
      (conv => arg 3; whnf); repeat (first | ((with_reducible refine sat_brT ?_ ?_); rfl; conv => arg 3; whnf) | ((with_reducible refine sat_brF ?_ ?_); rfl; conv => arg 3; whnf) | ((with_reducible refine sat_eqv ?_ ?_); rfl; conv => arg 3; whnf))
      refine sat_br (fun hlg => ?_) (fun hlg => ?_)
      · rw [if_pos hlg] at he
        (conv => arg 3; whnf); repeat (first | ((with_reducible refine sat_brT ?_ ?_); rfl; conv => arg 3; whnf) | ((with_reducible refine sat_brF ?_ ?_); rfl; conv => arg 3; whnf) | ((with_reducible refine sat_eqv ?_ ?_); rfl; conv => arg 3; whnf))
        refine sat_asrt (by first | rfl | (simp; done) | (simp; omega)) ?_
        refine sat_asrt (by simp [roomy]; omega) ?_
        refine sat_brT (Nat.beq_refl _) ?_
        (conv => arg 3; whnf); repeat (first | ((with_reducible refine sat_brT ?_ ?_); rfl; conv => arg 3; whnf) | ((with_reducible refine sat_brF ?_ ?_); rfl; conv => arg 3; whnf) | ((with_reducible refine sat_eqv ?_ ?_); rfl; conv => arg 3; whnf))
        refine sat_rng (wrap64 (by omega) (by omega)) ?_
        exact sat_ret ⟨⟨k + 1, by omega⟩, by dsimp only; rw [he]; try rfl, by dsimp only; rw [he]; try rfl, by show d.c.length - (k + 1) < d.c.length - k; omega⟩
      · rw [if_neg (by rw [hlg]; simp)] at he
        (conv => arg 3; whnf); repeat (first | ((with_reducible refine sat_brT ?_ ?_); rfl; conv => arg 3; whnf) | ((with_reducible refine sat_brF ?_ ?_); rfl; conv => arg 3; whnf) | ((with_reducible refine sat_eqv ?_ ?_); rfl; conv => arg 3; whnf))
        refine sat_rng (wrap64 (by omega) (by omega)) ?_
        exact sat_ret ⟨⟨k + 1, by omega⟩, by dsimp only; rw [he]; try rfl, by dsimp only; rw [he]; try rfl, by show d.c.length - (k + 1) < d.c.length - k; omega⟩
    · have hk : ¬ k < d.n := by have := of_decide_eq_false hk; omega
      rw [show d.c.take k = d.c from List.take_of_length_le (by omega)]
      (conv => arg 3; whnf); repeat (first | ((with_reducible refine sat_brT ?_ ?_); rfl; conv => arg 3; whnf) | ((with_reducible refine sat_brF ?_ ?_); rfl; conv => arg 3; whnf) | ((with_reducible refine sat_eqv ?_ ?_); rfl; conv => arg 3; whnf))
      refine sat_ret ?_
      exact ⟨rfl, rfl, rfl⟩
  · rintro ex fr' H' ⟨rfl, rfl, rfl⟩
    have := List.length_filter_le (longer n) d.c
    (conv => arg 3; whnf); repeat (first | ((with_reducible refine sat_brT ?_ ?_); rfl; conv => arg 3; whnf) | ((with_reducible refine sat_brF ?_ ?_); rfl; conv => arg 3; whnf) | ((with_reducible refine sat_eqv ?_ ?_); rfl; conv => arg 3; whnf))
    refine sat_rng (wrap64 (by omega) (by omega)) ?_
    (conv => arg 3; whnf); repeat (first | ((with_reducible refine sat_brT ?_ ?_); rfl; conv => arg 3; whnf) | ((with_reducible refine sat_brF ?_ ?_); rfl; conv => arg 3; whnf) | ((with_reducible refine sat_eqv ?_ ?_); rfl; conv => arg 3; whnf))
    exact sat_ret ⟨by rw [hcl], rfl⟩
theorem k_copy (d : Nt) (hd : Ns.OK d) : ACalls PP GG F.net_Net_string_Copy [pt 0] d.H fun r H' => r = pt 2 ∧ H' = d.H ++ [Nt.v ⟨d.c, d.c.length⟩ 3, .row 1 d.c] := by
  have := hd.big
  refine K.net_Net_string_Copy.callsQ rfl ?_
  refine sat_call (Ns.real d) ?_
  rintro r H' ⟨rfl, rfl⟩
  (conv => arg 3; whnf); repeat (first | ((with_reducible refine sat_brT ?_ ?_); rfl; conv => arg 3; whnf) | ((with_reducible refine sat_brF ?_ ?_); rfl; conv => arg 3; whnf) | ((with_reducible refine sat_eqv ?_ ?_); rfl; conv => arg 3; whnf))
  refine sat_call (Ns.clone d.c (by rw [Ns.c_length hd]; omega)) ?_
  rintro r H' ⟨rfl, rfl⟩
  (conv => arg 3; whnf); repeat (first | ((with_reducible refine sat_brT ?_ ?_); rfl; conv => arg 3; whnf) | ((with_reducible refine sat_brF ?_ ?_); rfl; conv => arg 3; whnf) | ((with_reducible refine sat_eqv ?_ ?_); rfl; conv => arg 3; whnf))
  exact sat_ret ⟨rfl, rfl⟩
end Stk
