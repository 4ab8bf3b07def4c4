/- The law's own comparisons. -/
import Derived.Test.YtjpncglcigclpaaD2
namespace Stk
open Go
set_option maxRecDepth 100000
set_option linter.unusedSimpArgs false
set_option linter.unusedVariables false
def AllB (xs : List Tr) : Prop := ∀ y ∈ xs, ∃ v, y = .int .u8 v
theorem AllB.get {xs : List Tr} (h : AllB xs) {i : Nat} (hi : i < xs.length) : ∃ v, xs[i]? = some (.int .u8 v) := by
  obtain ⟨v, hv⟩ := h _ (List.getElem_mem hi)
  exact ⟨v, by rw [List.getElem?_eq_getElem hi, hv]⟩
theorem AllB.take {xs : List Tr} (h : AllB xs) (n : Nat) : AllB (xs.take n) := fun y hy => h y (List.mem_of_mem_take hy)
theorem AllB.append {xs ys : List Tr} (h : AllB xs) (h' : AllB ys) : AllB (xs ++ ys) := fun y hy => (List.mem_append.1 hy).elim (h y) (h' y)
theorem AllB.ofD {xs : List Tr} (h : ∀ y ∈ xs, TrD (.int .u8) y) : AllB xs := fun y hy => by obtain ⟨v, hv, _⟩ := h y hy; exact ⟨v, hv⟩
structure SaSt (a b : List Tr) where
  i : Nat
  le : i ≤ a.length
  eq : a.take i = b.take i
theorem take_succ_get {a : List Tr} {i : Nat} {x : Tr} (h : a[i]? = some x) : a.take (i + 1) = a.take i ++ [x] := by
  rw [List.take_add_one, h]; rfl
theorem k_same (a b : List Tr) (ha : AllB a) (hb : AllB b) (hl : a.length ≤ 2 ^ 50) : ACalls PP GG F.law21_same [.bz 1 a, .bz 1 b] [] fun r H' => ∃ q, r = tb q ∧ (q = true ↔ a = b) ∧ H' = [] := by
  refine K.law21_same.callsC rfl ?_
  refine sat_br (fun h => ?_) (fun h => ?_)
  · refine sat_ret ⟨false, rfl, ?_, rfl⟩
    simp at h
    simp
    rintro rfl
    exact h rfl
  · have hab : a.length = b.length := by simp at h; omega
    refine sat_loopOf mkX_ops (σ := SaSt a b) (fun x => [(0, .bz 1 a), (1, .bz 1 b), (5, ti x.i)]) (fun _ => []) (fun x => a.length - x.i)
      (fun ex fr' H' => H' = [] ∧ ((ex = .ret ∧ fr' = [(4, tb false)] ∧ a ≠ b) ∨ (ex = .exit 0 ∧ fr' = [(4, .undef)] ∧ a = b))) ⟨0, Nat.zero_le _, rfl⟩ ?_ ?_
    · rintro ⟨i, hi, heq⟩
      dsimp only
      refine sat_br (fun h => ?_) (fun h => ?_)
      · have h : i < a.length := by simpa using h
        obtain ⟨u, hu⟩ := ha.get h
        obtain ⟨v, hv⟩ := hb.get (show i < b.length by omega)
        (conv => arg 3; whnf); repeat (first | ((with_reducible refine sat_brT ?_ ?_); rfl; conv => arg 3; whnf) | ((with_reducible refine sat_brF ?_ ?_); rfl; conv => arg 3; whnf) | ((with_reducible refine sat_eqv ?_ ?_); rfl; conv => arg 3; whnf))
        refine sat_idx (.int .u8 u) (by simp) (by simpa using hu) ?_
        refine sat_idx (.int .u8 v) (by simp) (by simpa using hv) ?_
        refine sat_br (fun h2 => ?_) (fun h2 => ?_)
        · refine sat_ret ⟨rfl, .inl ⟨rfl, rfl, ?_⟩⟩
          rintro rfl
          rw [hu] at hv
          have : u = v := by simpa using hv
          simp [this] at h2
        · have : u = v := by simpa using h2
          (conv => arg 3; whnf); repeat (first | ((with_reducible refine sat_brT ?_ ?_); rfl; conv => arg 3; whnf) | ((with_reducible refine sat_brF ?_ ?_); rfl; conv => arg 3; whnf) | ((with_reducible refine sat_eqv ?_ ?_); rfl; conv => arg 3; whnf))
          refine sat_rng (wrap64 (by omega) (by omega)) ?_
          refine sat_ret ⟨⟨i + 1, by omega, ?_⟩, rfl, rfl, by show a.length - (i + 1) < a.length - i; omega⟩
          rw [take_succ_get hu, take_succ_get hv, heq, this]
      · have h : ¬ i < a.length := by simpa using h
        refine sat_ret ⟨rfl, .inr ⟨rfl, rfl, ?_⟩⟩
        rw [List.take_of_length_le (by omega), List.take_of_length_le (by omega)] at heq
        exact heq
    · rintro ex fr' H' ⟨rfl, ⟨rfl, rfl, h⟩ | ⟨rfl, rfl, h⟩⟩
      · exact sat_ret ⟨false, rfl, by simpa using h, rfl⟩
      · exact sat_ret ⟨true, rfl, by simpa using h, rfl⟩
theorem k_begins (a b : List Tr) (ha : AllB a) (hb : AllB b) (hl : a.length ≤ 2 ^ 50) : ACalls PP GG F.law21_begins [.bz 1 a, .bz 1 b] [] fun r H' => ∃ q, r = tb q ∧ (q = true ↔ b <+: a) ∧ H' = [] := by
  refine K.law21_begins.callsC rfl ?_
  (conv => arg 3; whnf); repeat (first | ((with_reducible refine sat_brT ?_ ?_); rfl; conv => arg 3; whnf) | ((with_reducible refine sat_brF ?_ ?_); rfl; conv => arg 3; whnf) | ((with_reducible refine sat_eqv ?_ ?_); rfl; conv => arg 3; whnf))
  refine sat_br (fun h => ?_) (fun h => ?_)
  · have h : b.length ≤ a.length := by simpa using h
    (conv => arg 3; whnf); repeat (first | ((with_reducible refine sat_brT ?_ ?_); rfl; conv => arg 3; whnf) | ((with_reducible refine sat_brF ?_ ?_); rfl; conv => arg 3; whnf) | ((with_reducible refine sat_eqv ?_ ?_); rfl; conv => arg 3; whnf))
    refine sat_asrt (by first | rfl | (simp; done) | (simp; omega)) ?_
    (conv => arg 3; whnf); repeat (first | ((with_reducible refine sat_brT ?_ ?_); rfl; conv => arg 3; whnf) | ((with_reducible refine sat_brF ?_ ?_); rfl; conv => arg 3; whnf) | ((with_reducible refine sat_eqv ?_ ?_); rfl; conv => arg 3; whnf))
    refine sat_call (k_same (a.take b.length) b (ha.take _) hb (by simp; omega)) ?_
    rintro r H' ⟨q, rfl, hq, rfl⟩
    (conv => arg 3; whnf); repeat (first | ((with_reducible refine sat_brT ?_ ?_); rfl; conv => arg 3; whnf) | ((with_reducible refine sat_brF ?_ ?_); rfl; conv => arg 3; whnf) | ((with_reducible refine sat_eqv ?_ ?_); rfl; conv => arg 3; whnf))
    refine sat_ret ⟨q, rfl, ?_, rfl⟩
    rw [hq, List.prefix_iff_eq_take]
    exact eq_comm
  · have h : ¬ b.length ≤ a.length := by simpa using h
    (conv => arg 3; whnf); repeat (first | ((with_reducible refine sat_brT ?_ ?_); rfl; conv => arg 3; whnf) | ((with_reducible refine sat_brF ?_ ?_); rfl; conv => arg 3; whnf) | ((with_reducible refine sat_eqv ?_ ?_); rfl; conv => arg 3; whnf))
    refine sat_ret ⟨false, rfl, ?_, rfl⟩
    simp
    intro hp
    exact h hp.length_le
end Stk
