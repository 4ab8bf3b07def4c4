/- The law's comparisons of bytes and of records; copies of records. -/
import Derived.Test.YtmcdljgpalejaaaW1
namespace Stk
open Go
set_option maxRecDepth 100000
set_option linter.unusedSimpArgs false
set_option linter.unusedVariables false
set_option maxHeartbeats 4000000
abbrev rx (xs : List Tr) : Tr := .sl false 1 xs
def AllR (R : List (List Tr)) : Prop := ∀ x ∈ R, AllB x ∧ x.length ≤ 1048576
theorem AllR.get {R : List (List Tr)} (h : AllR R) {i : Nat} (hi : i < R.length) : ∃ x, R[i]? = some x ∧ AllB x ∧ x.length ≤ 1048576 := ⟨_, List.getElem?_eq_getElem hi, h _ (List.getElem_mem hi)⟩
theorem get_rx {R : List (List Tr)} {i : Nat} {x : List Tr} (h : R[i]? = some x) : (R.map rx)[i]? = some (rx x) := by rw [List.getElem?_map, h]; rfl
structure SaSt {α : Type} (a b : List α) where
  i : Nat
  le : i ≤ a.length
  eq : a.take i = b.take i
theorem take_succ_get {α : Type} {a : List α} {i : Nat} {x : α} (h : a[i]? = some x) : a.take (i + 1) = a.take i ++ [x] := by
  rw [List.take_add_one, h]; rfl
theorem k_bytes (a b : List Tr) (ha : AllB a) (hb : AllB b) (hl : a.length ≤ 2 ^ 50) : ACalls PP GG F.law22_bytes [.bz 1 a, .bz 1 b] [] fun r H' => ∃ q, r = tb q ∧ (q = true ↔ a = b) ∧ H' = [] := by
  refine K.law22_bytes.callsC rfl ?_
  refine sat_br (fun h => ?_) (fun h => ?_)
  · refine sat_ret ⟨false, rfl, ?_, rfl⟩
    simp at h
    simp
    rintro rfl
    exact h rfl
  · have hab : a.length = b.length := by simp at h; omega
    refine sat_loopOf mkX_ops (σ := SaSt a b) (fun x => [(0, .bz 1 a), (1, .bz 1 b), (5, ti x.i)]) (fun _ => []) (fun x => a.length - x.i)
      (fun ex fr' H' => H' = [] ∧ ((ex = .ret ∧ fr' = [(4, tb false)] ∧ a ≠ b) ∨ (ex = .exit 0 ∧ fr' = [(4, .undef)] ∧ a = b))) ⟨0, Nat.zero_le _, rfl⟩ ?_ ?_
    · rintro ⟨i, hi, heq⟩
      dsimp only
      refine sat_br (fun h => ?_) (fun h => ?_)
      · have h : i < a.length := by simpa using h
        obtain ⟨u, hu, _⟩ := ha.get h
        obtain ⟨v, hv, _⟩ := hb.get (show i < b.length by omega)
        (conv => arg 3; whnf); repeat (first | ((with_reducible refine sat_brT ?_ ?_); rfl; conv => arg 3; whnf) | ((with_reducible refine sat_brF ?_ ?_); rfl; conv => arg 3; whnf) | ((with_reducible refine sat_eqv ?_ ?_); rfl; conv => arg 3; whnf))
        refine sat_idx (.int .u8 u) (by simp) (by simpa using hu) ?_
        refine sat_idx (.int .u8 v) (by simp) (by simpa using hv) ?_
        refine sat_br (fun h2 => ?_) (fun h2 => ?_)
        · refine sat_ret ⟨rfl, .inl ⟨rfl, rfl, ?_⟩⟩
          rintro rfl
          rw [hu] at hv
          have : u = v := by simpa using hv
          simp [this] at h2
        · have : u = v := by simpa using h2
          (conv => arg 3; whnf); repeat (first | ((with_reducible refine sat_brT ?_ ?_); rfl; conv => arg 3; whnf) | ((with_reducible refine sat_brF ?_ ?_); rfl; conv => arg 3; whnf) | ((with_reducible refine sat_eqv ?_ ?_); rfl; conv => arg 3; whnf))
          refine sat_rng (wrap64 (by omega) (by omega)) ?_
          refine sat_ret ⟨⟨i + 1, by omega, ?_⟩, rfl, rfl, by show a.length - (i + 1) < a.length - i; omega⟩
          rw [take_succ_get hu, take_succ_get hv, heq, this]
      · have h : ¬ i < a.length := by simpa using h
        refine sat_ret ⟨rfl, .inr ⟨rfl, rfl, ?_⟩⟩
        rw [List.take_of_length_le (by omega), List.take_of_length_le (by omega)] at heq
        exact heq
    · rintro ex fr' H' ⟨rfl, ⟨rfl, rfl, h⟩ | ⟨rfl, rfl, h⟩⟩
      · exact sat_ret ⟨false, rfl, by simpa using h, rfl⟩
      · exact sat_ret ⟨true, rfl, by simpa using h, rfl⟩
theorem k_same (a b : List (List Tr)) (ha : AllR a) (hb : AllR b) (hl : a.length ≤ 2 ^ 50) : ACalls PP GG F.law22_same [.bz 1 (a.map rx), .bz 1 (b.map rx)] [] fun r H' => ∃ q, r = tb q ∧ (q = true ↔ a = b) ∧ H' = [] := by
  refine K.law22_same.callsC rfl ?_
  refine sat_br (fun h => ?_) (fun h => ?_)
  · refine sat_ret ⟨false, rfl, ?_, rfl⟩
    simp at h
    simp
    rintro rfl
    exact h rfl
  · have hab : a.length = b.length := by simp at h; omega
    refine sat_loopOf mkX_ops (σ := SaSt a b) (fun x => [(0, .bz 1 (a.map rx)), (1, .bz 1 (b.map rx)), (5, ti x.i)]) (fun _ => []) (fun x => a.length - x.i)
      (fun ex fr' H' => H' = [] ∧ ((ex = .ret ∧ fr' = [(4, tb false)] ∧ a ≠ b) ∨ (ex = .exit 0 ∧ fr' = [(4, .undef)] ∧ a = b))) ⟨0, Nat.zero_le _, rfl⟩ ?_ ?_
    · rintro ⟨i, hi, heq⟩
      dsimp only
      refine sat_br (fun h => ?_) (fun h => ?_)
      · have h : i < a.length := by simpa using h
        obtain ⟨u, hu, hu1, hu2⟩ := ha.get h
        obtain ⟨v, hv, hv1, hv2⟩ := hb.get (show i < b.length by omega)
        (conv => arg 3; whnf); repeat (first | ((with_reducible refine sat_brT ?_ ?_); rfl; conv => arg 3; whnf) | ((with_reducible refine sat_brF ?_ ?_); rfl; conv => arg 3; whnf) | ((with_reducible refine sat_eqv ?_ ?_); rfl; conv => arg 3; whnf))
        refine sat_idx (rx u) (by simp) (by simpa using get_rx hu) ?_
        refine sat_idx (rx v) (by simp) (by simpa using get_rx hv) ?_
        refine sat_call (k_bytes u v hu1 hv1 (by omega)) ?_
        rintro r H' ⟨q, rfl, hq, rfl⟩
        (conv => arg 3; whnf); repeat (first | ((with_reducible refine sat_brT ?_ ?_); rfl; conv => arg 3; whnf) | ((with_reducible refine sat_brF ?_ ?_); rfl; conv => arg 3; whnf) | ((with_reducible refine sat_eqv ?_ ?_); rfl; conv => arg 3; whnf))
        refine sat_br (fun h2 => ?_) (fun h2 => ?_)
        · refine sat_ret ⟨rfl, .inl ⟨rfl, rfl, ?_⟩⟩
          rintro rfl
          rw [hu] at hv
          have : u = v := by simpa using hv
          simp [hq.2 this] at h2
        · have : u = v := hq.1 (by simpa using h2)
          (conv => arg 3; whnf); repeat (first | ((with_reducible refine sat_brT ?_ ?_); rfl; conv => arg 3; whnf) | ((with_reducible refine sat_brF ?_ ?_); rfl; conv => arg 3; whnf) | ((with_reducible refine sat_eqv ?_ ?_); rfl; conv => arg 3; whnf))
          refine sat_rng (wrap64 (by omega) (by omega)) ?_
          refine sat_ret ⟨⟨i + 1, by omega, ?_⟩, rfl, rfl, by show a.length - (i + 1) < a.length - i; omega⟩
          rw [take_succ_get hu, take_succ_get hv, heq, this]
      · have h : ¬ i < a.length := by simpa using h
        refine sat_ret ⟨rfl, .inr ⟨rfl, rfl, ?_⟩⟩
        rw [List.take_of_length_le (by omega), List.take_of_length_le (by omega)] at heq
        exact heq
    · rintro ex fr' H' ⟨rfl, ⟨rfl, rfl, h⟩ | ⟨rfl, rfl, h⟩⟩
      · exact sat_ret ⟨false, rfl, by simpa using h, rfl⟩
      · exact sat_ret ⟨true, rfl, by simpa using h, rfl⟩
end Stk
