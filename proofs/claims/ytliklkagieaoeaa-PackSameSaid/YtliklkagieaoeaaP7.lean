/- The document's reader: numbers, marks, bytes, counts. -/
import Derived.Test.YtliklkagieaoeaaP6
namespace Stk
open Go
set_option maxRecDepth 100000
set_option linter.unusedSimpArgs false
set_option linter.unusedVariables false
set_option maxHeartbeats 4000000
abbrev rv (B : List Tr) (at_ : Nat) (e : Int) : AO := .var (.agg [.bz 1 B, ti at_, ti e])
structure Sy (B : List Tr) (at_ : Nat) (r : Rd) : Prop where
  eq : B.drop at_ = r.b
  le : at_ ≤ B.length
structure FrSt (L : List Tr) where
  i : Nat
  v : Int
  eq : v = valB (L.drop i)
  le : i ≤ L.length
theorem r_fixed (B : List Tr) (hB : AllB B) (hl : B.length ≤ 2 ^ 40) (at_ : Nat) (r : Rd) (hs : Sy B at_ r) (k : Nat) (hk : k ≤ 8) : ACalls PP GG F.ref20_Reader_fixed [pt 0, ti k] [rv B at_ r.e] fun v H' =>
    v = tu (r.fixed k).2 ∧ ∃ at', Sy B at' (r.fixed k).1 ∧ H' = [rv B at' (r.fixed k).1.e] := by
  obtain ⟨b, e⟩ := r
  obtain ⟨h0, h2⟩ := hs
  have h1 : B.drop at_ = b := h0
  clear h0
  have hbl : b.length = B.length - at_ := by rw [← h1, List.length_drop]
  refine K.ref20_Reader_fixed.callsC rfl ?_
  by_cases he : e = 0
  · subst he
    (conv => arg 3; whnf); repeat (first | ((with_reducible refine sat_brT ?_ ?_); rfl; conv => arg 3; whnf) | ((with_reducible refine sat_brF ?_ ?_); rfl; conv => arg 3; whnf) | ((with_reducible refine sat_eqv ?_ ?_); rfl; conv => arg 3; whnf))
    refine sat_rng (wrap64 (by omega) (by omega)) ?_
    (conv => arg 3; whnf); repeat (first | ((with_reducible refine sat_brT ?_ ?_); rfl; conv => arg 3; whnf) | ((with_reducible refine sat_brF ?_ ?_); rfl; conv => arg 3; whnf) | ((with_reducible refine sat_eqv ?_ ?_); rfl; conv => arg 3; whnf))
    refine sat_br (fun h => ?_) (fun h => ?_)
    · have h := of_decide_eq_true h
      (conv => arg 3; whnf); repeat (first | ((with_reducible refine sat_brT ?_ ?_); rfl; conv => arg 3; whnf) | ((with_reducible refine sat_brF ?_ ?_); rfl; conv => arg 3; whnf) | ((with_reducible refine sat_eqv ?_ ?_); rfl; conv => arg 3; whnf))
      have ht : Rd.take ⟨b, 0⟩ k = (⟨b, 4⟩, []) := by unfold Rd.take; rw [if_neg (by simp), if_pos (by show k > b.length; omega)]
      unfold Rd.fixed
      rw [ht]
      exact sat_ret ⟨rfl, at_, ⟨h1, h2⟩, rfl⟩
    · have h := of_decide_eq_false h
      have ht : Rd.take ⟨b, 0⟩ k = (⟨b.drop k, 0⟩, b.take k) := by unfold Rd.take; rw [if_neg (by simp), if_neg (by show ¬ k > b.length; omega)]
      unfold Rd.fixed
      rw [ht]
      have hkb : k ≤ b.length := by omega
      have hL : AllB (b.take k) := by rw [← h1]; exact (hB.drop _).take _
      have hLl : (b.take k).length = k := by rw [List.length_take]; omega
      have hget : ∀ i, i < k → (b.take k)[i]? = B[at_ + i]? := by
        intro i hi
        rw [List.getElem?_take, if_pos hi, ← h1, List.getElem?_drop]
      generalize b.take k = L at *
      (conv => arg 3; whnf); repeat (first | ((with_reducible refine sat_brT ?_ ?_); rfl; conv => arg 3; whnf) | ((with_reducible refine sat_brF ?_ ?_); rfl; conv => arg 3; whnf) | ((with_reducible refine sat_eqv ?_ ?_); rfl; conv => arg 3; whnf))
      refine sat_rng (wrap64 (by omega) (by omega)) ?_
      (conv => arg 3; whnf); repeat (first | ((with_reducible refine sat_brT ?_ ?_); rfl; conv => arg 3; whnf) | ((with_reducible refine sat_brF ?_ ?_); rfl; conv => arg 3; whnf) | ((with_reducible refine sat_eqv ?_ ?_); rfl; conv => arg 3; whnf))
      refine sat_loopOf mkX_ops (σ := FrSt L) (fun x => [(0, pt 0), (1, ti k), (5, tu x.v), (6, ti ((x.i : Int) - 1))]) (fun x => [rv B at_ 0]) (fun x => x.i)
        (fun ex fr' H' => H' = [rv B at_ 0] ∧ ex = .exit 0 ∧ fr' = [(0, pt 0), (1, ti k), (5, tu (valB L))]) ⟨k, 0, by rw [List.drop_of_length_le (by omega)]; rfl, by omega⟩ ?_ ?_
      · rintro ⟨i, v, hv, hi⟩
        dsimp only
        (conv => arg 3; whnf); repeat (first | ((with_reducible refine sat_brT ?_ ?_); rfl; conv => arg 3; whnf) | ((with_reducible refine sat_brF ?_ ?_); rfl; conv => arg 3; whnf) | ((with_reducible refine sat_eqv ?_ ?_); rfl; conv => arg 3; whnf))
        refine sat_br (fun h => ?_) (fun h => ?_)
        · have h := of_decide_eq_true h
          obtain ⟨i, rfl⟩ : ∃ j, i = j + 1 := ⟨i - 1, by omega⟩
          obtain ⟨x, hx, hx0⟩ := hL.get (show i < L.length by omega)
          have hdr : L.drop i = u8 x :: L.drop (i + 1) := by
            rw [List.drop_eq_getElem_cons (show i < L.length by omega)]
            congr 1
            rw [List.getElem?_eq_getElem (show i < L.length by omega)] at hx
            exact Option.some.inj hx
          have hrg := valB_range (L.drop (i + 1)) (hL.drop _)
          have hp : (256 : Int) ^ (L.drop (i + 1)).length ≤ 256 ^ 7 := pow256 (by rw [List.length_drop]; omega)
          have hp' : (256 : Int) ^ 7 = 72057594037927936 := by decide
          have hgi := hget i (by omega)
          rw [← hv] at hrg
          rw [hx] at hgi
          (conv => arg 3; whnf); repeat (first | ((with_reducible refine sat_brT ?_ ?_); rfl; conv => arg 3; whnf) | ((with_reducible refine sat_brF ?_ ?_); rfl; conv => arg 3; whnf) | ((with_reducible refine sat_eqv ?_ ?_); rfl; conv => arg 3; whnf))
          refine sat_rng (by rw [IntKind.wrap_u64]; omega) ?_
          (conv => arg 3; whnf); repeat (first | ((with_reducible refine sat_brT ?_ ?_); rfl; conv => arg 3; whnf) | ((with_reducible refine sat_brF ?_ ?_); rfl; conv => arg 3; whnf) | ((with_reducible refine sat_eqv ?_ ?_); rfl; conv => arg 3; whnf))
          refine sat_rng (wrap64 (by omega) (by omega)) ?_
          (conv => arg 3; whnf); repeat (first | ((with_reducible refine sat_brT ?_ ?_); rfl; conv => arg 3; whnf) | ((with_reducible refine sat_brF ?_ ?_); rfl; conv => arg 3; whnf) | ((with_reducible refine sat_eqv ?_ ?_); rfl; conv => arg 3; whnf))
          refine sat_idx (u8 x) (by omega) (by rw [show ((at_ : Int) + (((i + 1 : Nat) : Int) - 1)).toNat = at_ + i by omega]; exact hgi.symm) ?_
          (conv => arg 3; whnf); repeat (first | ((with_reducible refine sat_brT ?_ ?_); rfl; conv => arg 3; whnf) | ((with_reducible refine sat_brF ?_ ?_); rfl; conv => arg 3; whnf) | ((with_reducible refine sat_eqv ?_ ?_); rfl; conv => arg 3; whnf))
          refine sat_rng (by rw [IntKind.wrap_u64]; omega) ?_
          (conv => arg 3; whnf); repeat (first | ((with_reducible refine sat_brT ?_ ?_); rfl; conv => arg 3; whnf) | ((with_reducible refine sat_brF ?_ ?_); rfl; conv => arg 3; whnf) | ((with_reducible refine sat_eqv ?_ ?_); rfl; conv => arg 3; whnf))
          refine sat_rng (by rw [IntKind.wrap_u64]; omega) ?_
          (conv => arg 3; whnf); repeat (first | ((with_reducible refine sat_brT ?_ ?_); rfl; conv => arg 3; whnf) | ((with_reducible refine sat_brF ?_ ?_); rfl; conv => arg 3; whnf) | ((with_reducible refine sat_eqv ?_ ?_); rfl; conv => arg 3; whnf))
          rw [show (((i + 1 : Nat) : Int) - 1 - 1) = (i : Int) - 1 by omega]
          refine sat_rng (wrap64 (by omega) (by omega)) ?_
          refine sat_ret ⟨⟨i, 256 * v + x, by rw [hdr, valB_cons, ← hv]; omega, by omega⟩, rfl, rfl, by show i < i + 1; omega⟩
        · have h := of_decide_eq_false h
          obtain rfl : i = 0 := by omega
          rw [List.drop_zero] at hv
          exact sat_ret ⟨rfl, rfl, by rw [hv]; rfl⟩
      · rintro ex fr' H' ⟨rfl, rfl, rfl⟩
        (conv => arg 3; whnf); repeat (first | ((with_reducible refine sat_brT ?_ ?_); rfl; conv => arg 3; whnf) | ((with_reducible refine sat_brF ?_ ?_); rfl; conv => arg 3; whnf) | ((with_reducible refine sat_eqv ?_ ?_); rfl; conv => arg 3; whnf))
        refine sat_rng (wrap64 (by omega) (by omega)) ?_
        (conv => arg 3; whnf); repeat (first | ((with_reducible refine sat_brT ?_ ?_); rfl; conv => arg 3; whnf) | ((with_reducible refine sat_brF ?_ ?_); rfl; conv => arg 3; whnf) | ((with_reducible refine sat_eqv ?_ ?_); rfl; conv => arg 3; whnf))
        refine sat_ret ⟨rfl, at_ + k, ⟨by rw [← List.drop_drop, h1], by omega⟩, rfl⟩
  · (conv => arg 3; whnf); repeat (first | ((with_reducible refine sat_brT ?_ ?_); rfl; conv => arg 3; whnf) | ((with_reducible refine sat_brF ?_ ?_); rfl; conv => arg 3; whnf) | ((with_reducible refine sat_eqv ?_ ?_); rfl; conv => arg 3; whnf))
    generalize hg : (e == 0) = g
    obtain rfl : g = false := by rw [← hg]; simpa using he
    (conv => arg 3; whnf); repeat (first | ((with_reducible refine sat_brT ?_ ?_); rfl; conv => arg 3; whnf) | ((with_reducible refine sat_brF ?_ ?_); rfl; conv => arg 3; whnf) | ((with_reducible refine sat_eqv ?_ ?_); rfl; conv => arg 3; whnf))
    refine sat_brT (by simpa using he) ?_
    (conv => arg 3; whnf); repeat (first | ((with_reducible refine sat_brT ?_ ?_); rfl; conv => arg 3; whnf) | ((with_reducible refine sat_brF ?_ ?_); rfl; conv => arg 3; whnf) | ((with_reducible refine sat_eqv ?_ ?_); rfl; conv => arg 3; whnf))
    have ht : Rd.take ⟨b, e⟩ k = (⟨b, e⟩, []) := by unfold Rd.take; rw [if_pos he]
    unfold Rd.fixed
    rw [ht]
    exact sat_ret ⟨rfl, at_, ⟨h1, h2⟩, rfl⟩
end Stk
