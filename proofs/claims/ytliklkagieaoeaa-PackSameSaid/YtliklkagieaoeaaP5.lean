/- The reader: rows of numbers by pointers. -/
import Derived.Test.YtliklkagieaoeaaP4
namespace Stk
open Go
set_option maxRecDepth 100000
set_option linter.unusedSimpArgs false
set_option linter.unusedVariables false
set_option maxHeartbeats 4000000
/-- Four numbers. -/
structure num4St (r : Rd) where
  i : Nat
  R : Rd
  (a0 a1 a2 a3 : Int)
  eq : (i = 0 ∧ R = r ∧ a0 = 0 ∧ a1 = 0 ∧ a2 = 0 ∧ a3 = 0) ∨
    (i = 1 ∧ R = r.num.1 ∧ a0 = r.num.2 ∧ a1 = 0 ∧ a2 = 0 ∧ a3 = 0) ∨
    (i = 2 ∧ R = r.num.1.num.1 ∧ a0 = r.num.2 ∧ a1 = r.num.1.num.2 ∧ a2 = 0 ∧ a3 = 0) ∨
    (i = 3 ∧ R = r.num.1.num.1.num.1 ∧ a0 = r.num.2 ∧ a1 = r.num.1.num.2 ∧ a2 = r.num.1.num.1.num.2 ∧ a3 = 0) ∨
    (i = 4 ∧ R = r.num.1.num.1.num.1.num.1 ∧ a0 = r.num.2 ∧ a1 = r.num.1.num.2 ∧ a2 = r.num.1.num.1.num.2 ∧ a3 = r.num.1.num.1.num.1.num.2)
theorem k_num4 (r : Rd) (hr : AllB r.b) (k : Int) : ACalls PP GG F.pack_numbers [.fn F.pack_reader_number [pt 0] [], .sl 1 0 [] 0 4 (some 4)] [r.v, .var (.agg [.ptr 2 0 1 [1] none, .ptr 2 0 2 [2] none, .ptr 2 0 3 [3] none, .ptr 2 0 4 [4] none]), .var (.t (.agg [u8 k, i6 0, i6 0, i6 0, i6 0, .bool false, .arr 32 z32, .sl true 1 []]))] fun v H' => v = .tup [] ∧ H' = [r.num.1.num.1.num.1.num.1.v, .var (.agg [.ptr 2 0 1 [1] none, .ptr 2 0 2 [2] none, .ptr 2 0 3 [3] none, .ptr 2 0 4 [4] none]), .var (.t (.agg [u8 k, i6 r.num.2, i6 r.num.1.num.2, i6 r.num.1.num.1.num.2, i6 r.num.1.num.1.num.1.num.2, .bool false, .arr 32 z32, .sl true 1 []]))] := by
  have hr1 : AllB r.num.1.b := (Rd.fixed_b hr 8 (by omega)).1
  have hr2 : AllB r.num.1.num.1.b := (Rd.fixed_b hr1 8 (by omega)).1
  have hr3 : AllB r.num.1.num.1.num.1.b := (Rd.fixed_b hr2 8 (by omega)).1
  have hr4 : AllB r.num.1.num.1.num.1.num.1.b := (Rd.fixed_b hr3 8 (by omega)).1
  refine K.pack_numbers.callsC rfl ?_
  (conv => arg 3; whnf); repeat (first | ((with_reducible refine sat_brT ?_ ?_); rfl; conv => arg 3; whnf) | ((with_reducible refine sat_brF ?_ ?_); rfl; conv => arg 3; whnf) | ((with_reducible refine sat_eqv ?_ ?_); rfl; conv => arg 3; whnf))
  refine sat_loopOf mkX_ops (σ := num4St r) (fun x => [(0, .fn F.pack_reader_number [pt 0] []), (6, .sl 1 0 [] 0 4 (some 4)), (7, ti 4), (8, ti x.i)]) (fun x => [x.R.v, .var (.agg [.ptr 2 0 1 [1] none, .ptr 2 0 2 [2] none, .ptr 2 0 3 [3] none, .ptr 2 0 4 [4] none]), .var (.t (.agg [u8 k, i6 x.a0, i6 x.a1, i6 x.a2, i6 x.a3, .bool false, .arr 32 z32, .sl true 1 []]))]) (fun x => 4 - x.i)
    (fun ex fr' H' => H' = [r.num.1.num.1.num.1.num.1.v, .var (.agg [.ptr 2 0 1 [1] none, .ptr 2 0 2 [2] none, .ptr 2 0 3 [3] none, .ptr 2 0 4 [4] none]), .var (.t (.agg [u8 k, i6 r.num.2, i6 r.num.1.num.2, i6 r.num.1.num.1.num.2, i6 r.num.1.num.1.num.1.num.2, .bool false, .arr 32 z32, .sl true 1 []]))] ∧ ex = .exit 0 ∧ fr' = []) ⟨0, r, 0, 0, 0, 0, .inl ⟨rfl, rfl, rfl, rfl, rfl, rfl⟩⟩ ?_ ?_
  · rintro ⟨i, R, a0, a1, a2, a3, heq⟩
    dsimp only
    rcases heq with ⟨hi, hR, ha0, ha1, ha2, ha3⟩ | ⟨hi, hR, ha0, ha1, ha2, ha3⟩ | ⟨hi, hR, ha0, ha1, ha2, ha3⟩ | ⟨hi, hR, ha0, ha1, ha2, ha3⟩ | ⟨hi, hR, ha0, ha1, ha2, ha3⟩
    · subst hi ha0 ha1 ha2 ha3
      have hR := hR.symm
      subst hR
      (conv => arg 3; whnf); repeat (first | ((with_reducible refine sat_brT ?_ ?_); rfl; conv => arg 3; whnf) | ((with_reducible refine sat_brF ?_ ?_); rfl; conv => arg 3; whnf) | ((with_reducible refine sat_eqv ?_ ?_); rfl; conv => arg 3; whnf))
      refine sat_asrt (by decide) ?_
      (conv => arg 3; whnf); repeat (first | ((with_reducible refine sat_brT ?_ ?_); rfl; conv => arg 3; whnf) | ((with_reducible refine sat_brF ?_ ?_); rfl; conv => arg 3; whnf) | ((with_reducible refine sat_eqv ?_ ?_); rfl; conv => arg 3; whnf))
      refine sat_call (k_rnum r hr) ?_
      rintro v H' ⟨rfl, rfl⟩
      (conv => arg 3; whnf); repeat (first | ((with_reducible refine sat_brT ?_ ?_); rfl; conv => arg 3; whnf) | ((with_reducible refine sat_brF ?_ ?_); rfl; conv => arg 3; whnf) | ((with_reducible refine sat_eqv ?_ ?_); rfl; conv => arg 3; whnf))
      refine sat_rng (wrap64 (by omega) (by omega)) ?_
      exact sat_ret ⟨⟨1, r.num.1, r.num.2, 0, 0, 0, .inr (.inl ⟨rfl, rfl, rfl, rfl, rfl, rfl⟩)⟩, rfl, rfl, by show 4 - 1 < 4 - 0; omega⟩
    · subst hi ha0 ha1 ha2 ha3
      have hR := hR.symm
      subst hR
      (conv => arg 3; whnf); repeat (first | ((with_reducible refine sat_brT ?_ ?_); rfl; conv => arg 3; whnf) | ((with_reducible refine sat_brF ?_ ?_); rfl; conv => arg 3; whnf) | ((with_reducible refine sat_eqv ?_ ?_); rfl; conv => arg 3; whnf))
      refine sat_asrt (by decide) ?_
      (conv => arg 3; whnf); repeat (first | ((with_reducible refine sat_brT ?_ ?_); rfl; conv => arg 3; whnf) | ((with_reducible refine sat_brF ?_ ?_); rfl; conv => arg 3; whnf) | ((with_reducible refine sat_eqv ?_ ?_); rfl; conv => arg 3; whnf))
      refine sat_call (k_rnum r.num.1 hr1) ?_
      rintro v H' ⟨rfl, rfl⟩
      (conv => arg 3; whnf); repeat (first | ((with_reducible refine sat_brT ?_ ?_); rfl; conv => arg 3; whnf) | ((with_reducible refine sat_brF ?_ ?_); rfl; conv => arg 3; whnf) | ((with_reducible refine sat_eqv ?_ ?_); rfl; conv => arg 3; whnf))
      refine sat_rng (wrap64 (by omega) (by omega)) ?_
      exact sat_ret ⟨⟨2, r.num.1.num.1, r.num.2, r.num.1.num.2, 0, 0, .inr (.inr (.inl ⟨rfl, rfl, rfl, rfl, rfl, rfl⟩))⟩, rfl, rfl, by show 4 - 2 < 4 - 1; omega⟩
    · subst hi ha0 ha1 ha2 ha3
      have hR := hR.symm
      subst hR
      (conv => arg 3; whnf); repeat (first | ((with_reducible refine sat_brT ?_ ?_); rfl; conv => arg 3; whnf) | ((with_reducible refine sat_brF ?_ ?_); rfl; conv => arg 3; whnf) | ((with_reducible refine sat_eqv ?_ ?_); rfl; conv => arg 3; whnf))
      refine sat_asrt (by decide) ?_
      (conv => arg 3; whnf); repeat (first | ((with_reducible refine sat_brT ?_ ?_); rfl; conv => arg 3; whnf) | ((with_reducible refine sat_brF ?_ ?_); rfl; conv => arg 3; whnf) | ((with_reducible refine sat_eqv ?_ ?_); rfl; conv => arg 3; whnf))
      refine sat_call (k_rnum r.num.1.num.1 hr2) ?_
      rintro v H' ⟨rfl, rfl⟩
      (conv => arg 3; whnf); repeat (first | ((with_reducible refine sat_brT ?_ ?_); rfl; conv => arg 3; whnf) | ((with_reducible refine sat_brF ?_ ?_); rfl; conv => arg 3; whnf) | ((with_reducible refine sat_eqv ?_ ?_); rfl; conv => arg 3; whnf))
      refine sat_rng (wrap64 (by omega) (by omega)) ?_
      exact sat_ret ⟨⟨3, r.num.1.num.1.num.1, r.num.2, r.num.1.num.2, r.num.1.num.1.num.2, 0, .inr (.inr (.inr (.inl ⟨rfl, rfl, rfl, rfl, rfl, rfl⟩)))⟩, rfl, rfl, by show 4 - 3 < 4 - 2; omega⟩
    · subst hi ha0 ha1 ha2 ha3
      have hR := hR.symm
      subst hR
      (conv => arg 3; whnf); repeat (first | ((with_reducible refine sat_brT ?_ ?_); rfl; conv => arg 3; whnf) | ((with_reducible refine sat_brF ?_ ?_); rfl; conv => arg 3; whnf) | ((with_reducible refine sat_eqv ?_ ?_); rfl; conv => arg 3; whnf))
      refine sat_asrt (by decide) ?_
      (conv => arg 3; whnf); repeat (first | ((with_reducible refine sat_brT ?_ ?_); rfl; conv => arg 3; whnf) | ((with_reducible refine sat_brF ?_ ?_); rfl; conv => arg 3; whnf) | ((with_reducible refine sat_eqv ?_ ?_); rfl; conv => arg 3; whnf))
      refine sat_call (k_rnum r.num.1.num.1.num.1 hr3) ?_
      rintro v H' ⟨rfl, rfl⟩
      (conv => arg 3; whnf); repeat (first | ((with_reducible refine sat_brT ?_ ?_); rfl; conv => arg 3; whnf) | ((with_reducible refine sat_brF ?_ ?_); rfl; conv => arg 3; whnf) | ((with_reducible refine sat_eqv ?_ ?_); rfl; conv => arg 3; whnf))
      refine sat_rng (wrap64 (by omega) (by omega)) ?_
      exact sat_ret ⟨⟨4, r.num.1.num.1.num.1.num.1, r.num.2, r.num.1.num.2, r.num.1.num.1.num.2, r.num.1.num.1.num.1.num.2, .inr (.inr (.inr (.inr (⟨rfl, rfl, rfl, rfl, rfl, rfl⟩))))⟩, rfl, rfl, by show 4 - 4 < 4 - 3; omega⟩
    · subst hi ha0 ha1 ha2 ha3
      have hR := hR.symm
      subst hR
      (conv => arg 3; whnf); repeat (first | ((with_reducible refine sat_brT ?_ ?_); rfl; conv => arg 3; whnf) | ((with_reducible refine sat_brF ?_ ?_); rfl; conv => arg 3; whnf) | ((with_reducible refine sat_eqv ?_ ?_); rfl; conv => arg 3; whnf))
      exact sat_ret ⟨rfl, rfl, rfl⟩
  · rintro ex fr' H' ⟨rfl, rfl, rfl⟩
    (conv => arg 3; whnf); repeat (first | ((with_reducible refine sat_brT ?_ ?_); rfl; conv => arg 3; whnf) | ((with_reducible refine sat_brF ?_ ?_); rfl; conv => arg 3; whnf) | ((with_reducible refine sat_eqv ?_ ?_); rfl; conv => arg 3; whnf))
    exact sat_ret ⟨rfl, rfl⟩
/-- Nine numbers. -/
structure num9St (r : Rd) where
  i : Nat
  R : Rd
  (a0 a1 a2 a3 a4 a5 a6 a7 a8 : Int)
  eq : (i = 0 ∧ R = r ∧ a0 = 0 ∧ a1 = 0 ∧ a2 = 0 ∧ a3 = 0 ∧ a4 = 0 ∧ a5 = 0 ∧ a6 = 0 ∧ a7 = 0 ∧ a8 = 0) ∨
    (i = 1 ∧ R = r.num.1 ∧ a0 = r.num.2 ∧ a1 = 0 ∧ a2 = 0 ∧ a3 = 0 ∧ a4 = 0 ∧ a5 = 0 ∧ a6 = 0 ∧ a7 = 0 ∧ a8 = 0) ∨
    (i = 2 ∧ R = r.num.1.num.1 ∧ a0 = r.num.2 ∧ a1 = r.num.1.num.2 ∧ a2 = 0 ∧ a3 = 0 ∧ a4 = 0 ∧ a5 = 0 ∧ a6 = 0 ∧ a7 = 0 ∧ a8 = 0) ∨
    (i = 3 ∧ R = r.num.1.num.1.num.1 ∧ a0 = r.num.2 ∧ a1 = r.num.1.num.2 ∧ a2 = r.num.1.num.1.num.2 ∧ a3 = 0 ∧ a4 = 0 ∧ a5 = 0 ∧ a6 = 0 ∧ a7 = 0 ∧ a8 = 0) ∨
    (i = 4 ∧ R = r.num.1.num.1.num.1.num.1 ∧ a0 = r.num.2 ∧ a1 = r.num.1.num.2 ∧ a2 = r.num.1.num.1.num.2 ∧ a3 = r.num.1.num.1.num.1.num.2 ∧ a4 = 0 ∧ a5 = 0 ∧ a6 = 0 ∧ a7 = 0 ∧ a8 = 0) ∨
    (i = 5 ∧ R = r.num.1.num.1.num.1.num.1.num.1 ∧ a0 = r.num.2 ∧ a1 = r.num.1.num.2 ∧ a2 = r.num.1.num.1.num.2 ∧ a3 = r.num.1.num.1.num.1.num.2 ∧ a4 = r.num.1.num.1.num.1.num.1.num.2 ∧ a5 = 0 ∧ a6 = 0 ∧ a7 = 0 ∧ a8 = 0) ∨
    (i = 6 ∧ R = r.num.1.num.1.num.1.num.1.num.1.num.1 ∧ a0 = r.num.2 ∧ a1 = r.num.1.num.2 ∧ a2 = r.num.1.num.1.num.2 ∧ a3 = r.num.1.num.1.num.1.num.2 ∧ a4 = r.num.1.num.1.num.1.num.1.num.2 ∧ a5 = r.num.1.num.1.num.1.num.1.num.1.num.2 ∧ a6 = 0 ∧ a7 = 0 ∧ a8 = 0) ∨
    (i = 7 ∧ R = r.num.1.num.1.num.1.num.1.num.1.num.1.num.1 ∧ a0 = r.num.2 ∧ a1 = r.num.1.num.2 ∧ a2 = r.num.1.num.1.num.2 ∧ a3 = r.num.1.num.1.num.1.num.2 ∧ a4 = r.num.1.num.1.num.1.num.1.num.2 ∧ a5 = r.num.1.num.1.num.1.num.1.num.1.num.2 ∧ a6 = r.num.1.num.1.num.1.num.1.num.1.num.1.num.2 ∧ a7 = 0 ∧ a8 = 0) ∨
    (i = 8 ∧ R = r.num.1.num.1.num.1.num.1.num.1.num.1.num.1.num.1 ∧ a0 = r.num.2 ∧ a1 = r.num.1.num.2 ∧ a2 = r.num.1.num.1.num.2 ∧ a3 = r.num.1.num.1.num.1.num.2 ∧ a4 = r.num.1.num.1.num.1.num.1.num.2 ∧ a5 = r.num.1.num.1.num.1.num.1.num.1.num.2 ∧ a6 = r.num.1.num.1.num.1.num.1.num.1.num.1.num.2 ∧ a7 = r.num.1.num.1.num.1.num.1.num.1.num.1.num.1.num.2 ∧ a8 = 0) ∨
    (i = 9 ∧ R = r.num.1.num.1.num.1.num.1.num.1.num.1.num.1.num.1.num.1 ∧ a0 = r.num.2 ∧ a1 = r.num.1.num.2 ∧ a2 = r.num.1.num.1.num.2 ∧ a3 = r.num.1.num.1.num.1.num.2 ∧ a4 = r.num.1.num.1.num.1.num.1.num.2 ∧ a5 = r.num.1.num.1.num.1.num.1.num.1.num.2 ∧ a6 = r.num.1.num.1.num.1.num.1.num.1.num.1.num.2 ∧ a7 = r.num.1.num.1.num.1.num.1.num.1.num.1.num.1.num.2 ∧ a8 = r.num.1.num.1.num.1.num.1.num.1.num.1.num.1.num.1.num.2)
theorem k_num9 (r : Rd) (hr : AllB r.b) (k : Int) : ACalls PP GG F.pack_numbers [.fn F.pack_reader_number [pt 0] [], .sl 1 0 [] 0 9 (some 9)] [r.v, .var (.agg [.ptr 2 0 1 [1] none, .ptr 2 0 2 [2] none, .ptr 2 0 3 [3] none, .ptr 2 0 4 [4] none, .ptr 2 0 5 [5] none, .ptr 2 0 6 [6] none, .ptr 2 0 7 [7] none, .ptr 2 0 8 [8] none, .ptr 2 0 9 [9] none]), .var (.agg [.t (u8 k), ti 0, ti 0, ti 0, ti 0, ti 0, ti 0, ti 0, ti 0, ti 0, tb false, ti 0, .t (.arr 32 z32), .sl 3 0 [] 0 0 none, .t (.sl true 1 [])]), .row 40 []] fun v H' => v = .tup [] ∧ H' = [r.num.1.num.1.num.1.num.1.num.1.num.1.num.1.num.1.num.1.v, .var (.agg [.ptr 2 0 1 [1] none, .ptr 2 0 2 [2] none, .ptr 2 0 3 [3] none, .ptr 2 0 4 [4] none, .ptr 2 0 5 [5] none, .ptr 2 0 6 [6] none, .ptr 2 0 7 [7] none, .ptr 2 0 8 [8] none, .ptr 2 0 9 [9] none]), .var (.agg [.t (u8 k), ti r.num.2, ti r.num.1.num.2, ti r.num.1.num.1.num.2, ti r.num.1.num.1.num.1.num.2, ti r.num.1.num.1.num.1.num.1.num.2, ti r.num.1.num.1.num.1.num.1.num.1.num.2, ti r.num.1.num.1.num.1.num.1.num.1.num.1.num.2, ti r.num.1.num.1.num.1.num.1.num.1.num.1.num.1.num.2, ti r.num.1.num.1.num.1.num.1.num.1.num.1.num.1.num.1.num.2, tb false, ti 0, .t (.arr 32 z32), .sl 4 0 [] 0 0 none, .t (.sl true 1 [])]), .gone, .row 40 []] := by
  have hr1 : AllB r.num.1.b := (Rd.fixed_b hr 8 (by omega)).1
  have hr2 : AllB r.num.1.num.1.b := (Rd.fixed_b hr1 8 (by omega)).1
  have hr3 : AllB r.num.1.num.1.num.1.b := (Rd.fixed_b hr2 8 (by omega)).1
  have hr4 : AllB r.num.1.num.1.num.1.num.1.b := (Rd.fixed_b hr3 8 (by omega)).1
  have hr5 : AllB r.num.1.num.1.num.1.num.1.num.1.b := (Rd.fixed_b hr4 8 (by omega)).1
  have hr6 : AllB r.num.1.num.1.num.1.num.1.num.1.num.1.b := (Rd.fixed_b hr5 8 (by omega)).1
  have hr7 : AllB r.num.1.num.1.num.1.num.1.num.1.num.1.num.1.b := (Rd.fixed_b hr6 8 (by omega)).1
  have hr8 : AllB r.num.1.num.1.num.1.num.1.num.1.num.1.num.1.num.1.b := (Rd.fixed_b hr7 8 (by omega)).1
  have hr9 : AllB r.num.1.num.1.num.1.num.1.num.1.num.1.num.1.num.1.num.1.b := (Rd.fixed_b hr8 8 (by omega)).1
  refine K.pack_numbers.callsC rfl ?_
  (conv => arg 3; whnf); repeat (first | ((with_reducible refine sat_brT ?_ ?_); rfl; conv => arg 3; whnf) | ((with_reducible refine sat_brF ?_ ?_); rfl; conv => arg 3; whnf) | ((with_reducible refine sat_eqv ?_ ?_); rfl; conv => arg 3; whnf))
  refine sat_loopOf mkX_ops (σ := num9St r) (fun x => [(0, .fn F.pack_reader_number [pt 0] []), (6, .sl 1 0 [] 0 9 (some 9)), (7, ti 9), (8, ti x.i)]) (fun x => [x.R.v, .var (.agg [.ptr 2 0 1 [1] none, .ptr 2 0 2 [2] none, .ptr 2 0 3 [3] none, .ptr 2 0 4 [4] none, .ptr 2 0 5 [5] none, .ptr 2 0 6 [6] none, .ptr 2 0 7 [7] none, .ptr 2 0 8 [8] none, .ptr 2 0 9 [9] none]), .var (.agg [.t (u8 k), ti x.a0, ti x.a1, ti x.a2, ti x.a3, ti x.a4, ti x.a5, ti x.a6, ti x.a7, ti x.a8, tb false, ti 0, .t (.arr 32 z32), .sl 3 0 [] 0 0 none, .t (.sl true 1 [])]), .row 40 []]) (fun x => 9 - x.i)
    (fun ex fr' H' => H' = [r.num.1.num.1.num.1.num.1.num.1.num.1.num.1.num.1.num.1.v, .var (.agg [.ptr 2 0 1 [1] none, .ptr 2 0 2 [2] none, .ptr 2 0 3 [3] none, .ptr 2 0 4 [4] none, .ptr 2 0 5 [5] none, .ptr 2 0 6 [6] none, .ptr 2 0 7 [7] none, .ptr 2 0 8 [8] none, .ptr 2 0 9 [9] none]), .var (.agg [.t (u8 k), ti r.num.2, ti r.num.1.num.2, ti r.num.1.num.1.num.2, ti r.num.1.num.1.num.1.num.2, ti r.num.1.num.1.num.1.num.1.num.2, ti r.num.1.num.1.num.1.num.1.num.1.num.2, ti r.num.1.num.1.num.1.num.1.num.1.num.1.num.2, ti r.num.1.num.1.num.1.num.1.num.1.num.1.num.1.num.2, ti r.num.1.num.1.num.1.num.1.num.1.num.1.num.1.num.1.num.2, tb false, ti 0, .t (.arr 32 z32), .sl 3 0 [] 0 0 none, .t (.sl true 1 [])]), .row 40 []] ∧ ex = .exit 0 ∧ fr' = []) ⟨0, r, 0, 0, 0, 0, 0, 0, 0, 0, 0, .inl ⟨rfl, rfl, rfl, rfl, rfl, rfl, rfl, rfl, rfl, rfl, rfl⟩⟩ ?_ ?_
  · rintro ⟨i, R, a0, a1, a2, a3, a4, a5, a6, a7, a8, heq⟩
    dsimp only
    rcases heq with ⟨hi, hR, ha0, ha1, ha2, ha3, ha4, ha5, ha6, ha7, ha8⟩ | ⟨hi, hR, ha0, ha1, ha2, ha3, ha4, ha5, ha6, ha7, ha8⟩ | ⟨hi, hR, ha0, ha1, ha2, ha3, ha4, ha5, ha6, ha7, ha8⟩ | ⟨hi, hR, ha0, ha1, ha2, ha3, ha4, ha5, ha6, ha7, ha8⟩ | ⟨hi, hR, ha0, ha1, ha2, ha3, ha4, ha5, ha6, ha7, ha8⟩ | ⟨hi, hR, ha0, ha1, ha2, ha3, ha4, ha5, ha6, ha7, ha8⟩ | ⟨hi, hR, ha0, ha1, ha2, ha3, ha4, ha5, ha6, ha7, ha8⟩ | ⟨hi, hR, ha0, ha1, ha2, ha3, ha4, ha5, ha6, ha7, ha8⟩ | ⟨hi, hR, ha0, ha1, ha2, ha3, ha4, ha5, ha6, ha7, ha8⟩ | ⟨hi, hR, ha0, ha1, ha2, ha3, ha4, ha5, ha6, ha7, ha8⟩
    · subst hi ha0 ha1 ha2 ha3 ha4 ha5 ha6 ha7 ha8
      have hR := hR.symm
      subst hR
      (conv => arg 3; whnf); repeat (first | ((with_reducible refine sat_brT ?_ ?_); rfl; conv => arg 3; whnf) | ((with_reducible refine sat_brF ?_ ?_); rfl; conv => arg 3; whnf) | ((with_reducible refine sat_eqv ?_ ?_); rfl; conv => arg 3; whnf))
      refine sat_asrt (by decide) ?_
      (conv => arg 3; whnf); repeat (first | ((with_reducible refine sat_brT ?_ ?_); rfl; conv => arg 3; whnf) | ((with_reducible refine sat_brF ?_ ?_); rfl; conv => arg 3; whnf) | ((with_reducible refine sat_eqv ?_ ?_); rfl; conv => arg 3; whnf))
      refine sat_call (k_rnum r hr) ?_
      rintro v H' ⟨rfl, rfl⟩
      (conv => arg 3; whnf); repeat (first | ((with_reducible refine sat_brT ?_ ?_); rfl; conv => arg 3; whnf) | ((with_reducible refine sat_brF ?_ ?_); rfl; conv => arg 3; whnf) | ((with_reducible refine sat_eqv ?_ ?_); rfl; conv => arg 3; whnf))
      refine sat_rng (wrap64 (by omega) (by omega)) ?_
      exact sat_ret ⟨⟨1, r.num.1, r.num.2, 0, 0, 0, 0, 0, 0, 0, 0, .inr (.inl ⟨rfl, rfl, rfl, rfl, rfl, rfl, rfl, rfl, rfl, rfl, rfl⟩)⟩, rfl, rfl, by show 9 - 1 < 9 - 0; omega⟩
    · subst hi ha0 ha1 ha2 ha3 ha4 ha5 ha6 ha7 ha8
      have hR := hR.symm
      subst hR
      (conv => arg 3; whnf); repeat (first | ((with_reducible refine sat_brT ?_ ?_); rfl; conv => arg 3; whnf) | ((with_reducible refine sat_brF ?_ ?_); rfl; conv => arg 3; whnf) | ((with_reducible refine sat_eqv ?_ ?_); rfl; conv => arg 3; whnf))
      refine sat_asrt (by decide) ?_
      (conv => arg 3; whnf); repeat (first | ((with_reducible refine sat_brT ?_ ?_); rfl; conv => arg 3; whnf) | ((with_reducible refine sat_brF ?_ ?_); rfl; conv => arg 3; whnf) | ((with_reducible refine sat_eqv ?_ ?_); rfl; conv => arg 3; whnf))
      refine sat_call (k_rnum r.num.1 hr1) ?_
      rintro v H' ⟨rfl, rfl⟩
      (conv => arg 3; whnf); repeat (first | ((with_reducible refine sat_brT ?_ ?_); rfl; conv => arg 3; whnf) | ((with_reducible refine sat_brF ?_ ?_); rfl; conv => arg 3; whnf) | ((with_reducible refine sat_eqv ?_ ?_); rfl; conv => arg 3; whnf))
      refine sat_rng (wrap64 (by omega) (by omega)) ?_
      exact sat_ret ⟨⟨2, r.num.1.num.1, r.num.2, r.num.1.num.2, 0, 0, 0, 0, 0, 0, 0, .inr (.inr (.inl ⟨rfl, rfl, rfl, rfl, rfl, rfl, rfl, rfl, rfl, rfl, rfl⟩))⟩, rfl, rfl, by show 9 - 2 < 9 - 1; omega⟩
    · subst hi ha0 ha1 ha2 ha3 ha4 ha5 ha6 ha7 ha8
      have hR := hR.symm
      subst hR
      (conv => arg 3; whnf); repeat (first | ((with_reducible refine sat_brT ?_ ?_); rfl; conv => arg 3; whnf) | ((with_reducible refine sat_brF ?_ ?_); rfl; conv => arg 3; whnf) | ((with_reducible refine sat_eqv ?_ ?_); rfl; conv => arg 3; whnf))
      refine sat_asrt (by decide) ?_
      (conv => arg 3; whnf); repeat (first | ((with_reducible refine sat_brT ?_ ?_); rfl; conv => arg 3; whnf) | ((with_reducible refine sat_brF ?_ ?_); rfl; conv => arg 3; whnf) | ((with_reducible refine sat_eqv ?_ ?_); rfl; conv => arg 3; whnf))
      refine sat_call (k_rnum r.num.1.num.1 hr2) ?_
      rintro v H' ⟨rfl, rfl⟩
      (conv => arg 3; whnf); repeat (first | ((with_reducible refine sat_brT ?_ ?_); rfl; conv => arg 3; whnf) | ((with_reducible refine sat_brF ?_ ?_); rfl; conv => arg 3; whnf) | ((with_reducible refine sat_eqv ?_ ?_); rfl; conv => arg 3; whnf))
      refine sat_rng (wrap64 (by omega) (by omega)) ?_
      exact sat_ret ⟨⟨3, r.num.1.num.1.num.1, r.num.2, r.num.1.num.2, r.num.1.num.1.num.2, 0, 0, 0, 0, 0, 0, .inr (.inr (.inr (.inl ⟨rfl, rfl, rfl, rfl, rfl, rfl, rfl, rfl, rfl, rfl, rfl⟩)))⟩, rfl, rfl, by show 9 - 3 < 9 - 2; omega⟩
    · subst hi ha0 ha1 ha2 ha3 ha4 ha5 ha6 ha7 ha8
      have hR := hR.symm
      subst hR
      (conv => arg 3; whnf); repeat (first | ((with_reducible refine sat_brT ?_ ?_); rfl; conv => arg 3; whnf) | ((with_reducible refine sat_brF ?_ ?_); rfl; conv => arg 3; whnf) | ((with_reducible refine sat_eqv ?_ ?_); rfl; conv => arg 3; whnf))
      refine sat_asrt (by decide) ?_
      (conv => arg 3; whnf); repeat (first | ((with_reducible refine sat_brT ?_ ?_); rfl; conv => arg 3; whnf) | ((with_reducible refine sat_brF ?_ ?_); rfl; conv => arg 3; whnf) | ((with_reducible refine sat_eqv ?_ ?_); rfl; conv => arg 3; whnf))
      refine sat_call (k_rnum r.num.1.num.1.num.1 hr3) ?_
      rintro v H' ⟨rfl, rfl⟩
      (conv => arg 3; whnf); repeat (first | ((with_reducible refine sat_brT ?_ ?_); rfl; conv => arg 3; whnf) | ((with_reducible refine sat_brF ?_ ?_); rfl; conv => arg 3; whnf) | ((with_reducible refine sat_eqv ?_ ?_); rfl; conv => arg 3; whnf))
      refine sat_rng (wrap64 (by omega) (by omega)) ?_
      exact sat_ret ⟨⟨4, r.num.1.num.1.num.1.num.1, r.num.2, r.num.1.num.2, r.num.1.num.1.num.2, r.num.1.num.1.num.1.num.2, 0, 0, 0, 0, 0, .inr (.inr (.inr (.inr (.inl ⟨rfl, rfl, rfl, rfl, rfl, rfl, rfl, rfl, rfl, rfl, rfl⟩))))⟩, rfl, rfl, by show 9 - 4 < 9 - 3; omega⟩
    · subst hi ha0 ha1 ha2 ha3 ha4 ha5 ha6 ha7 ha8
      have hR := hR.symm
      subst hR
      (conv => arg 3; whnf); repeat (first | ((with_reducible refine sat_brT ?_ ?_); rfl; conv => arg 3; whnf) | ((with_reducible refine sat_brF ?_ ?_); rfl; conv => arg 3; whnf) | ((with_reducible refine sat_eqv ?_ ?_); rfl; conv => arg 3; whnf))
      refine sat_asrt (by decide) ?_
      (conv => arg 3; whnf); repeat (first | ((with_reducible refine sat_brT ?_ ?_); rfl; conv => arg 3; whnf) | ((with_reducible refine sat_brF ?_ ?_); rfl; conv => arg 3; whnf) | ((with_reducible refine sat_eqv ?_ ?_); rfl; conv => arg 3; whnf))
      refine sat_call (k_rnum r.num.1.num.1.num.1.num.1 hr4) ?_
      rintro v H' ⟨rfl, rfl⟩
      (conv => arg 3; whnf); repeat (first | ((with_reducible refine sat_brT ?_ ?_); rfl; conv => arg 3; whnf) | ((with_reducible refine sat_brF ?_ ?_); rfl; conv => arg 3; whnf) | ((with_reducible refine sat_eqv ?_ ?_); rfl; conv => arg 3; whnf))
      refine sat_rng (wrap64 (by omega) (by omega)) ?_
      exact sat_ret ⟨⟨5, r.num.1.num.1.num.1.num.1.num.1, r.num.2, r.num.1.num.2, r.num.1.num.1.num.2, r.num.1.num.1.num.1.num.2, r.num.1.num.1.num.1.num.1.num.2, 0, 0, 0, 0, .inr (.inr (.inr (.inr (.inr (.inl ⟨rfl, rfl, rfl, rfl, rfl, rfl, rfl, rfl, rfl, rfl, rfl⟩)))))⟩, rfl, rfl, by show 9 - 5 < 9 - 4; omega⟩
    · subst hi ha0 ha1 ha2 ha3 ha4 ha5 ha6 ha7 ha8
      have hR := hR.symm
      subst hR
      (conv => arg 3; whnf); repeat (first | ((with_reducible refine sat_brT ?_ ?_); rfl; conv => arg 3; whnf) | ((with_reducible refine sat_brF ?_ ?_); rfl; conv => arg 3; whnf) | ((with_reducible refine sat_eqv ?_ ?_); rfl; conv => arg 3; whnf))
      refine sat_asrt (by decide) ?_
      (conv => arg 3; whnf); repeat (first | ((with_reducible refine sat_brT ?_ ?_); rfl; conv => arg 3; whnf) | ((with_reducible refine sat_brF ?_ ?_); rfl; conv => arg 3; whnf) | ((with_reducible refine sat_eqv ?_ ?_); rfl; conv => arg 3; whnf))
      refine sat_call (k_rnum r.num.1.num.1.num.1.num.1.num.1 hr5) ?_
      rintro v H' ⟨rfl, rfl⟩
      (conv => arg 3; whnf); repeat (first | ((with_reducible refine sat_brT ?_ ?_); rfl; conv => arg 3; whnf) | ((with_reducible refine sat_brF ?_ ?_); rfl; conv => arg 3; whnf) | ((with_reducible refine sat_eqv ?_ ?_); rfl; conv => arg 3; whnf))
      refine sat_rng (wrap64 (by omega) (by omega)) ?_
      exact sat_ret ⟨⟨6, r.num.1.num.1.num.1.num.1.num.1.num.1, r.num.2, r.num.1.num.2, r.num.1.num.1.num.2, r.num.1.num.1.num.1.num.2, r.num.1.num.1.num.1.num.1.num.2, r.num.1.num.1.num.1.num.1.num.1.num.2, 0, 0, 0, .inr (.inr (.inr (.inr (.inr (.inr (.inl ⟨rfl, rfl, rfl, rfl, rfl, rfl, rfl, rfl, rfl, rfl, rfl⟩))))))⟩, rfl, rfl, by show 9 - 6 < 9 - 5; omega⟩
    · subst hi ha0 ha1 ha2 ha3 ha4 ha5 ha6 ha7 ha8
      have hR := hR.symm
      subst hR
      (conv => arg 3; whnf); repeat (first | ((with_reducible refine sat_brT ?_ ?_); rfl; conv => arg 3; whnf) | ((with_reducible refine sat_brF ?_ ?_); rfl; conv => arg 3; whnf) | ((with_reducible refine sat_eqv ?_ ?_); rfl; conv => arg 3; whnf))
      refine sat_asrt (by decide) ?_
      (conv => arg 3; whnf); repeat (first | ((with_reducible refine sat_brT ?_ ?_); rfl; conv => arg 3; whnf) | ((with_reducible refine sat_brF ?_ ?_); rfl; conv => arg 3; whnf) | ((with_reducible refine sat_eqv ?_ ?_); rfl; conv => arg 3; whnf))
      refine sat_call (k_rnum r.num.1.num.1.num.1.num.1.num.1.num.1 hr6) ?_
      rintro v H' ⟨rfl, rfl⟩
      (conv => arg 3; whnf); repeat (first | ((with_reducible refine sat_brT ?_ ?_); rfl; conv => arg 3; whnf) | ((with_reducible refine sat_brF ?_ ?_); rfl; conv => arg 3; whnf) | ((with_reducible refine sat_eqv ?_ ?_); rfl; conv => arg 3; whnf))
      refine sat_rng (wrap64 (by omega) (by omega)) ?_
      exact sat_ret ⟨⟨7, r.num.1.num.1.num.1.num.1.num.1.num.1.num.1, r.num.2, r.num.1.num.2, r.num.1.num.1.num.2, r.num.1.num.1.num.1.num.2, r.num.1.num.1.num.1.num.1.num.2, r.num.1.num.1.num.1.num.1.num.1.num.2, r.num.1.num.1.num.1.num.1.num.1.num.1.num.2, 0, 0, .inr (.inr (.inr (.inr (.inr (.inr (.inr (.inl ⟨rfl, rfl, rfl, rfl, rfl, rfl, rfl, rfl, rfl, rfl, rfl⟩)))))))⟩, rfl, rfl, by show 9 - 7 < 9 - 6; omega⟩
    · subst hi ha0 ha1 ha2 ha3 ha4 ha5 ha6 ha7 ha8
      have hR := hR.symm
      subst hR
      (conv => arg 3; whnf); repeat (first | ((with_reducible refine sat_brT ?_ ?_); rfl; conv => arg 3; whnf) | ((with_reducible refine sat_brF ?_ ?_); rfl; conv => arg 3; whnf) | ((with_reducible refine sat_eqv ?_ ?_); rfl; conv => arg 3; whnf))
      refine sat_asrt (by decide) ?_
      (conv => arg 3; whnf); repeat (first | ((with_reducible refine sat_brT ?_ ?_); rfl; conv => arg 3; whnf) | ((with_reducible refine sat_brF ?_ ?_); rfl; conv => arg 3; whnf) | ((with_reducible refine sat_eqv ?_ ?_); rfl; conv => arg 3; whnf))
      refine sat_call (k_rnum r.num.1.num.1.num.1.num.1.num.1.num.1.num.1 hr7) ?_
      rintro v H' ⟨rfl, rfl⟩
      (conv => arg 3; whnf); repeat (first | ((with_reducible refine sat_brT ?_ ?_); rfl; conv => arg 3; whnf) | ((with_reducible refine sat_brF ?_ ?_); rfl; conv => arg 3; whnf) | ((with_reducible refine sat_eqv ?_ ?_); rfl; conv => arg 3; whnf))
      refine sat_rng (wrap64 (by omega) (by omega)) ?_
      exact sat_ret ⟨⟨8, r.num.1.num.1.num.1.num.1.num.1.num.1.num.1.num.1, r.num.2, r.num.1.num.2, r.num.1.num.1.num.2, r.num.1.num.1.num.1.num.2, r.num.1.num.1.num.1.num.1.num.2, r.num.1.num.1.num.1.num.1.num.1.num.2, r.num.1.num.1.num.1.num.1.num.1.num.1.num.2, r.num.1.num.1.num.1.num.1.num.1.num.1.num.1.num.2, 0, .inr (.inr (.inr (.inr (.inr (.inr (.inr (.inr (.inl ⟨rfl, rfl, rfl, rfl, rfl, rfl, rfl, rfl, rfl, rfl, rfl⟩))))))))⟩, rfl, rfl, by show 9 - 8 < 9 - 7; omega⟩
    · subst hi ha0 ha1 ha2 ha3 ha4 ha5 ha6 ha7 ha8
      have hR := hR.symm
      subst hR
      (conv => arg 3; whnf); repeat (first | ((with_reducible refine sat_brT ?_ ?_); rfl; conv => arg 3; whnf) | ((with_reducible refine sat_brF ?_ ?_); rfl; conv => arg 3; whnf) | ((with_reducible refine sat_eqv ?_ ?_); rfl; conv => arg 3; whnf))
      refine sat_asrt (by decide) ?_
      (conv => arg 3; whnf); repeat (first | ((with_reducible refine sat_brT ?_ ?_); rfl; conv => arg 3; whnf) | ((with_reducible refine sat_brF ?_ ?_); rfl; conv => arg 3; whnf) | ((with_reducible refine sat_eqv ?_ ?_); rfl; conv => arg 3; whnf))
      refine sat_call (k_rnum r.num.1.num.1.num.1.num.1.num.1.num.1.num.1.num.1 hr8) ?_
      rintro v H' ⟨rfl, rfl⟩
      (conv => arg 3; whnf); repeat (first | ((with_reducible refine sat_brT ?_ ?_); rfl; conv => arg 3; whnf) | ((with_reducible refine sat_brF ?_ ?_); rfl; conv => arg 3; whnf) | ((with_reducible refine sat_eqv ?_ ?_); rfl; conv => arg 3; whnf))
      refine sat_rng (wrap64 (by omega) (by omega)) ?_
      exact sat_ret ⟨⟨9, r.num.1.num.1.num.1.num.1.num.1.num.1.num.1.num.1.num.1, r.num.2, r.num.1.num.2, r.num.1.num.1.num.2, r.num.1.num.1.num.1.num.2, r.num.1.num.1.num.1.num.1.num.2, r.num.1.num.1.num.1.num.1.num.1.num.2, r.num.1.num.1.num.1.num.1.num.1.num.1.num.2, r.num.1.num.1.num.1.num.1.num.1.num.1.num.1.num.2, r.num.1.num.1.num.1.num.1.num.1.num.1.num.1.num.1.num.2, .inr (.inr (.inr (.inr (.inr (.inr (.inr (.inr (.inr (⟨rfl, rfl, rfl, rfl, rfl, rfl, rfl, rfl, rfl, rfl, rfl⟩)))))))))⟩, rfl, rfl, by show 9 - 9 < 9 - 8; omega⟩
    · subst hi ha0 ha1 ha2 ha3 ha4 ha5 ha6 ha7 ha8
      have hR := hR.symm
      subst hR
      (conv => arg 3; whnf); repeat (first | ((with_reducible refine sat_brT ?_ ?_); rfl; conv => arg 3; whnf) | ((with_reducible refine sat_brF ?_ ?_); rfl; conv => arg 3; whnf) | ((with_reducible refine sat_eqv ?_ ?_); rfl; conv => arg 3; whnf))
      exact sat_ret ⟨rfl, rfl, rfl⟩
  · rintro ex fr' H' ⟨rfl, rfl, rfl⟩
    (conv => arg 3; whnf); repeat (first | ((with_reducible refine sat_brT ?_ ?_); rfl; conv => arg 3; whnf) | ((with_reducible refine sat_brF ?_ ?_); rfl; conv => arg 3; whnf) | ((with_reducible refine sat_eqv ?_ ?_); rfl; conv => arg 3; whnf))
    exact sat_ret ⟨rfl, rfl⟩
end Stk
