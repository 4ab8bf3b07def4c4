/- ImageReads: the law's contract. -/
import Derived.Test.YtcjmkbmeiefojaaD4
namespace Stk
open Go
set_option maxRecDepth 100000
set_option linter.unusedSimpArgs false
set_option linter.unusedVariables false
set_option maxHeartbeats 4000000
theorem bytes_of {x : Tr} (h : TrD (.sl 1 (.int .u8)) x) : ∃ f L, x = .sl f 1 L ∧ AllB L ∧ L.length ≤ 2 ^ 47 := by
  obtain ⟨f, L, rfl, _, h1, h2⟩ := h
  have h1' : L.length * 1 ≤ 140737488351232 := h1
  refine ⟨f, L, rfl, ?_, by omega⟩
  intro y hy
  obtain ⟨a, rfl, w1⟩ := h2 y hy
  have := wf_u8 w1
  exact ⟨a, rfl, by omega, by omega⟩
theorem AllB.u {L : List Tr} (h : AllB L) : AllU L := fun y hy => by obtain ⟨v, e, _⟩ := h y hy; exact ⟨v, e⟩
theorem mapsAt_ok {L : List Tr} (h : AllB L) (m : Nat) (hl : 1 + 4 * m ≤ L.length) : AllM (mapsAt L m) := by
  intro y hy
  unfold mapsAt at hy
  obtain ⟨i, hi, rfl⟩ := List.mem_map.1 hy
  have hi := List.mem_range.1 hi
  have h1 := (h.get (show 1 + 4 * i < L.length by omega)).2
  have h2 := (h.get (show 2 + 4 * i < L.length by omega)).2
  have h3 := (h.get (show 3 + 4 * i < L.length by omega)).2
  have h4 := (h.get (show 4 + 4 * i < L.length by omega)).2
  exact ⟨_, _, _, _, rfl, by unfold in64; omega, by unfold in64; omega, by unfold in64; omega, by unfold in64; omega⟩
theorem dec8_ok {b0 b1 b2 b3 b4 b5 b6 b7 : Int} (h : By8 b0 b1 b2 b3 b4 b5 b6 b7) : ∃ o d s f m, dec8 b0 b1 b2 b3 b4 b5 b6 b7 = insT o d s f m ∧ InsOK o d s f m ∧ d ≤ 15 ∧ s ≤ 15 := by
  obtain ⟨h0, h1, h2, h3, h4, h5, h6, h7⟩ := h
  refine ⟨_, _, _, _, _, rfl, ⟨by omega, by omega, by omega, ?_, ?_⟩, by omega, by omega⟩
  · unfold sg; split <;> omega
  · unfold sg; split <;> omega
theorem insnAt_ok {L : List Tr} (h : AllB L) (a p : Nat) (hl : a + 8 * p ≤ L.length) : AllC (insnAt L a p) := by
  intro y hy
  unfold insnAt at hy
  obtain ⟨i, hi, rfl⟩ := List.mem_map.1 hy
  have hi := List.mem_range.1 hi
  obtain ⟨o, d, s, f, m, e, ok, _⟩ := dec8_ok (by8 h (show a + 8 * i + 8 ≤ L.length by omega))
  exact ⟨o, d, s, f, m, e, ok⟩
theorem im0_ok : im0.OK := ⟨(fun y hy => by cases hy), (fun y hy => by cases hy), by show (0 : Nat) ≤ 2 ^ 47; omega, by show (0 : Nat) ≤ 2 ^ 47; omega⟩
theorem dec_ok {L : List Tr} (h : AllB L) : (decB L).1.OK := by
  unfold decB
  split; exact im0_ok
  split; exact im0_ok
  split; exact im0_ok
  split; exact im0_ok
  split; exact im0_ok
  split; exact im0_ok
  split; exact im0_ok
  rename_i h1 h2 h3 h4 h5 h6 h7
  refine ⟨mapsAt_ok h _ (by omega), insnAt_ok h _ _ (by omega), ?_, ?_⟩
  · show (mapsAt _ _).length ≤ 2 ^ 47
    rw [mapsAt_len]; omega
  · show (insnAt _ _ _).length ≤ 2 ^ 47
    rw [insnAt_len]; omega
structure SpSt (n : Nat) where
  i : Nat
  xs : List Tr
  l : xs.length = n
  b : AllU xs
theorem l_reads (x0 : Tr) (h0 : TrD (.sl 1 (.int .u8)) x0) : ACalls PP GG F.law16_ImageReads (toAVs [x0]) [] fun r _ => r = .t (.bool true) := by
  obtain ⟨f, L, rfl, hL, hl⟩ := bytes_of h0
  refine K.law16_ImageReads.calls rfl ?_
  (conv => arg 3; whnf); repeat (first | ((with_reducible refine sat_brT ?_ ?_); rfl; conv => arg 3; whnf) | ((with_reducible refine sat_brF ?_ ?_); rfl; conv => arg 3; whnf) | ((with_reducible refine sat_eqv ?_ ?_); rfl; conv => arg 3; whnf))
  refine sat_br (fun h => ?_) (fun h => ?_)
  · (conv => arg 3; whnf); repeat (first | ((with_reducible refine sat_brT ?_ ?_); rfl; conv => arg 3; whnf) | ((with_reducible refine sat_brF ?_ ?_); rfl; conv => arg 3; whnf) | ((with_reducible refine sat_eqv ?_ ?_); rfl; conv => arg 3; whnf))
    refine sat_call k_wakes ?_
    rintro r H' ⟨rfl, rfl⟩
    (conv => arg 3; whnf); repeat (first | ((with_reducible refine sat_brT ?_ ?_); rfl; conv => arg 3; whnf) | ((with_reducible refine sat_brF ?_ ?_); rfl; conv => arg 3; whnf) | ((with_reducible refine sat_eqv ?_ ?_); rfl; conv => arg 3; whnf))
    exact sat_ret rfl
  have h := of_decide_eq_false h
  (conv => arg 3; whnf); repeat (first | ((with_reducible refine sat_brT ?_ ?_); rfl; conv => arg 3; whnf) | ((with_reducible refine sat_brF ?_ ?_); rfl; conv => arg 3; whnf) | ((with_reducible refine sat_eqv ?_ ?_); rfl; conv => arg 3; whnf))
  refine sat_asrt (by simp [roomy]; omega) ?_
  (conv => arg 3; whnf); repeat (first | ((with_reducible refine sat_brT ?_ ?_); rfl; conv => arg 3; whnf) | ((with_reducible refine sat_brF ?_ ?_); rfl; conv => arg 3; whnf) | ((with_reducible refine sat_eqv ?_ ?_); rfl; conv => arg 3; whnf))
  rw [List.drop_zero, List.take_length]
  refine sat_call (k_decode L hL hl) ?_
  rintro r H' ⟨rfl, rfl⟩
  have hok := dec_ok hL
  have hdl : L.length ≤ 70000 := by omega
  have rd := r_decode L hL hl
  generalize decB L = p at hok rd ⊢
  obtain ⟨⟨f1, A, f2, B⟩, e⟩ := p
  dsimp only at rd hok
  have hAl : A.length ≤ 2 ^ 47 := hok.al
  have hBl : B.length ≤ 2 ^ 47 := hok.bl
  rcases A with _ | ⟨a, A⟩ <;> rcases B with _ | ⟨b, B⟩
  all_goals
    (conv => arg 3; whnf); repeat (first | ((with_reducible refine sat_brT ?_ ?_); rfl; conv => arg 3; whnf) | ((with_reducible refine sat_brF ?_ ?_); rfl; conv => arg 3; whnf) | ((with_reducible refine sat_eqv ?_ ?_); rfl; conv => arg 3; whnf))
    refine sat_call rd ?_
    rintro r H' ⟨rfl, rfl⟩
    (conv => arg 3; whnf); repeat (first | ((with_reducible refine sat_brT ?_ ?_); rfl; conv => arg 3; whnf) | ((with_reducible refine sat_brF ?_ ?_); rfl; conv => arg 3; whnf) | ((with_reducible refine sat_eqv ?_ ?_); rfl; conv => arg 3; whnf))
    (try rw [List.drop_zero, List.take_length])
    refine sat_call (k_sameB L L hL.u hL.u (by omega)) ?_
    rintro r H' ⟨⟨q, rfl, hq⟩, rfl⟩
    have hq := hq.2 rfl
    subst hq
    (conv => arg 3; whnf); repeat (first | ((with_reducible refine sat_brT ?_ ?_); rfl; conv => arg 3; whnf) | ((with_reducible refine sat_brF ?_ ?_); rfl; conv => arg 3; whnf) | ((with_reducible refine sat_eqv ?_ ?_); rfl; conv => arg 3; whnf))
  · refine sat_loopOf mkX_ops (σ := SpSt L.length) (fun s => [(3, .sl 0 0 [] 0 L.length none), (4, pt 1), (5, ti e), (6, pt 2), (7, ti e), (8, tb true), (9, ti s.i)]) (fun s => [.row 1 s.xs, .var (nilI), .var (nilI)]) (fun s => L.length - s.i)
      (fun ex fr' H' => ex = .exit 0 ∧ fr' = [(4, pt 1), (5, ti e), (6, pt 2), (7, ti e), (8, tb true)] ∧ ∃ xs, H' = [.row 1 xs, .var (nilI), .var (nilI)]) ⟨0, L, rfl, hL.u⟩ ?_ ?_
    · rintro ⟨k, xs, xl, xb⟩
      dsimp only
      refine sat_br (fun hk => ?_) (fun hk => ?_)
      · have hk : k < L.length := by have := of_decide_eq_true hk; omega
        obtain ⟨v, hv⟩ := xb.get (show k < xs.length by omega)
        (conv => arg 3; whnf); repeat (first | ((with_reducible refine sat_brT ?_ ?_); rfl; conv => arg 3; whnf) | ((with_reducible refine sat_brF ?_ ?_); rfl; conv => arg 3; whnf) | ((with_reducible refine sat_eqv ?_ ?_); rfl; conv => arg 3; whnf))
        refine sat_asrt (decide_eq_true (by omega)) ?_
        (conv => arg 3; whnf); repeat (first | ((with_reducible refine sat_brT ?_ ?_); rfl; conv => arg 3; whnf) | ((with_reducible refine sat_brF ?_ ?_); rfl; conv => arg 3; whnf) | ((with_reducible refine sat_eqv ?_ ?_); rfl; conv => arg 3; whnf))
        refine sat_idx (u8 v) (by simp) (by simpa using hv) ?_
        (conv => arg 3; whnf); repeat (first | ((with_reducible refine sat_brT ?_ ?_); rfl; conv => arg 3; whnf) | ((with_reducible refine sat_brF ?_ ?_); rfl; conv => arg 3; whnf) | ((with_reducible refine sat_eqv ?_ ?_); rfl; conv => arg 3; whnf))
        refine sat_rng (wrap64 (by omega) (by omega)) ?_
        exact sat_ret ⟨⟨k + 1, xs.set k (u8 102), by rw [List.length_set]; exact xl, xb.set _ _⟩, rfl, by rw [Int.toNat_natCast, Nat.zero_add], by show L.length - (k + 1) < L.length - k; omega⟩
      · refine sat_ret ?_
        exact ⟨rfl, rfl, xs, rfl⟩
    · rintro ex fr' H' ⟨rfl, rfl, xs, rfl⟩
      (conv => arg 3; whnf); repeat (first | ((with_reducible refine sat_brT ?_ ?_); rfl; conv => arg 3; whnf) | ((with_reducible refine sat_brF ?_ ?_); rfl; conv => arg 3; whnf) | ((with_reducible refine sat_eqv ?_ ?_); rfl; conv => arg 3; whnf))
      refine sat_brT (by simp) ?_
      (conv => arg 3; whnf); repeat (first | ((with_reducible refine sat_brT ?_ ?_); rfl; conv => arg 3; whnf) | ((with_reducible refine sat_brF ?_ ?_); rfl; conv => arg 3; whnf) | ((with_reducible refine sat_eqv ?_ ?_); rfl; conv => arg 3; whnf))
      (try rw [List.drop_zero, List.take_length])
      (try rw [List.drop_zero, List.take_length])
      refine sat_call (r_same ⟨f1, [], f2, []⟩ ⟨f1, [], f2, []⟩ hok hok) ?_
      rintro r H' ⟨rfl, rfl⟩
      rw [Im.eq_refl hok]
      (conv => arg 3; whnf); repeat (first | ((with_reducible refine sat_brT ?_ ?_); rfl; conv => arg 3; whnf) | ((with_reducible refine sat_brF ?_ ?_); rfl; conv => arg 3; whnf) | ((with_reducible refine sat_eqv ?_ ?_); rfl; conv => arg 3; whnf))
      refine sat_call k_wakes ?_
      rintro r H' ⟨rfl, rfl⟩
      (conv => arg 3; whnf); repeat (first | ((with_reducible refine sat_brT ?_ ?_); rfl; conv => arg 3; whnf) | ((with_reducible refine sat_brF ?_ ?_); rfl; conv => arg 3; whnf) | ((with_reducible refine sat_eqv ?_ ?_); rfl; conv => arg 3; whnf))
      exact sat_ret rfl
  · refine sat_loopOf mkX_ops (σ := SpSt L.length) (fun s => [(3, .sl 0 0 [] 0 L.length none), (4, pt 1), (5, ti e), (6, pt 3), (7, ti e), (8, tb true), (9, ti s.i)]) (fun s => [.row 1 s.xs, .var (.agg [.t (.sl true 4 []), .sl 2 0 [] 0 (b :: B).length none]), .row 5 (b :: B), .var (.agg [.t (.sl true 4 []), .sl 4 0 [] 0 (b :: B).length none]), .row 5 (b :: B)]) (fun s => L.length - s.i)
      (fun ex fr' H' => ex = .exit 0 ∧ fr' = [(4, pt 1), (5, ti e), (6, pt 3), (7, ti e), (8, tb true)] ∧ ∃ xs, H' = [.row 1 xs, .var (.agg [.t (.sl true 4 []), .sl 2 0 [] 0 (b :: B).length none]), .row 5 (b :: B), .var (.agg [.t (.sl true 4 []), .sl 4 0 [] 0 (b :: B).length none]), .row 5 (b :: B)]) ⟨0, L, rfl, hL.u⟩ ?_ ?_
    · rintro ⟨k, xs, xl, xb⟩
      dsimp only
      refine sat_br (fun hk => ?_) (fun hk => ?_)
      · have hk : k < L.length := by have := of_decide_eq_true hk; omega
        obtain ⟨v, hv⟩ := xb.get (show k < xs.length by omega)
        (conv => arg 3; whnf); repeat (first | ((with_reducible refine sat_brT ?_ ?_); rfl; conv => arg 3; whnf) | ((with_reducible refine sat_brF ?_ ?_); rfl; conv => arg 3; whnf) | ((with_reducible refine sat_eqv ?_ ?_); rfl; conv => arg 3; whnf))
        refine sat_asrt (decide_eq_true (by omega)) ?_
        (conv => arg 3; whnf); repeat (first | ((with_reducible refine sat_brT ?_ ?_); rfl; conv => arg 3; whnf) | ((with_reducible refine sat_brF ?_ ?_); rfl; conv => arg 3; whnf) | ((with_reducible refine sat_eqv ?_ ?_); rfl; conv => arg 3; whnf))
        refine sat_idx (u8 v) (by simp) (by simpa using hv) ?_
        (conv => arg 3; whnf); repeat (first | ((with_reducible refine sat_brT ?_ ?_); rfl; conv => arg 3; whnf) | ((with_reducible refine sat_brF ?_ ?_); rfl; conv => arg 3; whnf) | ((with_reducible refine sat_eqv ?_ ?_); rfl; conv => arg 3; whnf))
        refine sat_rng (wrap64 (by omega) (by omega)) ?_
        exact sat_ret ⟨⟨k + 1, xs.set k (u8 102), by rw [List.length_set]; exact xl, xb.set _ _⟩, rfl, by rw [Int.toNat_natCast, Nat.zero_add], by show L.length - (k + 1) < L.length - k; omega⟩
      · refine sat_ret ?_
        exact ⟨rfl, rfl, xs, rfl⟩
    · rintro ex fr' H' ⟨rfl, rfl, xs, rfl⟩
      (conv => arg 3; whnf); repeat (first | ((with_reducible refine sat_brT ?_ ?_); rfl; conv => arg 3; whnf) | ((with_reducible refine sat_brF ?_ ?_); rfl; conv => arg 3; whnf) | ((with_reducible refine sat_eqv ?_ ?_); rfl; conv => arg 3; whnf))
      refine sat_brT (by simp) ?_
      (conv => arg 3; whnf); repeat (first | ((with_reducible refine sat_brT ?_ ?_); rfl; conv => arg 3; whnf) | ((with_reducible refine sat_brF ?_ ?_); rfl; conv => arg 3; whnf) | ((with_reducible refine sat_eqv ?_ ?_); rfl; conv => arg 3; whnf))
      (try rw [List.drop_zero, List.take_length])
      (try rw [List.drop_zero, List.take_length])
      refine sat_call (r_same ⟨f1, [], f2, (b :: B)⟩ ⟨f1, [], f2, (b :: B)⟩ hok hok) ?_
      rintro r H' ⟨rfl, rfl⟩
      rw [Im.eq_refl hok]
      (conv => arg 3; whnf); repeat (first | ((with_reducible refine sat_brT ?_ ?_); rfl; conv => arg 3; whnf) | ((with_reducible refine sat_brF ?_ ?_); rfl; conv => arg 3; whnf) | ((with_reducible refine sat_eqv ?_ ?_); rfl; conv => arg 3; whnf))
      refine sat_call k_wakes ?_
      rintro r H' ⟨rfl, rfl⟩
      (conv => arg 3; whnf); repeat (first | ((with_reducible refine sat_brT ?_ ?_); rfl; conv => arg 3; whnf) | ((with_reducible refine sat_brF ?_ ?_); rfl; conv => arg 3; whnf) | ((with_reducible refine sat_eqv ?_ ?_); rfl; conv => arg 3; whnf))
      exact sat_ret rfl
  · refine sat_loopOf mkX_ops (σ := SpSt L.length) (fun s => [(3, .sl 0 0 [] 0 L.length none), (4, pt 1), (5, ti e), (6, pt 3), (7, ti e), (8, tb true), (9, ti s.i)]) (fun s => [.row 1 s.xs, .var (.agg [.sl 2 0 [] 0 (a :: A).length none, .t (.sl true 5 [])]), .row 4 (a :: A), .var (.agg [.sl 4 0 [] 0 (a :: A).length none, .t (.sl true 5 [])]), .row 4 (a :: A)]) (fun s => L.length - s.i)
      (fun ex fr' H' => ex = .exit 0 ∧ fr' = [(4, pt 1), (5, ti e), (6, pt 3), (7, ti e), (8, tb true)] ∧ ∃ xs, H' = [.row 1 xs, .var (.agg [.sl 2 0 [] 0 (a :: A).length none, .t (.sl true 5 [])]), .row 4 (a :: A), .var (.agg [.sl 4 0 [] 0 (a :: A).length none, .t (.sl true 5 [])]), .row 4 (a :: A)]) ⟨0, L, rfl, hL.u⟩ ?_ ?_
    · rintro ⟨k, xs, xl, xb⟩
      dsimp only
      refine sat_br (fun hk => ?_) (fun hk => ?_)
      · have hk : k < L.length := by have := of_decide_eq_true hk; omega
        obtain ⟨v, hv⟩ := xb.get (show k < xs.length by omega)
        (conv => arg 3; whnf); repeat (first | ((with_reducible refine sat_brT ?_ ?_); rfl; conv => arg 3; whnf) | ((with_reducible refine sat_brF ?_ ?_); rfl; conv => arg 3; whnf) | ((with_reducible refine sat_eqv ?_ ?_); rfl; conv => arg 3; whnf))
        refine sat_asrt (decide_eq_true (by omega)) ?_
        (conv => arg 3; whnf); repeat (first | ((with_reducible refine sat_brT ?_ ?_); rfl; conv => arg 3; whnf) | ((with_reducible refine sat_brF ?_ ?_); rfl; conv => arg 3; whnf) | ((with_reducible refine sat_eqv ?_ ?_); rfl; conv => arg 3; whnf))
        refine sat_idx (u8 v) (by simp) (by simpa using hv) ?_
        (conv => arg 3; whnf); repeat (first | ((with_reducible refine sat_brT ?_ ?_); rfl; conv => arg 3; whnf) | ((with_reducible refine sat_brF ?_ ?_); rfl; conv => arg 3; whnf) | ((with_reducible refine sat_eqv ?_ ?_); rfl; conv => arg 3; whnf))
        refine sat_rng (wrap64 (by omega) (by omega)) ?_
        exact sat_ret ⟨⟨k + 1, xs.set k (u8 102), by rw [List.length_set]; exact xl, xb.set _ _⟩, rfl, by rw [Int.toNat_natCast, Nat.zero_add], by show L.length - (k + 1) < L.length - k; omega⟩
      · refine sat_ret ?_
        exact ⟨rfl, rfl, xs, rfl⟩
    · rintro ex fr' H' ⟨rfl, rfl, xs, rfl⟩
      (conv => arg 3; whnf); repeat (first | ((with_reducible refine sat_brT ?_ ?_); rfl; conv => arg 3; whnf) | ((with_reducible refine sat_brF ?_ ?_); rfl; conv => arg 3; whnf) | ((with_reducible refine sat_eqv ?_ ?_); rfl; conv => arg 3; whnf))
      refine sat_brT (by simp) ?_
      (conv => arg 3; whnf); repeat (first | ((with_reducible refine sat_brT ?_ ?_); rfl; conv => arg 3; whnf) | ((with_reducible refine sat_brF ?_ ?_); rfl; conv => arg 3; whnf) | ((with_reducible refine sat_eqv ?_ ?_); rfl; conv => arg 3; whnf))
      (try rw [List.drop_zero, List.take_length])
      (try rw [List.drop_zero, List.take_length])
      refine sat_call (r_same ⟨f1, (a :: A), f2, []⟩ ⟨f1, (a :: A), f2, []⟩ hok hok) ?_
      rintro r H' ⟨rfl, rfl⟩
      rw [Im.eq_refl hok]
      (conv => arg 3; whnf); repeat (first | ((with_reducible refine sat_brT ?_ ?_); rfl; conv => arg 3; whnf) | ((with_reducible refine sat_brF ?_ ?_); rfl; conv => arg 3; whnf) | ((with_reducible refine sat_eqv ?_ ?_); rfl; conv => arg 3; whnf))
      refine sat_call k_wakes ?_
      rintro r H' ⟨rfl, rfl⟩
      (conv => arg 3; whnf); repeat (first | ((with_reducible refine sat_brT ?_ ?_); rfl; conv => arg 3; whnf) | ((with_reducible refine sat_brF ?_ ?_); rfl; conv => arg 3; whnf) | ((with_reducible refine sat_eqv ?_ ?_); rfl; conv => arg 3; whnf))
      exact sat_ret rfl
  · refine sat_loopOf mkX_ops (σ := SpSt L.length) (fun s => [(3, .sl 0 0 [] 0 L.length none), (4, pt 1), (5, ti e), (6, pt 4), (7, ti e), (8, tb true), (9, ti s.i)]) (fun s => [.row 1 s.xs, .var (.agg [.sl 2 0 [] 0 (a :: A).length none, .sl 3 0 [] 0 (b :: B).length none]), .row 4 (a :: A), .row 5 (b :: B), .var (.agg [.sl 5 0 [] 0 (a :: A).length none, .sl 6 0 [] 0 (b :: B).length none]), .row 4 (a :: A), .row 5 (b :: B)]) (fun s => L.length - s.i)
      (fun ex fr' H' => ex = .exit 0 ∧ fr' = [(4, pt 1), (5, ti e), (6, pt 4), (7, ti e), (8, tb true)] ∧ ∃ xs, H' = [.row 1 xs, .var (.agg [.sl 2 0 [] 0 (a :: A).length none, .sl 3 0 [] 0 (b :: B).length none]), .row 4 (a :: A), .row 5 (b :: B), .var (.agg [.sl 5 0 [] 0 (a :: A).length none, .sl 6 0 [] 0 (b :: B).length none]), .row 4 (a :: A), .row 5 (b :: B)]) ⟨0, L, rfl, hL.u⟩ ?_ ?_
    · rintro ⟨k, xs, xl, xb⟩
      dsimp only
      refine sat_br (fun hk => ?_) (fun hk => ?_)
      · have hk : k < L.length := by have := of_decide_eq_true hk; omega
        obtain ⟨v, hv⟩ := xb.get (show k < xs.length by omega)
        (conv => arg 3; whnf); repeat (first | ((with_reducible refine sat_brT ?_ ?_); rfl; conv => arg 3; whnf) | ((with_reducible refine sat_brF ?_ ?_); rfl; conv => arg 3; whnf) | ((with_reducible refine sat_eqv ?_ ?_); rfl; conv => arg 3; whnf))
        refine sat_asrt (decide_eq_true (by omega)) ?_
        (conv => arg 3; whnf); repeat (first | ((with_reducible refine sat_brT ?_ ?_); rfl; conv => arg 3; whnf) | ((with_reducible refine sat_brF ?_ ?_); rfl; conv => arg 3; whnf) | ((with_reducible refine sat_eqv ?_ ?_); rfl; conv => arg 3; whnf))
        refine sat_idx (u8 v) (by simp) (by simpa using hv) ?_
        (conv => arg 3; whnf); repeat (first | ((with_reducible refine sat_brT ?_ ?_); rfl; conv => arg 3; whnf) | ((with_reducible refine sat_brF ?_ ?_); rfl; conv => arg 3; whnf) | ((with_reducible refine sat_eqv ?_ ?_); rfl; conv => arg 3; whnf))
        refine sat_rng (wrap64 (by omega) (by omega)) ?_
        exact sat_ret ⟨⟨k + 1, xs.set k (u8 102), by rw [List.length_set]; exact xl, xb.set _ _⟩, rfl, by rw [Int.toNat_natCast, Nat.zero_add], by show L.length - (k + 1) < L.length - k; omega⟩
      · refine sat_ret ?_
        exact ⟨rfl, rfl, xs, rfl⟩
    · rintro ex fr' H' ⟨rfl, rfl, xs, rfl⟩
      (conv => arg 3; whnf); repeat (first | ((with_reducible refine sat_brT ?_ ?_); rfl; conv => arg 3; whnf) | ((with_reducible refine sat_brF ?_ ?_); rfl; conv => arg 3; whnf) | ((with_reducible refine sat_eqv ?_ ?_); rfl; conv => arg 3; whnf))
      refine sat_brT (by simp) ?_
      (conv => arg 3; whnf); repeat (first | ((with_reducible refine sat_brT ?_ ?_); rfl; conv => arg 3; whnf) | ((with_reducible refine sat_brF ?_ ?_); rfl; conv => arg 3; whnf) | ((with_reducible refine sat_eqv ?_ ?_); rfl; conv => arg 3; whnf))
      (try rw [List.drop_zero, List.take_length])
      (try rw [List.drop_zero, List.take_length])
      refine sat_call (r_same ⟨f1, (a :: A), f2, (b :: B)⟩ ⟨f1, (a :: A), f2, (b :: B)⟩ hok hok) ?_
      rintro r H' ⟨rfl, rfl⟩
      rw [Im.eq_refl hok]
      (conv => arg 3; whnf); repeat (first | ((with_reducible refine sat_brT ?_ ?_); rfl; conv => arg 3; whnf) | ((with_reducible refine sat_brF ?_ ?_); rfl; conv => arg 3; whnf) | ((with_reducible refine sat_eqv ?_ ?_); rfl; conv => arg 3; whnf))
      refine sat_call k_wakes ?_
      rintro r H' ⟨rfl, rfl⟩
      (conv => arg 3; whnf); repeat (first | ((with_reducible refine sat_brT ?_ ?_); rfl; conv => arg 3; whnf) | ((with_reducible refine sat_brF ?_ ?_); rfl; conv => arg 3; whnf) | ((with_reducible refine sat_eqv ?_ ?_); rfl; conv => arg 3; whnf))
      exact sat_ret rfl
end Stk
