/- Copies of bytes; the document's forms and its records of a file. -/
import Derived.Test.YtmcdljgpalejaaaW2
namespace Stk
open Go
set_option maxRecDepth 100000
set_option linter.unusedSimpArgs false
set_option linter.unusedVariables false
set_option maxHeartbeats 4000000
theorem k_own (ys : List Tr) (hy : ys.length ≤ 2 ^ 46) : ACalls PP GG F.ref22_own [.bz 1 ys] [] fun r H' => r = .sl 0 0 [] 0 ys.length none ∧ H' = [.row 1 ys] := by
  refine K.ref22_own.callsC rfl ?_
  (conv => arg 3; whnf); repeat (first | ((with_reducible refine sat_brT ?_ ?_); rfl; conv => arg 3; whnf) | ((with_reducible refine sat_brF ?_ ?_); rfl; conv => arg 3; whnf) | ((with_reducible refine sat_eqv ?_ ?_); rfl; conv => arg 3; whnf))
  refine sat_asrt (by first | rfl | (simp; done) | (simp; omega)) ?_
  refine sat_asrt (by simp [roomy]; omega) ?_
  (conv => arg 3; whnf); repeat (first | ((with_reducible refine sat_brT ?_ ?_); rfl; conv => arg 3; whnf) | ((with_reducible refine sat_brF ?_ ?_); rfl; conv => arg 3; whnf) | ((with_reducible refine sat_eqv ?_ ?_); rfl; conv => arg 3; whnf))
  exact sat_ret ⟨by simp [retP], by simp⟩
theorem four_eq {a b c d a' b' c' d' : Int} (h1 : a = a') (h2 : b = b') (h3 : c = c') (h4 : d = d') : [u8 a, u8 b, u8 c, u8 d] = [u8 a', u8 b', u8 c', u8 d'] := by subst h1 h2 h3 h4; rfl
theorem hd_wrap (n : Nat) (h : n ≤ 1048576) : [Tr.int IntKind.u8 (IntKind.u8.wrap ((n : Int).tmod 256)),
              Tr.int IntKind.u8 (IntKind.u8.wrap ((IntKind.i64.wrap ((n : Int).tdiv 256)).tmod 256)),
              Tr.int IntKind.u8 (IntKind.u8.wrap ((IntKind.i64.wrap ((n : Int).tdiv 65536)).tmod 256)),
              Tr.int IntKind.u8 (IntKind.u8.wrap (IntKind.i64.wrap ((n : Int).tdiv 16777216)))] = [u8 ((n : Int) % 256), u8 ((n : Int) / 256 % 256), u8 ((n : Int) / 65536 % 256), u8 ((n : Int) / 16777216)] := by
  have hn : (0 : Int) ≤ n := by omega
  rw [Int.tmod_eq_emod_of_nonneg hn, Int.tdiv_eq_ediv_of_nonneg hn, Int.tdiv_eq_ediv_of_nonneg hn, Int.tdiv_eq_ediv_of_nonneg hn,
    wrap64 (by omega) (by omega), wrap64 (by omega) (by omega), wrap64 (by omega) (by omega), Int.tmod_eq_emod_of_nonneg (by omega), Int.tmod_eq_emod_of_nonneg (by omega)]
  simp only [IntKind.wrap_u8]
  exact four_eq (by omega) (by omega) (by omega) (by omega)
theorem k_form (ys : List Tr) (hy : ys.length ≤ 1048576) : ACalls PP GG F.ref22_Form [.bz 1 ys] [] fun r H' => ∃ cap, r = .sl 0 0 [] 0 (formB ys).length cap ∧ H' = [.row 1 (formB ys)] := by
  refine K.ref22_Form.callsC rfl ?_
  (conv => arg 3; whnf); repeat (first | ((with_reducible refine sat_brT ?_ ?_); rfl; conv => arg 3; whnf) | ((with_reducible refine sat_brF ?_ ?_); rfl; conv => arg 3; whnf) | ((with_reducible refine sat_eqv ?_ ?_); rfl; conv => arg 3; whnf))
  repeat (first | ((with_reducible refine sat_rngw ?_); (conv => arg 3; whnf); repeat (first | ((with_reducible refine sat_brT ?_ ?_); rfl; conv => arg 3; whnf) | ((with_reducible refine sat_brF ?_ ?_); rfl; conv => arg 3; whnf) | ((with_reducible refine sat_eqv ?_ ?_); rfl; conv => arg 3; whnf))) | ((with_reducible refine sat_asrt ?_ ?_); (first | rfl | (simp [roomy]; omega) | (simp; done) | (simp; omega)); (conv => arg 3; whnf); repeat (first | ((with_reducible refine sat_brT ?_ ?_); rfl; conv => arg 3; whnf) | ((with_reducible refine sat_brF ?_ ?_); rfl; conv => arg 3; whnf) | ((with_reducible refine sat_eqv ?_ ?_); rfl; conv => arg 3; whnf))))
  have e := hd_wrap ys.length hy
  refine sat_br (fun h => ?_) (fun h => ?_)
  · (conv => arg 3; whnf); repeat (first | ((with_reducible refine sat_brT ?_ ?_); rfl; conv => arg 3; whnf) | ((with_reducible refine sat_brF ?_ ?_); rfl; conv => arg 3; whnf) | ((with_reducible refine sat_eqv ?_ ?_); rfl; conv => arg 3; whnf))
    have : ys = [] := List.eq_nil_of_length_eq_zero (by have := of_decide_eq_true h; omega)
    subst this
    exact sat_ret ⟨some 4, rfl, rfl⟩
  · (conv => arg 3; whnf); repeat (first | ((with_reducible refine sat_brT ?_ ?_); rfl; conv => arg 3; whnf) | ((with_reducible refine sat_brF ?_ ?_); rfl; conv => arg 3; whnf) | ((with_reducible refine sat_eqv ?_ ?_); rfl; conv => arg 3; whnf))
    refine sat_asrt (by simp [roomy]; omega) ?_
    (conv => arg 3; whnf); repeat (first | ((with_reducible refine sat_brT ?_ ?_); rfl; conv => arg 3; whnf) | ((with_reducible refine sat_brF ?_ ?_); rfl; conv => arg 3; whnf) | ((with_reducible refine sat_eqv ?_ ?_); rfl; conv => arg 3; whnf))
    refine sat_ret ⟨none, by simp [retP, formB]; omega, ?_⟩
    show [AO.row 1 (_ ++ ys)] = _
    rw [e]
    rfl
/-! forms of all records -/
def lensum (R : List (List Tr)) : Nat := (R.map List.length).sum
structure FoSt (R : List (List Tr)) where
  i : Nat
  le : i ≤ R.length
theorem formsL_len : ∀ R : List (List Tr), (formsL R).length = 4 * R.length + lensum R
  | [] => rfl
  | x :: R => by rw [formsL_cons, List.length_append, formB_len, formsL_len R]; simp [lensum]; omega
theorem formsL_take_len (R : List (List Tr)) (i : Nat) : (formsL (R.take i)).length ≤ (formsL R).length := by
  conv => rhs; rw [← List.take_append_drop i R, formsL_append, List.length_append]
  omega
theorem formsL_take_succ {R : List (List Tr)} {i : Nat} {x : List Tr} (h : R[i]? = some x) : formsL (R.take (i + 1)) = formsL (R.take i) ++ formB x := by
  rw [take_succ_get h, formsL_append, formsL_cons, formsL_nil, List.append_nil]
theorem k_rforms (R : List (List Tr)) (hR : AllR R) (hl : (formsL R).length ≤ 2 ^ 40) : ACalls PP GG F.ref22_Forms [.bz 1 (R.map rx)] [] fun r H' => r = .sl 0 0 [] 0 (formsL R).length none ∧ H' = [.row 1 (formsL R)] := by
  have hl2 := formsL_len R
  refine K.ref22_Forms.callsC rfl ?_
  (conv => arg 3; whnf); repeat (first | ((with_reducible refine sat_brT ?_ ?_); rfl; conv => arg 3; whnf) | ((with_reducible refine sat_brF ?_ ?_); rfl; conv => arg 3; whnf) | ((with_reducible refine sat_eqv ?_ ?_); rfl; conv => arg 3; whnf))
  refine sat_loopOf mkX_ops (σ := FoSt R) (fun x => [(0, .bz 1 (R.map rx)), (3, .sl 0 0 [] 0 (formsL (R.take x.i)).length none), (4, ti x.i)]) (fun x => [.row 1 (formsL (R.take x.i))]) (fun x => R.length - x.i)
      (fun ex fr' H' => H' = [.row 1 (formsL R)] ∧ ex = .exit 0 ∧ fr' = [(3, .sl 0 0 [] 0 (formsL R).length none)]) ⟨0, Nat.zero_le _⟩ ?_ ?_
  · rintro ⟨i, hi⟩
    dsimp only
    refine sat_br (fun h => ?_) (fun h => ?_)
    · have h : i < R.length := by simpa using h
      obtain ⟨u, hu, hu1, hu2⟩ := hR.get h
      have t1 := formsL_take_len R (i + 1)
      have t2 := formsL_take_succ hu
      have t3 : (formsL (R.take (i + 1))).length = (formsL (R.take i)).length + (formB u).length := by rw [t2, List.length_append]
      (conv => arg 3; whnf); repeat (first | ((with_reducible refine sat_brT ?_ ?_); rfl; conv => arg 3; whnf) | ((with_reducible refine sat_brF ?_ ?_); rfl; conv => arg 3; whnf) | ((with_reducible refine sat_eqv ?_ ?_); rfl; conv => arg 3; whnf))
      refine sat_idx (rx u) (by simp) (by simpa using get_rx hu) ?_
      (conv => arg 3; whnf); repeat (first | ((with_reducible refine sat_brT ?_ ?_); rfl; conv => arg 3; whnf) | ((with_reducible refine sat_brF ?_ ?_); rfl; conv => arg 3; whnf) | ((with_reducible refine sat_eqv ?_ ?_); rfl; conv => arg 3; whnf))
      refine sat_call (k_form u hu2) ?_
      rintro r H' ⟨cap, rfl, rfl⟩
      (conv => arg 3; whnf); repeat (first | ((with_reducible refine sat_brT ?_ ?_); rfl; conv => arg 3; whnf) | ((with_reducible refine sat_brF ?_ ?_); rfl; conv => arg 3; whnf) | ((with_reducible refine sat_eqv ?_ ?_); rfl; conv => arg 3; whnf))
      refine sat_asrt (by first | rfl | (simp; done) | (simp; omega)) ?_
      refine sat_asrt (by simp only [List.drop_zero, List.take_length]; simp [roomy]; omega) ?_
      refine sat_brT (by simp) ?_
      (conv => arg 3; whnf); repeat (first | ((with_reducible refine sat_brT ?_ ?_); rfl; conv => arg 3; whnf) | ((with_reducible refine sat_brF ?_ ?_); rfl; conv => arg 3; whnf) | ((with_reducible refine sat_eqv ?_ ?_); rfl; conv => arg 3; whnf))
      refine sat_rng (wrap64 (by omega) (by omega)) ?_
      have e1 : List.take (formB u).length (List.drop 0 (formB u)) = formB u := by simp
      refine sat_ret ⟨⟨i + 1, by omega⟩, ?_, ?_, by show R.length - (i + 1) < R.length - i; omega⟩
      · rw [e1, ← t2]; rfl
      · rw [e1, ← t2]
    · have h : ¬ i < R.length := by simpa using h
      have : R.take i = R := List.take_of_length_le (by omega)
      exact sat_ret ⟨by rw [this], rfl, by rw [this]; rfl⟩
  · rintro ex fr' H' ⟨rfl, rfl, rfl⟩
    (conv => arg 3; whnf); repeat (first | ((with_reducible refine sat_brT ?_ ?_); rfl; conv => arg 3; whnf) | ((with_reducible refine sat_brF ?_ ?_); rfl; conv => arg 3; whnf) | ((with_reducible refine sat_eqv ?_ ?_); rfl; conv => arg 3; whnf))
    exact sat_ret ⟨rfl, rfl⟩
structure SpSt (L : List Tr) where
  R : List (List Tr)
  rest : List Tr
  eq : records L = R ++ records rest
  bytes : AllB rest
  len : 4 * R.length + rest.length ≤ L.length
theorem map_rx_snoc (R : List (List Tr)) (x : List Tr) : (R ++ [x]).map rx = R.map rx ++ [rx x] := by simp
theorem k_rsplit (L : List Tr) (hL : AllB L) (hl : L.length ≤ 2 ^ 40) : ACalls PP GG F.ref22_Split [.bz 1 L] [] fun r H' => r = .sl 0 0 [] 0 (records L).length none ∧ H' = [.row 1 ((records L).map rx)] := by
  refine K.ref22_Split.callsC rfl ?_
  (conv => arg 3; whnf); repeat (first | ((with_reducible refine sat_brT ?_ ?_); rfl; conv => arg 3; whnf) | ((with_reducible refine sat_brF ?_ ?_); rfl; conv => arg 3; whnf) | ((with_reducible refine sat_eqv ?_ ?_); rfl; conv => arg 3; whnf))
  refine sat_loopOf mkX_ops (σ := SpSt L) (fun x => [(0, .bz 1 x.rest), (3, .sl 0 0 [] 0 x.R.length none)]) (fun x => [.row 1 (x.R.map rx)]) (fun x => x.rest.length)
      (fun ex fr' H' => H' = [.row 1 ((records L).map rx)] ∧ ((ex = .exit 0 ∧ fr' = [(2, .undef), (3, .sl 0 0 [] 0 (records L).length none)]) ∨ (ex = .ret ∧ fr' = [(2, .sl 0 0 [] 0 (records L).length none), (3, .sl 0 0 [] 0 (records L).length none)]))) ⟨[], L, rfl, hL, by simp⟩ ?_ ?_
  · rintro ⟨R, rest, heq, hb, hlen⟩
    dsimp only
    refine sat_br (fun h => ?_) (fun h => ?_)
    · have h : 4 ≤ rest.length := by have := of_decide_eq_true h; omega
      obtain ⟨a, b, c, d, M, rfl, ha, hb', hc, hd, hM⟩ := hb.four h
      obtain ⟨n, hn⟩ : ∃ n : Nat, (n : Int) = a + 256 * b + 65536 * c + 16777216 * d := ⟨(a + 256 * b + 65536 * c + 16777216 * d).toNat, by omega⟩
      (conv => arg 3; whnf); repeat (first | ((with_reducible refine sat_brT ?_ ?_); rfl; conv => arg 3; whnf) | ((with_reducible refine sat_brF ?_ ?_); rfl; conv => arg 3; whnf) | ((with_reducible refine sat_eqv ?_ ?_); rfl; conv => arg 3; whnf))
      repeat (first | ((with_reducible refine sat_rng ?_ ?_); (exact wrap64 (by omega) (by omega)); (conv => arg 3; whnf); repeat (first | ((with_reducible refine sat_brT ?_ ?_); rfl; conv => arg 3; whnf) | ((with_reducible refine sat_brF ?_ ?_); rfl; conv => arg 3; whnf) | ((with_reducible refine sat_eqv ?_ ?_); rfl; conv => arg 3; whnf))) | ((with_reducible refine sat_idx ?_ ?_ ?_ ?_); rotate_left; decide; rfl; (conv => arg 3; whnf); repeat (first | ((with_reducible refine sat_brT ?_ ?_); rfl; conv => arg 3; whnf) | ((with_reducible refine sat_brF ?_ ?_); rfl; conv => arg 3; whnf) | ((with_reducible refine sat_eqv ?_ ?_); rfl; conv => arg 3; whnf))) | ((with_reducible refine sat_asrt ?_ ?_); rfl; (conv => arg 3; whnf); repeat (first | ((with_reducible refine sat_brT ?_ ?_); rfl; conv => arg 3; whnf) | ((with_reducible refine sat_brF ?_ ?_); rfl; conv => arg 3; whnf) | ((with_reducible refine sat_eqv ?_ ?_); rfl; conv => arg 3; whnf))))
      rw [← hn]
      generalize hg : decide ((n : Int) > 1048576) = g
      cases g
      · have hg := of_decide_eq_false hg
        (conv => arg 3; whnf); repeat (first | ((with_reducible refine sat_brT ?_ ?_); rfl; conv => arg 3; whnf) | ((with_reducible refine sat_brF ?_ ?_); rfl; conv => arg 3; whnf) | ((with_reducible refine sat_eqv ?_ ?_); rfl; conv => arg 3; whnf))
        refine sat_rng (wrap64 (by omega) (by omega)) ?_
        (conv => arg 3; whnf); repeat (first | ((with_reducible refine sat_brT ?_ ?_); rfl; conv => arg 3; whnf) | ((with_reducible refine sat_brF ?_ ?_); rfl; conv => arg 3; whnf) | ((with_reducible refine sat_eqv ?_ ?_); rfl; conv => arg 3; whnf))
        refine sat_br (fun h2 => ?_) (fun h2 => ?_)
        · have h2 := of_decide_eq_true h2
          (conv => arg 3; whnf); repeat (first | ((with_reducible refine sat_brT ?_ ?_); rfl; conv => arg 3; whnf) | ((with_reducible refine sat_brF ?_ ?_); rfl; conv => arg 3; whnf) | ((with_reducible refine sat_eqv ?_ ?_); rfl; conv => arg 3; whnf))
          rw [records_stop hn (by simp at h2; omega), List.append_nil] at heq
          exact sat_ret ⟨by rw [heq], .inr ⟨rfl, by rw [heq]; rfl⟩⟩
        · have h2 := of_decide_eq_false h2
          have hnM : n ≤ M.length := by simp at h2; omega
          (conv => arg 3; whnf); repeat (first | ((with_reducible refine sat_brT ?_ ?_); rfl; conv => arg 3; whnf) | ((with_reducible refine sat_brF ?_ ?_); rfl; conv => arg 3; whnf) | ((with_reducible refine sat_eqv ?_ ?_); rfl; conv => arg 3; whnf))
          refine sat_rng (wrap64 (by omega) (by omega)) ?_
          (conv => arg 3; whnf); repeat (first | ((with_reducible refine sat_brT ?_ ?_); rfl; conv => arg 3; whnf) | ((with_reducible refine sat_brF ?_ ?_); rfl; conv => arg 3; whnf) | ((with_reducible refine sat_eqv ?_ ?_); rfl; conv => arg 3; whnf))
          refine sat_asrt (by simp; omega) ?_
          (conv => arg 3; whnf); repeat (first | ((with_reducible refine sat_brT ?_ ?_); rfl; conv => arg 3; whnf) | ((with_reducible refine sat_brF ?_ ?_); rfl; conv => arg 3; whnf) | ((with_reducible refine sat_eqv ?_ ?_); rfl; conv => arg 3; whnf))
          refine sat_asrt (by simp; omega) ?_
          (conv => arg 3; whnf); repeat (first | ((with_reducible refine sat_brT ?_ ?_); rfl; conv => arg 3; whnf) | ((with_reducible refine sat_brF ?_ ?_); rfl; conv => arg 3; whnf) | ((with_reducible refine sat_eqv ?_ ?_); rfl; conv => arg 3; whnf))
          have ek : List.drop (Int.toNat 4) (List.take (4 + (n : Int)).toNat (u8 a :: u8 b :: u8 c :: u8 d :: M)) = M.take n := by
            rw [show (4 + (n : Int)).toNat = n + 1 + 1 + 1 + 1 by omega]; rfl
          refine sat_call (Q' := fun r H' => r = .sl 0 0 [] 0 (M.take n).length none ∧ H' = [.row 1 (M.take n)]) (by rw [ek]; exact k_own (M.take n) (by simp at hlen ⊢; omega)) ?_
          rintro r H' ⟨rfl, rfl⟩
          (conv => arg 3; whnf); repeat (first | ((with_reducible refine sat_brT ?_ ?_); rfl; conv => arg 3; whnf) | ((with_reducible refine sat_brF ?_ ?_); rfl; conv => arg 3; whnf) | ((with_reducible refine sat_eqv ?_ ?_); rfl; conv => arg 3; whnf))
          refine sat_asrt (by simp) ?_
          refine sat_asrt (by simp at hlen; simp [roomy]; omega) ?_
          refine sat_brT (by simp) ?_
          (conv => arg 3; whnf); repeat (first | ((with_reducible refine sat_brT ?_ ?_); rfl; conv => arg 3; whnf) | ((with_reducible refine sat_brF ?_ ?_); rfl; conv => arg 3; whnf) | ((with_reducible refine sat_eqv ?_ ?_); rfl; conv => arg 3; whnf))
          refine sat_rng (wrap64 (by omega) (by omega)) ?_
          (conv => arg 3; whnf); repeat (first | ((with_reducible refine sat_brT ?_ ?_); rfl; conv => arg 3; whnf) | ((with_reducible refine sat_brF ?_ ?_); rfl; conv => arg 3; whnf) | ((with_reducible refine sat_eqv ?_ ?_); rfl; conv => arg 3; whnf))
          refine sat_asrt (by simp; omega) ?_
          (conv => arg 3; whnf); repeat (first | ((with_reducible refine sat_brT ?_ ?_); rfl; conv => arg 3; whnf) | ((with_reducible refine sat_brF ?_ ?_); rfl; conv => arg 3; whnf) | ((with_reducible refine sat_eqv ?_ ?_); rfl; conv => arg 3; whnf))
          have em : List.take (List.take n M).length (List.drop 0 (List.take n M)) = M.take n := by rw [List.drop_zero, List.take_length]
          have ed : List.drop (4 + (n : Int)).toNat (u8 a :: u8 b :: u8 c :: u8 d :: M) = M.drop n := by
            rw [show (4 + (n : Int)).toNat = n + 1 + 1 + 1 + 1 by omega]; rfl
          refine sat_ret ⟨⟨R ++ [M.take n], M.drop n, by rw [heq, records_cons hn ⟨by omega, hnM⟩, List.append_assoc]; rfl, hM.drop n, by simp at hlen ⊢; omega⟩, ?_, ?_, ?_⟩
          · rw [em, ← map_rx_snoc, List.take_length, ed, List.length_map]; rfl
          · rw [em, ← map_rx_snoc]
          · show (M.drop n).length < (u8 a :: u8 b :: u8 c :: u8 d :: M).length
            simp; omega
      · have hg := of_decide_eq_true hg
        (conv => arg 3; whnf); repeat (first | ((with_reducible refine sat_brT ?_ ?_); rfl; conv => arg 3; whnf) | ((with_reducible refine sat_brF ?_ ?_); rfl; conv => arg 3; whnf) | ((with_reducible refine sat_eqv ?_ ?_); rfl; conv => arg 3; whnf))
        rw [records_stop hn (by omega), List.append_nil] at heq
        exact sat_ret ⟨by rw [heq], .inr ⟨rfl, by rw [heq]; rfl⟩⟩
    · have h : rest.length < 4 := by have := of_decide_eq_false h; omega
      rw [records_short h, List.append_nil] at heq
      exact sat_ret ⟨by rw [heq], .inl ⟨rfl, by rw [heq]; rfl⟩⟩
  · rintro ex fr' H' ⟨rfl, ⟨rfl, rfl⟩ | ⟨rfl, rfl⟩⟩
    · (conv => arg 3; whnf); repeat (first | ((with_reducible refine sat_brT ?_ ?_); rfl; conv => arg 3; whnf) | ((with_reducible refine sat_brF ?_ ?_); rfl; conv => arg 3; whnf) | ((with_reducible refine sat_eqv ?_ ?_); rfl; conv => arg 3; whnf))
      exact sat_ret ⟨rfl, rfl⟩
    · (conv => arg 3; whnf); repeat (first | ((with_reducible refine sat_brT ?_ ?_); rfl; conv => arg 3; whnf) | ((with_reducible refine sat_brF ?_ ?_); rfl; conv => arg 3; whnf) | ((with_reducible refine sat_eqv ?_ ?_); rfl; conv => arg 3; whnf))
      exact sat_ret ⟨rfl, rfl⟩
end Stk
