/- The log's forms; its checks ahead of a call. -/
import Derived.Test.YtmcdljgpalejaaaW6
namespace Stk
open Go
set_option maxRecDepth 100000
set_option linter.unusedSimpArgs false
set_option linter.unusedVariables false
set_option maxHeartbeats 4000000
structure FmSt (R : List (List Tr)) where
  i : Nat
  b : List Tr
  eq : b = formsL (R.take i)
  le : i ≤ R.length
def hdB (n : Nat) : List Tr := [u8 ((n : Int) % 256), u8 ((n : Int) / 256 % 256), u8 ((n : Int) / 65536 % 256), u8 ((n : Int) / 16777216)]
theorem formB_hd (xs : List Tr) : formB xs = hdB xs.length ++ xs := rfl
theorem hd_shr (n : Nat) (h : n ≤ 1048576) : List.take 4 (List.drop 0 [Tr.int .u8 (IntKind.u8.wrap (n : Int)), Tr.int .u8 (IntKind.u8.wrap ((n : Int).fdiv (2 ^ min (Int.toNat 8) (IntKind.bits .i64)))), Tr.int .u8 (IntKind.u8.wrap ((n : Int).fdiv (2 ^ min (Int.toNat 16) (IntKind.bits .i64)))), Tr.int .u8 (IntKind.u8.wrap ((n : Int).fdiv (2 ^ min (Int.toNat 24) (IntKind.bits .i64))))]) = hdB n := by
  show [Tr.int .u8 (IntKind.u8.wrap (n : Int)), Tr.int .u8 (IntKind.u8.wrap ((n : Int).fdiv (2 ^ 8))), Tr.int .u8 (IntKind.u8.wrap ((n : Int).fdiv (2 ^ 16))), Tr.int .u8 (IntKind.u8.wrap ((n : Int).fdiv (2 ^ 24)))] = _
  rw [Int.fdiv_eq_ediv_of_nonneg _ (by decide), Int.fdiv_eq_ediv_of_nonneg _ (by decide), Int.fdiv_eq_ediv_of_nonneg _ (by decide)]
  simp only [IntKind.wrap_u8]
  exact four_eq (by omega) (by omega) (by omega) (by omega)
theorem k_formsR (R : List (List Tr)) (hR : AllR R) (hl : (formsL R).length ≤ 2 ^ 40) : ACalls PP GG F.wal_forms [.bz 1 (R.map rx)] [] fun r H' => r = .sl 0 0 [] 0 (formsL R).length none ∧ H' = [.row 1 (formsL R)] := by
  have hl2 := formsL_len R
  refine K.wal_forms.callsC rfl ?_
  (conv => arg 3; whnf); repeat (first | ((with_reducible refine sat_brT ?_ ?_); rfl; conv => arg 3; whnf) | ((with_reducible refine sat_brF ?_ ?_); rfl; conv => arg 3; whnf) | ((with_reducible refine sat_eqv ?_ ?_); rfl; conv => arg 3; whnf))
  refine sat_loopOf mkX_ops (σ := FmSt R) (fun x => [(3, .sl 0 0 [] 0 x.b.length none), (7, .bz 1 (R.map rx)), (8, ti (R.map rx).length), (9, ti x.i)]) (fun x => [.row 1 x.b]) (fun x => R.length - x.i)
      (fun ex fr' H' => H' = [.row 1 (formsL R)] ∧ ex = .exit 0 ∧ fr' = [(3, .sl 0 0 [] 0 (formsL R).length none)]) ⟨0, [], rfl, Nat.zero_le _⟩ ?_ ?_
  · rintro ⟨i, b, heq, hi⟩
    dsimp only
    refine sat_br (fun h => ?_) (fun h => ?_)
    · have h : i < R.length := by simpa using h
      obtain ⟨u, hu, hu1, hu2⟩ := hR.get h
      have t1 := formsL_take_len R (i + 1)
      have t2 := formsL_take_succ hu
      have t3 : (formsL (R.take (i + 1))).length = b.length + (formB u).length := by rw [t2, List.length_append, heq]
      have t4 := formB_len u
      have hdr := hd_shr u.length hu2
      (conv => arg 3; whnf); repeat (first | ((with_reducible refine sat_brT ?_ ?_); rfl; conv => arg 3; whnf) | ((with_reducible refine sat_brF ?_ ?_); rfl; conv => arg 3; whnf) | ((with_reducible refine sat_eqv ?_ ?_); rfl; conv => arg 3; whnf))
      refine sat_idx (rx u) (by simp) (by simpa using get_rx hu) ?_
      (conv => arg 3; whnf); repeat (first | ((with_reducible refine sat_brT ?_ ?_); rfl; conv => arg 3; whnf) | ((with_reducible refine sat_brF ?_ ?_); rfl; conv => arg 3; whnf) | ((with_reducible refine sat_eqv ?_ ?_); rfl; conv => arg 3; whnf))
      repeat (first | ((with_reducible refine sat_rngw ?_); (conv => arg 3; whnf); repeat (first | ((with_reducible refine sat_brT ?_ ?_); rfl; conv => arg 3; whnf) | ((with_reducible refine sat_brF ?_ ?_); rfl; conv => arg 3; whnf) | ((with_reducible refine sat_eqv ?_ ?_); rfl; conv => arg 3; whnf))) | ((with_reducible refine sat_asrt ?_ ?_); rfl; (conv => arg 3; whnf); repeat (first | ((with_reducible refine sat_brT ?_ ?_); rfl; conv => arg 3; whnf) | ((with_reducible refine sat_brF ?_ ?_); rfl; conv => arg 3; whnf) | ((with_reducible refine sat_eqv ?_ ?_); rfl; conv => arg 3; whnf))))
      rw [hdr]
      have hhl : (hdB u.length).length = 4 := rfl
      refine sat_asrt (by simp) ?_
      refine sat_asrt (by simp [roomy]; omega) ?_
      refine sat_brT (by simp) ?_
      (conv => arg 3; whnf); repeat (first | ((with_reducible refine sat_brT ?_ ?_); rfl; conv => arg 3; whnf) | ((with_reducible refine sat_brF ?_ ?_); rfl; conv => arg 3; whnf) | ((with_reducible refine sat_eqv ?_ ?_); rfl; conv => arg 3; whnf))
      refine sat_asrt (by simp) ?_
      refine sat_asrt (by simp [roomy]; omega) ?_
      refine sat_brT (by simp) ?_
      (conv => arg 3; whnf); repeat (first | ((with_reducible refine sat_brT ?_ ?_); rfl; conv => arg 3; whnf) | ((with_reducible refine sat_brF ?_ ?_); rfl; conv => arg 3; whnf) | ((with_reducible refine sat_eqv ?_ ?_); rfl; conv => arg 3; whnf))
      refine sat_rng (wrap64 (by omega) (by omega)) ?_
      have e1 : b ++ hdB u.length ++ u = formsL (R.take (i + 1)) := by rw [t2, formB_hd, heq, List.append_assoc]
      exact sat_ret ⟨⟨i + 1, b ++ hdB u.length ++ u, e1, by omega⟩, rfl, rfl, by show R.length - (i + 1) < R.length - i; omega⟩
    · have h : ¬ i < R.length := by simpa using h
      rw [List.take_of_length_le (by omega)] at heq
      exact sat_ret ⟨by rw [heq], rfl, by rw [heq]; rfl⟩
  · rintro ex fr' H' ⟨rfl, rfl, rfl⟩
    (conv => arg 3; whnf); repeat (first | ((with_reducible refine sat_brT ?_ ?_); rfl; conv => arg 3; whnf) | ((with_reducible refine sat_brF ?_ ?_); rfl; conv => arg 3; whnf) | ((with_reducible refine sat_eqv ?_ ?_); rfl; conv => arg 3; whnf))
    exact sat_ret ⟨rfl, rfl⟩
/-! one record, in a literal -/
structure F1St (xs : List Tr) where
  i : Nat
  b : List Tr
  eq : (i = 0 ∧ b = []) ∨ (i = 1 ∧ b = formB xs)
theorem k_forms1 (xs : List Tr) (hl : xs.length ≤ 1048576) : ACalls PP GG F.wal_forms [.sl 0 0 [] 0 1 (some 1)] [.var (.agg [.bz 1 xs])] fun r H' => r = .sl 1 0 [] 0 (formB xs).length none ∧ H' = [.var (.agg [.bz 1 xs]), .row 1 (formB xs)] := by
  have hdr := hd_shr xs.length hl
  refine K.wal_forms.callsC rfl ?_
  (conv => arg 3; whnf); repeat (first | ((with_reducible refine sat_brT ?_ ?_); rfl; conv => arg 3; whnf) | ((with_reducible refine sat_brF ?_ ?_); rfl; conv => arg 3; whnf) | ((with_reducible refine sat_eqv ?_ ?_); rfl; conv => arg 3; whnf))
  refine sat_loopOf mkX_ops (σ := F1St xs) (fun x => [(3, .sl 0 0 [] 0 x.b.length none), (7, .sl 1 0 [] 0 1 (some 1)), (8, ti 1), (9, ti x.i)]) (fun x => [.row 1 x.b, .var (.agg [.bz 1 xs])]) (fun x => 1 - x.i)
      (fun ex fr' H' => H' = [.row 1 (formB xs), .var (.agg [.bz 1 xs])] ∧ ex = .exit 0 ∧ fr' = [(3, .sl 0 0 [] 0 (formB xs).length none)]) ⟨0, [], .inl ⟨rfl, rfl⟩⟩ ?_ ?_
  · rintro ⟨i, b, ⟨rfl, rfl⟩ | ⟨rfl, rfl⟩⟩
    · dsimp only
      (conv => arg 3; whnf); repeat (first | ((with_reducible refine sat_brT ?_ ?_); rfl; conv => arg 3; whnf) | ((with_reducible refine sat_brF ?_ ?_); rfl; conv => arg 3; whnf) | ((with_reducible refine sat_eqv ?_ ?_); rfl; conv => arg 3; whnf))
      refine sat_asrt (by decide) ?_
      (conv => arg 3; whnf); repeat (first | ((with_reducible refine sat_brT ?_ ?_); rfl; conv => arg 3; whnf) | ((with_reducible refine sat_brF ?_ ?_); rfl; conv => arg 3; whnf) | ((with_reducible refine sat_eqv ?_ ?_); rfl; conv => arg 3; whnf))
      repeat (first | ((with_reducible refine sat_rngw ?_); (conv => arg 3; whnf); repeat (first | ((with_reducible refine sat_brT ?_ ?_); rfl; conv => arg 3; whnf) | ((with_reducible refine sat_brF ?_ ?_); rfl; conv => arg 3; whnf) | ((with_reducible refine sat_eqv ?_ ?_); rfl; conv => arg 3; whnf))) | ((with_reducible refine sat_asrt ?_ ?_); rfl; (conv => arg 3; whnf); repeat (first | ((with_reducible refine sat_brT ?_ ?_); rfl; conv => arg 3; whnf) | ((with_reducible refine sat_brF ?_ ?_); rfl; conv => arg 3; whnf) | ((with_reducible refine sat_eqv ?_ ?_); rfl; conv => arg 3; whnf))))
      rw [hdr, List.nil_append]
      have hhl : (hdB xs.length).length = 4 := rfl
      refine sat_asrt (by simp [roomy]; omega) ?_
      refine sat_brT (by simp) ?_
      (conv => arg 3; whnf); repeat (first | ((with_reducible refine sat_brT ?_ ?_); rfl; conv => arg 3; whnf) | ((with_reducible refine sat_brF ?_ ?_); rfl; conv => arg 3; whnf) | ((with_reducible refine sat_eqv ?_ ?_); rfl; conv => arg 3; whnf))
      refine sat_rng (wrap64 (by omega) (by omega)) ?_
      exact sat_ret ⟨⟨1, formB xs, .inr ⟨rfl, rfl⟩⟩, rfl, rfl, by show 1 - 1 < 1 - 0; omega⟩
    · dsimp only
      (conv => arg 3; whnf); repeat (first | ((with_reducible refine sat_brT ?_ ?_); rfl; conv => arg 3; whnf) | ((with_reducible refine sat_brF ?_ ?_); rfl; conv => arg 3; whnf) | ((with_reducible refine sat_eqv ?_ ?_); rfl; conv => arg 3; whnf))
      exact sat_ret ⟨rfl, rfl, rfl⟩
  · rintro ex fr' H' ⟨rfl, rfl, rfl⟩
    (conv => arg 3; whnf); repeat (first | ((with_reducible refine sat_brT ?_ ?_); rfl; conv => arg 3; whnf) | ((with_reducible refine sat_brF ?_ ?_); rfl; conv => arg 3; whnf) | ((with_reducible refine sat_eqv ?_ ?_); rfl; conv => arg 3; whnf))
    exact sat_ret ⟨rfl, rfl⟩
/-! checks ahead of a call -/
structure R1St (lg : Bool) where
  i : Nat
  le : i = 0 ∨ (i = 1 ∧ lg = false)
theorem k_ready1 (w : Lg) (xs : List Tr) : ACalls PP GG F.wal_Wal_ready [pt 0, .sl 4 0 [] 0 1 (some 1)] (w.H ++ [.var (.agg [.bz 1 xs])]) fun r H' =>
    r = ti (w.rdy (decide ((xs.length : Int) > 1048576))).2 ∧ ∃ v, v = (w.rdy (decide ((xs.length : Int) > 1048576))).1 ∧ H' = [wv 1 6 v.R none v.size v.over, v.d.v 5, .gone, .gone, .var (.agg [.bz 1 xs]), .row 1 v.d.xs, .row 1 (v.R.map rx)] := by
  obtain ⟨d, R, size, over⟩ := w
  refine K.wal_Wal_ready.callsC rfl ?_
  (conv => arg 3; whnf); repeat (first | ((with_reducible refine sat_brT ?_ ?_); rfl; conv => arg 3; whnf) | ((with_reducible refine sat_brF ?_ ?_); rfl; conv => arg 3; whnf) | ((with_reducible refine sat_eqv ?_ ?_); rfl; conv => arg 3; whnf))
  generalize hlg : decide ((xs.length : Int) > 1048576) = lg
  refine sat_loopOf mkX_ops (σ := R1St lg) (fun x => [(0, pt 0), (16, .sl 4 0 [] 0 1 (some 1)), (17, ti 1), (18, ti x.i)]) (fun x => Lg.H ⟨d, R, size, over⟩ ++ [.var (.agg [.bz 1 xs])]) (fun x => 1 - x.i)
    (fun ex fr' H' => H' = Lg.H ⟨d, R, size, over⟩ ++ [.var (.agg [.bz 1 xs])] ∧ ((lg = false ∧ ex = .exit 0 ∧ fr' = [(0, pt 0), (4, .undef)]) ∨ (lg = true ∧ ex = .ret ∧ fr' = [(0, pt 0), (4, ti 3)]))) ⟨0, .inl rfl⟩ ?_ ?_
  · rintro ⟨i, rfl | ⟨rfl, rfl⟩⟩
    · dsimp only
      (conv => arg 3; whnf); repeat (first | ((with_reducible refine sat_brT ?_ ?_); rfl; conv => arg 3; whnf) | ((with_reducible refine sat_brF ?_ ?_); rfl; conv => arg 3; whnf) | ((with_reducible refine sat_eqv ?_ ?_); rfl; conv => arg 3; whnf))
      refine sat_asrt (by decide) ?_
      (conv => arg 3; whnf); repeat (first | ((with_reducible refine sat_brT ?_ ?_); rfl; conv => arg 3; whnf) | ((with_reducible refine sat_brF ?_ ?_); rfl; conv => arg 3; whnf) | ((with_reducible refine sat_eqv ?_ ?_); rfl; conv => arg 3; whnf))
      rw [hlg]
      cases lg
      · (conv => arg 3; whnf); repeat (first | ((with_reducible refine sat_brT ?_ ?_); rfl; conv => arg 3; whnf) | ((with_reducible refine sat_brF ?_ ?_); rfl; conv => arg 3; whnf) | ((with_reducible refine sat_eqv ?_ ?_); rfl; conv => arg 3; whnf))
        refine sat_rng (wrap64 (by omega) (by omega)) ?_
        exact sat_ret ⟨⟨1, .inr ⟨rfl, rfl⟩⟩, rfl, rfl, by show 1 - 1 < 1 - 0; omega⟩
      · (conv => arg 3; whnf); repeat (first | ((with_reducible refine sat_brT ?_ ?_); rfl; conv => arg 3; whnf) | ((with_reducible refine sat_brF ?_ ?_); rfl; conv => arg 3; whnf) | ((with_reducible refine sat_eqv ?_ ?_); rfl; conv => arg 3; whnf))
        exact sat_ret ⟨rfl, .inr ⟨rfl, rfl, rfl⟩⟩
    · dsimp only
      (conv => arg 3; whnf); repeat (first | ((with_reducible refine sat_brT ?_ ?_); rfl; conv => arg 3; whnf) | ((with_reducible refine sat_brF ?_ ?_); rfl; conv => arg 3; whnf) | ((with_reducible refine sat_eqv ?_ ?_); rfl; conv => arg 3; whnf))
      exact sat_ret ⟨rfl, .inl ⟨rfl, rfl, rfl⟩⟩
  · rintro ex fr' H' ⟨rfl, ⟨rfl, rfl, rfl⟩ | ⟨rfl, rfl, rfl⟩⟩
    · cases over
      · (conv => arg 3; whnf); repeat (first | ((with_reducible refine sat_brT ?_ ?_); rfl; conv => arg 3; whnf) | ((with_reducible refine sat_brF ?_ ?_); rfl; conv => arg 3; whnf) | ((with_reducible refine sat_eqv ?_ ?_); rfl; conv => arg 3; whnf))
        refine sat_call (k_len d) ?_
        rintro r H' ⟨rfl, rfl⟩
        (conv => arg 3; whnf); repeat (first | ((with_reducible refine sat_brT ?_ ?_); rfl; conv => arg 3; whnf) | ((with_reducible refine sat_brF ?_ ?_); rfl; conv => arg 3; whnf) | ((with_reducible refine sat_eqv ?_ ?_); rfl; conv => arg 3; whnf))
        generalize hq : ((d.n : Int) != size) = q
        cases q
        · (conv => arg 3; whnf); repeat (first | ((with_reducible refine sat_brT ?_ ?_); rfl; conv => arg 3; whnf) | ((with_reducible refine sat_brF ?_ ?_); rfl; conv => arg 3; whnf) | ((with_reducible refine sat_eqv ?_ ?_); rfl; conv => arg 3; whnf))
          refine sat_ret ⟨?_, _, rfl, ?_⟩ <;> simp [Lg.rdy, Lg.chk, hq]
        · (conv => arg 3; whnf); repeat (first | ((with_reducible refine sat_brT ?_ ?_); rfl; conv => arg 3; whnf) | ((with_reducible refine sat_brF ?_ ?_); rfl; conv => arg 3; whnf) | ((with_reducible refine sat_eqv ?_ ?_); rfl; conv => arg 3; whnf))
          refine sat_ret ⟨?_, _, rfl, ?_⟩ <;> simp [Lg.rdy, Lg.chk, hq]
      · (conv => arg 3; whnf); repeat (first | ((with_reducible refine sat_brT ?_ ?_); rfl; conv => arg 3; whnf) | ((with_reducible refine sat_brF ?_ ?_); rfl; conv => arg 3; whnf) | ((with_reducible refine sat_eqv ?_ ?_); rfl; conv => arg 3; whnf))
        refine sat_ret ⟨?_, _, rfl, ?_⟩ <;> simp [Lg.rdy, Lg.chk]
    · (conv => arg 3; whnf); repeat (first | ((with_reducible refine sat_brT ?_ ?_); rfl; conv => arg 3; whnf) | ((with_reducible refine sat_brF ?_ ?_); rfl; conv => arg 3; whnf) | ((with_reducible refine sat_eqv ?_ ?_); rfl; conv => arg 3; whnf))
      exact sat_ret ⟨rfl, _, rfl, rfl⟩
def Rlong (R : List (List Tr)) : Bool := R.any fun x => decide ((x.length : Int) > 1048576)
structure RRSt (Q : List (List Tr)) where
  i : Nat
  ok : Rlong (Q.take i) = false
  le : i ≤ Q.length
theorem k_readyR (w : Lg) (Q : List (List Tr)) (hl : Q.length ≤ 2 ^ 50) : ACalls PP GG F.wal_Wal_ready [pt 0, .bz 1 (Q.map rx)] w.H fun r H' => r = ti (w.rdy (Rlong Q)).2 ∧ H' = (w.rdy (Rlong Q)).1.H' := by
  obtain ⟨d, R, size, over⟩ := w
  refine K.wal_Wal_ready.callsC rfl ?_
  (conv => arg 3; whnf); repeat (first | ((with_reducible refine sat_brT ?_ ?_); rfl; conv => arg 3; whnf) | ((with_reducible refine sat_brF ?_ ?_); rfl; conv => arg 3; whnf) | ((with_reducible refine sat_eqv ?_ ?_); rfl; conv => arg 3; whnf))
  refine sat_loopOf mkX_ops (σ := RRSt Q) (fun x => [(0, pt 0), (16, .bz 1 (Q.map rx)), (17, ti (Q.map rx).length), (18, ti x.i)]) (fun x => Lg.H ⟨d, R, size, over⟩) (fun x => Q.length - x.i)
    (fun ex fr' H' => H' = Lg.H ⟨d, R, size, over⟩ ∧ ((Rlong Q = false ∧ ex = .exit 0 ∧ fr' = [(0, pt 0), (4, .undef)]) ∨ (Rlong Q = true ∧ ex = .ret ∧ fr' = [(0, pt 0), (4, ti 3)]))) ⟨0, rfl, Nat.zero_le _⟩ ?_ ?_
  · rintro ⟨i, hok, hi⟩
    dsimp only
    (conv => arg 3; whnf); repeat (first | ((with_reducible refine sat_brT ?_ ?_); rfl; conv => arg 3; whnf) | ((with_reducible refine sat_brF ?_ ?_); rfl; conv => arg 3; whnf) | ((with_reducible refine sat_eqv ?_ ?_); rfl; conv => arg 3; whnf))
    refine sat_br (fun h => ?_) (fun h => ?_)
    · have h : i < Q.length := by simpa using h
      have hu : Q[i]? = some Q[i] := List.getElem?_eq_getElem h
      generalize Q[i] = u at *
      (conv => arg 3; whnf); repeat (first | ((with_reducible refine sat_brT ?_ ?_); rfl; conv => arg 3; whnf) | ((with_reducible refine sat_brF ?_ ?_); rfl; conv => arg 3; whnf) | ((with_reducible refine sat_eqv ?_ ?_); rfl; conv => arg 3; whnf))
      refine sat_idx (rx u) (by simp) (by simpa using get_rx hu) ?_
      (conv => arg 3; whnf); repeat (first | ((with_reducible refine sat_brT ?_ ?_); rfl; conv => arg 3; whnf) | ((with_reducible refine sat_brF ?_ ?_); rfl; conv => arg 3; whnf) | ((with_reducible refine sat_eqv ?_ ?_); rfl; conv => arg 3; whnf))
      generalize hlg : decide ((u.length : Int) > 1048576) = lg
      cases lg
      · (conv => arg 3; whnf); repeat (first | ((with_reducible refine sat_brT ?_ ?_); rfl; conv => arg 3; whnf) | ((with_reducible refine sat_brF ?_ ?_); rfl; conv => arg 3; whnf) | ((with_reducible refine sat_eqv ?_ ?_); rfl; conv => arg 3; whnf))
        refine sat_rng (wrap64 (by omega) (by omega)) ?_
        refine sat_ret ⟨⟨i + 1, ?_, by omega⟩, rfl, rfl, by show Q.length - (i + 1) < Q.length - i; omega⟩
        rw [take_succ_get hu]
        unfold Rlong at hok ⊢
        rw [List.any_append, hok]
        simp only [List.any_cons, List.any_nil, hlg]; rfl
      · (conv => arg 3; whnf); repeat (first | ((with_reducible refine sat_brT ?_ ?_); rfl; conv => arg 3; whnf) | ((with_reducible refine sat_brF ?_ ?_); rfl; conv => arg 3; whnf) | ((with_reducible refine sat_eqv ?_ ?_); rfl; conv => arg 3; whnf))
        exact sat_ret ⟨rfl, .inr ⟨List.any_eq_true.2 ⟨u, List.mem_of_getElem? hu, hlg⟩, rfl, rfl⟩⟩
    · have h : ¬ i < Q.length := by simpa using h
      rw [List.take_of_length_le (by omega)] at hok
      (conv => arg 3; whnf); repeat (first | ((with_reducible refine sat_brT ?_ ?_); rfl; conv => arg 3; whnf) | ((with_reducible refine sat_brF ?_ ?_); rfl; conv => arg 3; whnf) | ((with_reducible refine sat_eqv ?_ ?_); rfl; conv => arg 3; whnf))
      exact sat_ret ⟨rfl, .inl ⟨hok, rfl, rfl⟩⟩
  · rintro ex fr' H' ⟨rfl, ⟨hQ, rfl, rfl⟩ | ⟨hQ, rfl, rfl⟩⟩
    · rw [hQ]
      cases over
      · (conv => arg 3; whnf); repeat (first | ((with_reducible refine sat_brT ?_ ?_); rfl; conv => arg 3; whnf) | ((with_reducible refine sat_brF ?_ ?_); rfl; conv => arg 3; whnf) | ((with_reducible refine sat_eqv ?_ ?_); rfl; conv => arg 3; whnf))
        refine sat_call (k_len d) ?_
        rintro r H' ⟨rfl, rfl⟩
        (conv => arg 3; whnf); repeat (first | ((with_reducible refine sat_brT ?_ ?_); rfl; conv => arg 3; whnf) | ((with_reducible refine sat_brF ?_ ?_); rfl; conv => arg 3; whnf) | ((with_reducible refine sat_eqv ?_ ?_); rfl; conv => arg 3; whnf))
        generalize hq : ((d.n : Int) != size) = q
        cases q
        · (conv => arg 3; whnf); repeat (first | ((with_reducible refine sat_brT ?_ ?_); rfl; conv => arg 3; whnf) | ((with_reducible refine sat_brF ?_ ?_); rfl; conv => arg 3; whnf) | ((with_reducible refine sat_eqv ?_ ?_); rfl; conv => arg 3; whnf))
          refine sat_ret ⟨?_, ?_⟩ <;> simp [Lg.rdy, Lg.chk, hq]
        · (conv => arg 3; whnf); repeat (first | ((with_reducible refine sat_brT ?_ ?_); rfl; conv => arg 3; whnf) | ((with_reducible refine sat_brF ?_ ?_); rfl; conv => arg 3; whnf) | ((with_reducible refine sat_eqv ?_ ?_); rfl; conv => arg 3; whnf))
          refine sat_ret ⟨?_, ?_⟩ <;> simp [Lg.rdy, Lg.chk, hq]
      · (conv => arg 3; whnf); repeat (first | ((with_reducible refine sat_brT ?_ ?_); rfl; conv => arg 3; whnf) | ((with_reducible refine sat_brF ?_ ?_); rfl; conv => arg 3; whnf) | ((with_reducible refine sat_eqv ?_ ?_); rfl; conv => arg 3; whnf))
        refine sat_ret ⟨?_, ?_⟩ <;> simp [Lg.rdy, Lg.chk]
    · rw [hQ]
      (conv => arg 3; whnf); repeat (first | ((with_reducible refine sat_brT ?_ ?_); rfl; conv => arg 3; whnf) | ((with_reducible refine sat_brF ?_ ?_); rfl; conv => arg 3; whnf) | ((with_reducible refine sat_eqv ?_ ?_); rfl; conv => arg 3; whnf))
      exact sat_ret ⟨rfl, rfl⟩
end Stk
