/- The document's bytes of an image; the same bytes. -/
import Derived.Test.YtcjmkbmeiefojaaE2
namespace Stk
open Go
set_option maxRecDepth 100000
set_option linter.unusedSimpArgs false
set_option linter.unusedVariables false
set_option maxHeartbeats 4000000
def l4 (a b c d : Int) : List Tr := [.int .i64 a, .int .i64 b, .int .i64 c, .int .i64 d]
def fitT : Tr → Bool
  | .int _ n => fit n
  | _ => false
def toB : Tr → Tr
  | .int _ n => u8 n
  | x => x
def cap2 (i k : Nat) : Option Nat := if i = 0 ∧ k = 0 then some 1 else none
structure KSt (L : List Tr) where
  k : Nat
  im : k ≤ 4
  ok : (L.take k).all fitT = true
abbrev mid (x : Im) (i : Nat) (L : List Tr) (k : Nat) : List Tr := x.pre i ++ (L.take k).map toB
theorem l4_get (a b c d : Int) : ∀ k, k < 4 → ∃ n, (l4 a b c d)[k]? = some (.int .i64 n) ∧ (n = a ∨ n = b ∨ n = c ∨ n = d)
  | 0, _ => ⟨a, rfl, by simp⟩
  | 1, _ => ⟨b, rfl, by simp⟩
  | 2, _ => ⟨c, rfl, by simp⟩
  | 3, _ => ⟨d, rfl, by simp⟩
  | n + 4, h => by omega
theorem r_encode (x : Im) (hx : x.OK) : ACalls PP GG F.ref16_Encode [x.b] [] fun r H' => (∃ c, r = .tup [.sl 0 0 [] 0 x.enc.1.length c, ti x.enc.2]) ∧ H' = [.row 1 x.enc.1] := by
  have hma := hx.a
  refine K.ref16_Encode.callsC rfl ?_
  (conv => arg 3; whnf); repeat (first | ((with_reducible refine sat_brT ?_ ?_); rfl; conv => arg 3; whnf) | ((with_reducible refine sat_brF ?_ ?_); rfl; conv => arg 3; whnf) | ((with_reducible refine sat_eqv ?_ ?_); rfl; conv => arg 3; whnf))
  refine sat_br (fun h => ?_) (fun h => ?_)
  · have he : x.enc = ([], 3) := by unfold Im.enc; rw [if_pos (.inl (by have := of_decide_eq_true h; omega))]
    rw [he]
    (conv => arg 3; whnf); repeat (first | ((with_reducible refine sat_brT ?_ ?_); rfl; conv => arg 3; whnf) | ((with_reducible refine sat_brF ?_ ?_); rfl; conv => arg 3; whnf) | ((with_reducible refine sat_eqv ?_ ?_); rfl; conv => arg 3; whnf))
    exact sat_ret ⟨⟨_, rfl⟩, rfl⟩
  have h1 : x.A.length ≤ 4 := by have := of_decide_eq_false h; omega
  (conv => arg 3; whnf); repeat (first | ((with_reducible refine sat_brT ?_ ?_); rfl; conv => arg 3; whnf) | ((with_reducible refine sat_brF ?_ ?_); rfl; conv => arg 3; whnf) | ((with_reducible refine sat_eqv ?_ ?_); rfl; conv => arg 3; whnf))
  refine sat_br (fun h => ?_) (fun h => ?_)
  · have he : x.enc = ([], 3) := by unfold Im.enc; rw [if_pos (.inr (by have := of_decide_eq_true h; omega))]
    rw [he]
    (conv => arg 3; whnf); repeat (first | ((with_reducible refine sat_brT ?_ ?_); rfl; conv => arg 3; whnf) | ((with_reducible refine sat_brF ?_ ?_); rfl; conv => arg 3; whnf) | ((with_reducible refine sat_eqv ?_ ?_); rfl; conv => arg 3; whnf))
    exact sat_ret ⟨⟨_, rfl⟩, rfl⟩
  have h2 : x.B.length ≤ 512 := by have := of_decide_eq_false h; omega
  have hen : x.enc = if x.A.all mfit = false then ([], 26) else if x.B.all ifit = false then ([], 21) else (x.all x.B.length, 0) := by unfold Im.enc; rw [if_neg (by omega)]
  (conv => arg 3; whnf); repeat (first | ((with_reducible refine sat_brT ?_ ?_); rfl; conv => arg 3; whnf) | ((with_reducible refine sat_brF ?_ ?_); rfl; conv => arg 3; whnf) | ((with_reducible refine sat_eqv ?_ ?_); rfl; conv => arg 3; whnf))
  refine sat_rng (show IntKind.wrap .u8 (x.A.length : Int) = x.A.length by rw [IntKind.wrap_u8]; omega) ?_
  (conv => arg 3; whnf); repeat (first | ((with_reducible refine sat_brT ?_ ?_); rfl; conv => arg 3; whnf) | ((with_reducible refine sat_brF ?_ ?_); rfl; conv => arg 3; whnf) | ((with_reducible refine sat_eqv ?_ ?_); rfl; conv => arg 3; whnf))
  refine sat_loopOf mkX_ops (σ := MSt x) (fun s => [(1, pt' 0), (4, .sl 1 0 [] 0 (x.pre s.i).length (capOf s.i)), (5, ti s.i)]) (fun s => [.var x.b, .row 1 (x.pre s.i)]) (fun s => x.A.length - s.i)
    (fun ex fr' H' => (ex = .exit 0 ∧ x.A.all mfit = true ∧ fr' = [(1, pt' 0), (2, .undef), (3, .undef), (4, .sl 1 0 [] 0 (x.pre x.A.length).length (capOf x.A.length))] ∧ H' = [.var x.b, .row 1 (x.pre x.A.length)]) ∨
      (ex = .ret ∧ x.A.all mfit = false ∧ ∃ (y : Tr) (n : Nat) (c : Option Nat) (L1 L2 : List Tr), fr' = [(1, pt' 0), (2, .sl 7 0 [] 0 0 none), (3, ti 26), (4, .sl 5 0 [] 0 n c)] ∧ H' = [.var x.b, .gone, .var (.t y), .gone, .gone, .row 1 L1, .row 1 L2, .row 1 []])) ⟨0, Nat.zero_le _, rfl⟩ ?_ ?_
  · rintro ⟨i, im, ok⟩
    dsimp only
    refine sat_br (fun hi => ?_) (fun hi => ?_)
    · have hi : i < x.A.length := by have := of_decide_eq_true hi; omega
      obtain ⟨a, b, c, d, hy, ia, ib, ic, id⟩ := hx.a.get hi
      have hok : (x.A.take (i + 1)).all mfit = (fit a && (fit b && (fit c && fit d))) := by rw [all_take hy, ok]; rfl
      have hbad : (fit a && (fit b && (fit c && fit d))) = false → x.A.all mfit = false := fun h => all_false hy h
      have he : x.pre (i + 1) = x.pre i ++ [u8 a, u8 b, u8 c, u8 d] := pre_next hy
      have hpl := pre_len hma i (by omega)
      (conv => arg 3; whnf); repeat (first | ((with_reducible refine sat_brT ?_ ?_); rfl; conv => arg 3; whnf) | ((with_reducible refine sat_brF ?_ ?_); rfl; conv => arg 3; whnf) | ((with_reducible refine sat_eqv ?_ ?_); rfl; conv => arg 3; whnf))
      refine sat_idx (mapT a b c d) (by simp) (by simpa using hy) ?_
      (conv => arg 3; whnf); repeat (first | ((with_reducible refine sat_brT ?_ ?_); rfl; conv => arg 3; whnf) | ((with_reducible refine sat_brF ?_ ?_); rfl; conv => arg 3; whnf) | ((with_reducible refine sat_eqv ?_ ?_); rfl; conv => arg 3; whnf))
      have e0 : x.pre i = mid x i (l4 a b c d) 0 := by simp [mid]
      have ec : capOf i = cap2 i 0 := by cases i <;> rfl
      rw [e0, ec]
      refine sat_loopOf mkX_ops (σ := KSt (l4 a b c d)) (fun s => [(1, pt' 0), (4, .sl 1 0 [] 0 (mid x i (l4 a b c d) s.k).length (cap2 i s.k)), (5, ti i), (7, .sl 2 0 [] 0 4 (some 4)), (8, ti s.k)]) (fun s => [.var x.b, .row 1 (mid x i (l4 a b c d) s.k), .row 1 (l4 a b c d)]) (fun s => 4 - s.k)
        (fun ex fr' H' => (ex = .exit 2 ∧ (l4 a b c d).all fitT = true ∧ fr' = [(1, pt' 0), (2, .undef), (3, .undef), (4, .sl 1 0 [] 0 (mid x i (l4 a b c d) 4).length none), (5, ti i)] ∧ H' = [.var x.b, .row 1 (mid x i (l4 a b c d) 4), .row 1 (l4 a b c d)]) ∨
          (ex = .ret ∧ (l4 a b c d).all fitT = false ∧ ∃ k, fr' = [(1, pt' 0), (2, .sl 3 0 [] 0 0 none), (3, ti 26), (4, .sl 1 0 [] 0 (mid x i (l4 a b c d) k).length (cap2 i k)), (5, ti i)] ∧ H' = [.var x.b, .row 1 (mid x i (l4 a b c d) k), .row 1 (l4 a b c d), .row 1 []])) ⟨0, Nat.zero_le _, rfl⟩ ?_ ?_
      · rintro ⟨k, km, kok⟩
        dsimp only
        refine sat_br (fun hk => ?_) (fun hk => ?_)
        · have hk : k < 4 := by have := of_decide_eq_true hk; omega
          obtain ⟨n, hn, hn4⟩ := l4_get a b c d k hk
          have hin : in64 n := by rcases hn4 with rfl | rfl | rfl | rfl <;> assumption
          have hfk : ((l4 a b c d).take (k + 1)).all fitT = fit n := by rw [all_take hn, kok]; rfl
          have hmk : mid x i (l4 a b c d) (k + 1) = mid x i (l4 a b c d) k ++ [u8 n] := by
            show x.pre i ++ ((l4 a b c d).take (k + 1)).map toB = _
            rw [List.take_add_one, hn]
            simp [toB]
          have hml : (mid x i (l4 a b c d) k).length = 1 + 4 * i + k := by
            show (x.pre i ++ ((l4 a b c d).take k).map toB).length = _
            simp [hpl, l4]; omega
          have hbadk : fit n = false → (l4 a b c d).all fitT = false := fun h => all_false hn h
          have hnn : fit n = (decide (0 ≤ n) && decide (n ≤ 255)) := rfl
          (conv => arg 3; whnf); repeat (first | ((with_reducible refine sat_brT ?_ ?_); rfl; conv => arg 3; whnf) | ((with_reducible refine sat_brF ?_ ?_); rfl; conv => arg 3; whnf) | ((with_reducible refine sat_eqv ?_ ?_); rfl; conv => arg 3; whnf))
          refine sat_asrt (by simp; omega) ?_
          (conv => arg 3; whnf); repeat (first | ((with_reducible refine sat_brT ?_ ?_); rfl; conv => arg 3; whnf) | ((with_reducible refine sat_brF ?_ ?_); rfl; conv => arg 3; whnf) | ((with_reducible refine sat_eqv ?_ ?_); rfl; conv => arg 3; whnf))
          refine sat_idx (.int .i64 n) (by simp) (by simpa using hn) ?_
          (conv => arg 3; whnf); repeat (first | ((with_reducible refine sat_brT ?_ ?_); rfl; conv => arg 3; whnf) | ((with_reducible refine sat_brF ?_ ?_); rfl; conv => arg 3; whnf) | ((with_reducible refine sat_eqv ?_ ?_); rfl; conv => arg 3; whnf))
          refine sat_br (fun hlt => ?_) (fun hlt => ?_)
          · have hlt : n < 0 := of_decide_eq_true hlt
            (conv => arg 3; whnf); repeat (first | ((with_reducible refine sat_brT ?_ ?_); rfl; conv => arg 3; whnf) | ((with_reducible refine sat_brF ?_ ?_); rfl; conv => arg 3; whnf) | ((with_reducible refine sat_eqv ?_ ?_); rfl; conv => arg 3; whnf))
            exact sat_ret (.inr ⟨rfl, hbadk (by rw [hnn, decide_eq_false (by omega)]; rfl), _, rfl, rfl⟩)
          have hlt : ¬ n < 0 := of_decide_eq_false hlt
          (conv => arg 3; whnf); repeat (first | ((with_reducible refine sat_brT ?_ ?_); rfl; conv => arg 3; whnf) | ((with_reducible refine sat_brF ?_ ?_); rfl; conv => arg 3; whnf) | ((with_reducible refine sat_eqv ?_ ?_); rfl; conv => arg 3; whnf))
          refine sat_asrt (by simp; omega) ?_
          (conv => arg 3; whnf); repeat (first | ((with_reducible refine sat_brT ?_ ?_); rfl; conv => arg 3; whnf) | ((with_reducible refine sat_brF ?_ ?_); rfl; conv => arg 3; whnf) | ((with_reducible refine sat_eqv ?_ ?_); rfl; conv => arg 3; whnf))
          refine sat_idx (.int .i64 n) (by simp) (by simpa using hn) ?_
          (conv => arg 3; whnf); repeat (first | ((with_reducible refine sat_brT ?_ ?_); rfl; conv => arg 3; whnf) | ((with_reducible refine sat_brF ?_ ?_); rfl; conv => arg 3; whnf) | ((with_reducible refine sat_eqv ?_ ?_); rfl; conv => arg 3; whnf))
          refine sat_br (fun hgt => ?_) (fun hgt => ?_)
          · have hgt : n > 255 := of_decide_eq_true hgt
            (conv => arg 3; whnf); repeat (first | ((with_reducible refine sat_brT ?_ ?_); rfl; conv => arg 3; whnf) | ((with_reducible refine sat_brF ?_ ?_); rfl; conv => arg 3; whnf) | ((with_reducible refine sat_eqv ?_ ?_); rfl; conv => arg 3; whnf))
            exact sat_ret (.inr ⟨rfl, hbadk (by rw [hnn, decide_eq_false (show ¬ n ≤ 255 by omega), Bool.and_false]), _, rfl, rfl⟩)
          have hgt : ¬ n > 255 := of_decide_eq_false hgt
          have hfn : fit n = true := by rw [hnn, decide_eq_true (show 0 ≤ n by omega), decide_eq_true (show n ≤ 255 by omega)]; rfl
          rw [hfn] at hfk
          (conv => arg 3; whnf); repeat (first | ((with_reducible refine sat_brT ?_ ?_); rfl; conv => arg 3; whnf) | ((with_reducible refine sat_brF ?_ ?_); rfl; conv => arg 3; whnf) | ((with_reducible refine sat_eqv ?_ ?_); rfl; conv => arg 3; whnf))
          refine sat_asrt (by simp; omega) ?_
          (conv => arg 3; whnf); repeat (first | ((with_reducible refine sat_brT ?_ ?_); rfl; conv => arg 3; whnf) | ((with_reducible refine sat_brF ?_ ?_); rfl; conv => arg 3; whnf) | ((with_reducible refine sat_eqv ?_ ?_); rfl; conv => arg 3; whnf))
          refine sat_idx (.int .i64 n) (by simp) (by simpa using hn) ?_
          (conv => arg 3; whnf); repeat (first | ((with_reducible refine sat_brT ?_ ?_); rfl; conv => arg 3; whnf) | ((with_reducible refine sat_brF ?_ ?_); rfl; conv => arg 3; whnf) | ((with_reducible refine sat_eqv ?_ ?_); rfl; conv => arg 3; whnf))
          refine sat_rng (fit_rng hfn) ?_
          (conv => arg 3; whnf); repeat (first | ((with_reducible refine sat_brT ?_ ?_); rfl; conv => arg 3; whnf) | ((with_reducible refine sat_brF ?_ ?_); rfl; conv => arg 3; whnf) | ((with_reducible refine sat_eqv ?_ ?_); rfl; conv => arg 3; whnf))
          by_cases h00 : i = 0 ∧ k = 0
          · obtain ⟨rfl, rfl⟩ := h00
            (conv => arg 3; whnf); repeat (first | ((with_reducible refine sat_brT ?_ ?_); rfl; conv => arg 3; whnf) | ((with_reducible refine sat_brF ?_ ?_); rfl; conv => arg 3; whnf) | ((with_reducible refine sat_eqv ?_ ?_); rfl; conv => arg 3; whnf))
            refine sat_asrt (by simp [roomy]; omega) ?_
            (conv => arg 3; whnf); repeat (first | ((with_reducible refine sat_brT ?_ ?_); rfl; conv => arg 3; whnf) | ((with_reducible refine sat_brF ?_ ?_); rfl; conv => arg 3; whnf) | ((with_reducible refine sat_eqv ?_ ?_); rfl; conv => arg 3; whnf))
            refine sat_rng (wrap64 (by omega) (by omega)) ?_
            refine sat_ret ⟨⟨1, hk, hfk⟩, ?_, ?_, by show 4 - 1 < 4 - 0; omega⟩
            · dsimp only; rw [hmk]; rfl
            · dsimp only; rw [hmk]; rfl
          · have hc2 : cap2 i k = none := if_neg h00
            have hc3 : cap2 i (k + 1) = none := if_neg (by omega)
            rw [hc2]
            (conv => arg 3; whnf); repeat (first | ((with_reducible refine sat_brT ?_ ?_); rfl; conv => arg 3; whnf) | ((with_reducible refine sat_brF ?_ ?_); rfl; conv => arg 3; whnf) | ((with_reducible refine sat_eqv ?_ ?_); rfl; conv => arg 3; whnf))
            refine sat_asrt (by simp) ?_
            refine sat_asrt (by simp [roomy]; omega) ?_
            refine sat_brT (Nat.beq_refl _) ?_
            (conv => arg 3; whnf); repeat (first | ((with_reducible refine sat_brT ?_ ?_); rfl; conv => arg 3; whnf) | ((with_reducible refine sat_brF ?_ ?_); rfl; conv => arg 3; whnf) | ((with_reducible refine sat_eqv ?_ ?_); rfl; conv => arg 3; whnf))
            refine sat_rng (wrap64 (by omega) (by omega)) ?_
            refine sat_ret ⟨⟨k + 1, hk, hfk⟩, ?_, ?_, by show 4 - (k + 1) < 4 - k; omega⟩
            · dsimp only; rw [hmk, hc3]; rfl
            · dsimp only; rw [hmk]; rfl
        · have hk : k = 4 := by have := of_decide_eq_false hk; omega
          subst hk
          have hc2 : cap2 i 4 = none := if_neg (by omega)
          rw [hc2]
          (conv => arg 3; whnf); repeat (first | ((with_reducible refine sat_brT ?_ ?_); rfl; conv => arg 3; whnf) | ((with_reducible refine sat_brF ?_ ?_); rfl; conv => arg 3; whnf) | ((with_reducible refine sat_eqv ?_ ?_); rfl; conv => arg 3; whnf))
          exact sat_ret (.inl ⟨rfl, kok, rfl, rfl⟩)
      · have hall : (l4 a b c d).all fitT = (fit a && (fit b && (fit c && fit d))) := by simp [l4, fitT]
        have hm4 : mid x i (l4 a b c d) 4 = x.pre (i + 1) := by rw [he]; rfl
        rintro ex fr' H' (⟨rfl, hm, rfl, rfl⟩ | ⟨rfl, hm, k, rfl, rfl⟩)
        · rw [← hall, hm] at hok
          rw [hm4]
          (conv => arg 3; whnf); repeat (first | ((with_reducible refine sat_brT ?_ ?_); rfl; conv => arg 3; whnf) | ((with_reducible refine sat_brF ?_ ?_); rfl; conv => arg 3; whnf) | ((with_reducible refine sat_eqv ?_ ?_); rfl; conv => arg 3; whnf))
          refine sat_rng (wrap64 (by omega) (by omega)) ?_
          exact sat_ret ⟨⟨i + 1, hi, hok⟩, rfl, rfl, by show x.A.length - (i + 1) < x.A.length - i; omega⟩
        · rw [← hall, hm] at hbad
          (conv => arg 3; whnf); repeat (first | ((with_reducible refine sat_brT ?_ ?_); rfl; conv => arg 3; whnf) | ((with_reducible refine sat_brF ?_ ?_); rfl; conv => arg 3; whnf) | ((with_reducible refine sat_eqv ?_ ?_); rfl; conv => arg 3; whnf))
          exact sat_ret (.inr ⟨rfl, hbad rfl, _, _, _, _, _, rfl, rfl⟩)
    · have hi : i = x.A.length := by have := of_decide_eq_false hi; omega
      subst hi
      rw [List.take_length] at ok
      (conv => arg 3; whnf); repeat (first | ((with_reducible refine sat_brT ?_ ?_); rfl; conv => arg 3; whnf) | ((with_reducible refine sat_brF ?_ ?_); rfl; conv => arg 3; whnf) | ((with_reducible refine sat_eqv ?_ ?_); rfl; conv => arg 3; whnf))
      exact sat_ret (.inl ⟨rfl, ok, rfl, rfl⟩)
  · rintro ex fr' H' (⟨rfl, hm, rfl, rfl⟩ | ⟨rfl, hm, y, n, c, L1, L2, rfl, rfl⟩)
    rotate_left
    · rw [hen, if_pos hm]
      (conv => arg 3; whnf); repeat (first | ((with_reducible refine sat_brT ?_ ?_); rfl; conv => arg 3; whnf) | ((with_reducible refine sat_brF ?_ ?_); rfl; conv => arg 3; whnf) | ((with_reducible refine sat_eqv ?_ ?_); rfl; conv => arg 3; whnf))
      exact sat_ret ⟨⟨_, rfl⟩, rfl⟩
    rw [if_neg (by rw [hm]; simp)] at hen
    have hpl := pre_len hma x.A.length (Nat.le_refl _)
    have h0 : x.pre x.A.length ++ List.take 2 (List.drop 0 [u8 (x.B.length % 256 : Nat), u8 (x.B.length / 256 : Nat)]) = x.all 0 := by unfold Im.all Im.hd; simp
    have h0' : List.take (x.pre x.A.length).length (List.drop 0 (x.pre x.A.length)) ++ List.take 2 (List.drop 0 [u8 (x.B.length % 256 : Nat), u8 (x.B.length / 256 : Nat)]) = x.all 0 := by rw [List.drop_zero, List.take_length]; exact h0
    have hlen : (x.pre x.A.length).length + (List.take 2 (List.drop 0 [u8 (x.B.length % 256 : Nat), u8 (x.B.length / 256 : Nat)])).length = (x.all 0).length := by rw [← h0, List.length_append]
    have hcap : (capOf x.A.length = some 1 ∧ x.A.length = 0) ∨ capOf x.A.length = none := by cases x.A.length with | zero => exact .inl ⟨rfl, rfl⟩ | succ n => exact .inr rfl
    generalize capOf x.A.length = cp at hcap ⊢
    (conv => arg 3; whnf); repeat (first | ((with_reducible refine sat_brT ?_ ?_); rfl; conv => arg 3; whnf) | ((with_reducible refine sat_brF ?_ ?_); rfl; conv => arg 3; whnf) | ((with_reducible refine sat_eqv ?_ ?_); rfl; conv => arg 3; whnf))
    refine sat_asrt rfl ?_
    (conv => arg 3; whnf); repeat (first | ((with_reducible refine sat_brT ?_ ?_); rfl; conv => arg 3; whnf) | ((with_reducible refine sat_brF ?_ ?_); rfl; conv => arg 3; whnf) | ((with_reducible refine sat_eqv ?_ ?_); rfl; conv => arg 3; whnf))
    refine sat_rngw ?_
    rw [show IntKind.wrap .u8 ((x.B.length : Int).tmod 256) = ((x.B.length % 256 : Nat) : Int) by rw [Int.tmod_eq_emod_of_nonneg (by omega), IntKind.wrap_u8]; omega]
    (conv => arg 3; whnf); repeat (first | ((with_reducible refine sat_brT ?_ ?_); rfl; conv => arg 3; whnf) | ((with_reducible refine sat_brF ?_ ?_); rfl; conv => arg 3; whnf) | ((with_reducible refine sat_eqv ?_ ?_); rfl; conv => arg 3; whnf))
    refine sat_asrt rfl ?_
    (conv => arg 3; whnf); repeat (first | ((with_reducible refine sat_brT ?_ ?_); rfl; conv => arg 3; whnf) | ((with_reducible refine sat_brF ?_ ?_); rfl; conv => arg 3; whnf) | ((with_reducible refine sat_eqv ?_ ?_); rfl; conv => arg 3; whnf))
    refine sat_rng (wrap64 (by rw [Int.tdiv_eq_ediv_of_nonneg (by omega)]; omega) (by rw [Int.tdiv_eq_ediv_of_nonneg (by omega)]; omega)) ?_
    (conv => arg 3; whnf); repeat (first | ((with_reducible refine sat_brT ?_ ?_); rfl; conv => arg 3; whnf) | ((with_reducible refine sat_brF ?_ ?_); rfl; conv => arg 3; whnf) | ((with_reducible refine sat_eqv ?_ ?_); rfl; conv => arg 3; whnf))
    refine sat_rngw ?_
    rw [show IntKind.wrap .u8 ((x.B.length : Int).tdiv 256) = ((x.B.length / 256 : Nat) : Int) by rw [Int.tdiv_eq_ediv_of_nonneg (by omega), IntKind.wrap_u8]; omega]
    rcases hcap with ⟨rfl, hA⟩ | rfl
    · (conv => arg 3; whnf); repeat (first | ((with_reducible refine sat_brT ?_ ?_); rfl; conv => arg 3; whnf) | ((with_reducible refine sat_brF ?_ ?_); rfl; conv => arg 3; whnf) | ((with_reducible refine sat_eqv ?_ ?_); rfl; conv => arg 3; whnf))
      refine sat_asrt (by simp [roomy]; omega) ?_
      rw [h0', hlen]
      (conv => arg 3; whnf); repeat (first | ((with_reducible refine sat_brT ?_ ?_); rfl; conv => arg 3; whnf) | ((with_reducible refine sat_brF ?_ ?_); rfl; conv => arg 3; whnf) | ((with_reducible refine sat_eqv ?_ ?_); rfl; conv => arg 3; whnf))
      refine sat_loopOf mkX_ops (σ := CSt x) (fun s => [(1, pt' 0), (4, .sl 1 0 [] 0 (x.all s.i).length none), (9, ti s.i)]) (fun s => [.var x.b, .row 1 (x.all s.i)]) (fun s => x.B.length - s.i)
        (fun ex fr' H' => (ex = .exit 4 ∧ x.B.all ifit = true ∧ fr' = [(2, .undef), (3, .undef), (4, .sl 1 0 [] 0 (x.all x.B.length).length none)] ∧ H' = [.var x.b, .row 1 (x.all x.B.length)]) ∨
          (ex = .ret ∧ x.B.all ifit = false ∧ ∃ i, fr' = [(2, .sl 3 0 [] 0 0 none), (3, ti 21), (4, .sl 1 0 [] 0 (x.all i).length none)] ∧ H' = [.var x.b, .row 1 (x.all i), .row 1 [], .row 1 []])) ⟨0, Nat.zero_le _, rfl⟩ ?_ ?_
      · rintro ⟨i, im, ok⟩
        dsimp only
        refine sat_br (fun hi => ?_) (fun hi => ?_)
        · have hi : i < x.B.length := by have := of_decide_eq_true hi; omega
          obtain ⟨o, d, s, f, m, hy, hins⟩ := hx.b.get hi
          have he : x.all (i + 1) = x.all i ++ eb o d s f m := all_next hy
          have hal := all_len hma hx.b i (by omega)
          (conv => arg 3; whnf); repeat (first | ((with_reducible refine sat_brT ?_ ?_); rfl; conv => arg 3; whnf) | ((with_reducible refine sat_brF ?_ ?_); rfl; conv => arg 3; whnf) | ((with_reducible refine sat_eqv ?_ ?_); rfl; conv => arg 3; whnf))
          refine sat_idx (insT o d s f m) (by simp) (by simpa using hy) ?_
          (conv => arg 3; whnf); repeat (first | ((with_reducible refine sat_brT ?_ ?_); rfl; conv => arg 3; whnf) | ((with_reducible refine sat_brF ?_ ?_); rfl; conv => arg 3; whnf) | ((with_reducible refine sat_eqv ?_ ?_); rfl; conv => arg 3; whnf))
          refine sat_call (r_ins o d s f m hins) ?_
          rintro r H' ⟨⟨c, rfl⟩, rfl⟩
          by_cases hq : d ≤ 15 ∧ s ≤ 15
          · have hok : (x.B.take (i + 1)).all ifit = true := by rw [all_take hy, ok]; exact decide_eq_true hq
            rw [show insR o d s f m = (eb o d s f m, 0) by unfold insR; rw [if_pos hq]]
            (conv => arg 3; whnf); repeat (first | ((with_reducible refine sat_brT ?_ ?_); rfl; conv => arg 3; whnf) | ((with_reducible refine sat_brF ?_ ?_); rfl; conv => arg 3; whnf) | ((with_reducible refine sat_eqv ?_ ?_); rfl; conv => arg 3; whnf))
            refine sat_asrt (by simp) ?_
            refine sat_asrt (by simp [roomy, eb]; omega) ?_
            refine sat_brT (Nat.beq_refl _) ?_
            (conv => arg 3; whnf); repeat (first | ((with_reducible refine sat_brT ?_ ?_); rfl; conv => arg 3; whnf) | ((with_reducible refine sat_brF ?_ ?_); rfl; conv => arg 3; whnf) | ((with_reducible refine sat_eqv ?_ ?_); rfl; conv => arg 3; whnf))
            refine sat_rng (wrap64 (by omega) (by omega)) ?_
            refine sat_ret ⟨⟨i + 1, hi, hok⟩, ?_, ?_, by show x.B.length - (i + 1) < x.B.length - i; omega⟩
            · dsimp only; rw [he]; rfl
            · dsimp only; rw [he]; rfl
          · have hbad : x.B.all ifit = false := all_false hy (decide_eq_false hq)
            rw [show insR o d s f m = ([], 21) by unfold insR; rw [if_neg hq]]
            (conv => arg 3; whnf); repeat (first | ((with_reducible refine sat_brT ?_ ?_); rfl; conv => arg 3; whnf) | ((with_reducible refine sat_brF ?_ ?_); rfl; conv => arg 3; whnf) | ((with_reducible refine sat_eqv ?_ ?_); rfl; conv => arg 3; whnf))
            exact sat_ret (.inr ⟨rfl, hbad, _, rfl, rfl⟩)
        · have hi : i = x.B.length := by have := of_decide_eq_false hi; omega
          subst hi
          rw [List.take_length] at ok
          (conv => arg 3; whnf); repeat (first | ((with_reducible refine sat_brT ?_ ?_); rfl; conv => arg 3; whnf) | ((with_reducible refine sat_brF ?_ ?_); rfl; conv => arg 3; whnf) | ((with_reducible refine sat_eqv ?_ ?_); rfl; conv => arg 3; whnf))
          exact sat_ret (.inl ⟨rfl, ok, rfl, rfl⟩)
      · rintro ex fr' H' (⟨rfl, hm, rfl, rfl⟩ | ⟨rfl, hm, i, rfl, rfl⟩)
        · rw [hen, if_neg (by rw [hm]; simp)]
          (conv => arg 3; whnf); repeat (first | ((with_reducible refine sat_brT ?_ ?_); rfl; conv => arg 3; whnf) | ((with_reducible refine sat_brF ?_ ?_); rfl; conv => arg 3; whnf) | ((with_reducible refine sat_eqv ?_ ?_); rfl; conv => arg 3; whnf))
          exact sat_ret ⟨⟨_, rfl⟩, rfl⟩
        · rw [hen, if_pos hm]
          (conv => arg 3; whnf); repeat (first | ((with_reducible refine sat_brT ?_ ?_); rfl; conv => arg 3; whnf) | ((with_reducible refine sat_brF ?_ ?_); rfl; conv => arg 3; whnf) | ((with_reducible refine sat_eqv ?_ ?_); rfl; conv => arg 3; whnf))
          exact sat_ret ⟨⟨_, rfl⟩, rfl⟩
    · (conv => arg 3; whnf); repeat (first | ((with_reducible refine sat_brT ?_ ?_); rfl; conv => arg 3; whnf) | ((with_reducible refine sat_brF ?_ ?_); rfl; conv => arg 3; whnf) | ((with_reducible refine sat_eqv ?_ ?_); rfl; conv => arg 3; whnf))
      refine sat_asrt (by simp) ?_
      refine sat_asrt (by simp [roomy]; omega) ?_
      refine sat_brT (Nat.beq_refl _) ?_
      rw [h0]
      (conv => arg 3; whnf); repeat (first | ((with_reducible refine sat_brT ?_ ?_); rfl; conv => arg 3; whnf) | ((with_reducible refine sat_brF ?_ ?_); rfl; conv => arg 3; whnf) | ((with_reducible refine sat_eqv ?_ ?_); rfl; conv => arg 3; whnf))
      refine sat_loopOf mkX_ops (σ := CSt x) (fun s => [(1, pt' 0), (4, .sl 1 0 [] 0 (x.all s.i).length none), (9, ti s.i)]) (fun s => [.var x.b, .row 1 (x.all s.i)]) (fun s => x.B.length - s.i)
        (fun ex fr' H' => (ex = .exit 4 ∧ x.B.all ifit = true ∧ fr' = [(2, .undef), (3, .undef), (4, .sl 1 0 [] 0 (x.all x.B.length).length none)] ∧ H' = [.var x.b, .row 1 (x.all x.B.length)]) ∨
          (ex = .ret ∧ x.B.all ifit = false ∧ ∃ i, fr' = [(2, .sl 3 0 [] 0 0 none), (3, ti 21), (4, .sl 1 0 [] 0 (x.all i).length none)] ∧ H' = [.var x.b, .row 1 (x.all i), .row 1 [], .row 1 []])) ⟨0, Nat.zero_le _, rfl⟩ ?_ ?_
      · rintro ⟨i, im, ok⟩
        dsimp only
        refine sat_br (fun hi => ?_) (fun hi => ?_)
        · have hi : i < x.B.length := by have := of_decide_eq_true hi; omega
          obtain ⟨o, d, s, f, m, hy, hins⟩ := hx.b.get hi
          have he : x.all (i + 1) = x.all i ++ eb o d s f m := all_next hy
          have hal := all_len hma hx.b i (by omega)
          (conv => arg 3; whnf); repeat (first | ((with_reducible refine sat_brT ?_ ?_); rfl; conv => arg 3; whnf) | ((with_reducible refine sat_brF ?_ ?_); rfl; conv => arg 3; whnf) | ((with_reducible refine sat_eqv ?_ ?_); rfl; conv => arg 3; whnf))
          refine sat_idx (insT o d s f m) (by simp) (by simpa using hy) ?_
          (conv => arg 3; whnf); repeat (first | ((with_reducible refine sat_brT ?_ ?_); rfl; conv => arg 3; whnf) | ((with_reducible refine sat_brF ?_ ?_); rfl; conv => arg 3; whnf) | ((with_reducible refine sat_eqv ?_ ?_); rfl; conv => arg 3; whnf))
          refine sat_call (r_ins o d s f m hins) ?_
          rintro r H' ⟨⟨c, rfl⟩, rfl⟩
          by_cases hq : d ≤ 15 ∧ s ≤ 15
          · have hok : (x.B.take (i + 1)).all ifit = true := by rw [all_take hy, ok]; exact decide_eq_true hq
            rw [show insR o d s f m = (eb o d s f m, 0) by unfold insR; rw [if_pos hq]]
            (conv => arg 3; whnf); repeat (first | ((with_reducible refine sat_brT ?_ ?_); rfl; conv => arg 3; whnf) | ((with_reducible refine sat_brF ?_ ?_); rfl; conv => arg 3; whnf) | ((with_reducible refine sat_eqv ?_ ?_); rfl; conv => arg 3; whnf))
            refine sat_asrt (by simp) ?_
            refine sat_asrt (by simp [roomy, eb]; omega) ?_
            refine sat_brT (Nat.beq_refl _) ?_
            (conv => arg 3; whnf); repeat (first | ((with_reducible refine sat_brT ?_ ?_); rfl; conv => arg 3; whnf) | ((with_reducible refine sat_brF ?_ ?_); rfl; conv => arg 3; whnf) | ((with_reducible refine sat_eqv ?_ ?_); rfl; conv => arg 3; whnf))
            refine sat_rng (wrap64 (by omega) (by omega)) ?_
            refine sat_ret ⟨⟨i + 1, hi, hok⟩, ?_, ?_, by show x.B.length - (i + 1) < x.B.length - i; omega⟩
            · dsimp only; rw [he]; rfl
            · dsimp only; rw [he]; rfl
          · have hbad : x.B.all ifit = false := all_false hy (decide_eq_false hq)
            rw [show insR o d s f m = ([], 21) by unfold insR; rw [if_neg hq]]
            (conv => arg 3; whnf); repeat (first | ((with_reducible refine sat_brT ?_ ?_); rfl; conv => arg 3; whnf) | ((with_reducible refine sat_brF ?_ ?_); rfl; conv => arg 3; whnf) | ((with_reducible refine sat_eqv ?_ ?_); rfl; conv => arg 3; whnf))
            exact sat_ret (.inr ⟨rfl, hbad, _, rfl, rfl⟩)
        · have hi : i = x.B.length := by have := of_decide_eq_false hi; omega
          subst hi
          rw [List.take_length] at ok
          (conv => arg 3; whnf); repeat (first | ((with_reducible refine sat_brT ?_ ?_); rfl; conv => arg 3; whnf) | ((with_reducible refine sat_brF ?_ ?_); rfl; conv => arg 3; whnf) | ((with_reducible refine sat_eqv ?_ ?_); rfl; conv => arg 3; whnf))
          exact sat_ret (.inl ⟨rfl, ok, rfl, rfl⟩)
      · rintro ex fr' H' (⟨rfl, hm, rfl, rfl⟩ | ⟨rfl, hm, i, rfl, rfl⟩)
        · rw [hen, if_neg (by rw [hm]; simp)]
          (conv => arg 3; whnf); repeat (first | ((with_reducible refine sat_brT ?_ ?_); rfl; conv => arg 3; whnf) | ((with_reducible refine sat_brF ?_ ?_); rfl; conv => arg 3; whnf) | ((with_reducible refine sat_eqv ?_ ?_); rfl; conv => arg 3; whnf))
          exact sat_ret ⟨⟨_, rfl⟩, rfl⟩
        · rw [hen, if_pos hm]
          (conv => arg 3; whnf); repeat (first | ((with_reducible refine sat_brT ?_ ?_); rfl; conv => arg 3; whnf) | ((with_reducible refine sat_brF ?_ ?_); rfl; conv => arg 3; whnf) | ((with_reducible refine sat_eqv ?_ ?_); rfl; conv => arg 3; whnf))
          exact sat_ret ⟨⟨_, rfl⟩, rfl⟩
end Stk
