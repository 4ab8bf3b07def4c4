/- Texts and digests, by the program. -/
import Derived.Test.YtidggdjonahmkaaDoorT6
namespace Stk
open Go
set_option maxRecDepth 100000
set_option linter.unusedSimpArgs false
set_option linter.unusedVariables false
set_option maxHeartbeats 8000000
abbrev tb (b : Bool) : AV := .t (.bool b)
/-- A character of a text. -/
def cv (s : ByteArray) (i : Nat) : Int := ((s.data.toList.getD i 0).toNat : Int)
theorem cv_b (s : ByteArray) (i : Nat) : 0 ≤ cv s i ∧ cv s i ≤ 255 := by
  unfold cv
  have := (s.data.toList.getD i 0).toNat_lt
  omega
/-- A digit's number. -/
def dg (c : Int) : Int := if 48 ≤ c ∧ c ≤ 57 then c - 48 else if 97 ≤ c ∧ c ≤ 102 then c - 87 else -1
theorem dg_le (c : Int) : -1 ≤ dg c ∧ dg c ≤ 15 := by unfold dg; split; omega; split <;> omega
def pv (s : ByteArray) (i : Nat) : Int := 16 * dg (cv s (2 * i)) + dg (cv s (2 * i + 1))
def pl (s : ByteArray) (i : Nat) : List Tr := (List.range i).map (fun j => u8 (pv s j)) ++ List.replicate (32 - i) (u8 0)
def okd (s : ByteArray) (i : Nat) : Bool := decide (0 ≤ dg (cv s (2 * i))) && decide (0 ≤ dg (cv s (2 * i + 1)))
def good (s : ByteArray) : Bool := decide (s.size = 64) && (List.range 32).all (okd s)
def parse (s : ByteArray) : List Tr × Int := if good s = true then (pl s 32, 0) else (List.replicate 32 (u8 0), 5)
theorem wrap8 {n : Int} (h1 : 0 ≤ n) (h2 : n ≤ 255) : IntKind.wrap .u8 n = n := by rw [IntKind.wrap_u8]; omega
theorem k_digit (c : Int) (hc : 0 ≤ c ∧ c ≤ 255) : ACalls PP GG F.sha_digit [.t (.int .u8 c)] [] fun r H' => r = .tup [.t (.int .u8 (if 0 ≤ dg c then dg c else 0)), tb (decide (0 ≤ dg c))] ∧ H' = [] := by
  refine K.sha_digit.callsC rfl ?_
  by_cases h1 : 48 ≤ c ∧ c ≤ 57
  · rw [show dg c = c - 48 by unfold dg; rw [if_pos h1], if_pos (by omega), decide_eq_true (show 0 ≤ c - 48 by omega)]
    (conv => arg 3; whnf); repeat (first | ((with_reducible refine sat_brT ?_ ?_); rfl; conv => arg 3; whnf) | ((with_reducible refine sat_brF ?_ ?_); rfl; conv => arg 3; whnf) | ((with_reducible refine sat_eqv ?_ ?_); rfl; conv => arg 3; whnf))
    repeat (first | ((with_reducible refine sat_rng ?_ ?_); (exact wrap8 (by omega) (by omega)); (conv => arg 3; whnf); repeat (first | ((with_reducible refine sat_brT ?_ ?_); rfl; conv => arg 3; whnf) | ((with_reducible refine sat_brF ?_ ?_); rfl; conv => arg 3; whnf) | ((with_reducible refine sat_eqv ?_ ?_); rfl; conv => arg 3; whnf))) | ((with_reducible refine sat_brT ?_ ?_); (exact decide_eq_true (by omega)); (conv => arg 3; whnf); repeat (first | ((with_reducible refine sat_brT ?_ ?_); rfl; conv => arg 3; whnf) | ((with_reducible refine sat_brF ?_ ?_); rfl; conv => arg 3; whnf) | ((with_reducible refine sat_eqv ?_ ?_); rfl; conv => arg 3; whnf))) | ((with_reducible refine sat_brF ?_ ?_); (exact decide_eq_false (by omega)); (conv => arg 3; whnf); repeat (first | ((with_reducible refine sat_brT ?_ ?_); rfl; conv => arg 3; whnf) | ((with_reducible refine sat_brF ?_ ?_); rfl; conv => arg 3; whnf) | ((with_reducible refine sat_eqv ?_ ?_); rfl; conv => arg 3; whnf))))
    exact sat_ret ⟨rfl, rfl⟩
  · by_cases h2 : 97 ≤ c ∧ c ≤ 102
    · rw [show dg c = c - 97 + 10 by unfold dg; rw [if_neg h1, if_pos h2]; omega, if_pos (by omega), decide_eq_true (show 0 ≤ c - 97 + 10 by omega)]
      by_cases h3 : 48 ≤ c
      all_goals first | (exfalso; omega) | skip
      all_goals
        (conv => arg 3; whnf); repeat (first | ((with_reducible refine sat_brT ?_ ?_); rfl; conv => arg 3; whnf) | ((with_reducible refine sat_brF ?_ ?_); rfl; conv => arg 3; whnf) | ((with_reducible refine sat_eqv ?_ ?_); rfl; conv => arg 3; whnf))
        repeat (first | ((with_reducible refine sat_rng ?_ ?_); (exact wrap8 (by omega) (by omega)); (conv => arg 3; whnf); repeat (first | ((with_reducible refine sat_brT ?_ ?_); rfl; conv => arg 3; whnf) | ((with_reducible refine sat_brF ?_ ?_); rfl; conv => arg 3; whnf) | ((with_reducible refine sat_eqv ?_ ?_); rfl; conv => arg 3; whnf))) | ((with_reducible refine sat_brT ?_ ?_); (exact decide_eq_true (by omega)); (conv => arg 3; whnf); repeat (first | ((with_reducible refine sat_brT ?_ ?_); rfl; conv => arg 3; whnf) | ((with_reducible refine sat_brF ?_ ?_); rfl; conv => arg 3; whnf) | ((with_reducible refine sat_eqv ?_ ?_); rfl; conv => arg 3; whnf))) | ((with_reducible refine sat_brF ?_ ?_); (exact decide_eq_false (by omega)); (conv => arg 3; whnf); repeat (first | ((with_reducible refine sat_brT ?_ ?_); rfl; conv => arg 3; whnf) | ((with_reducible refine sat_brF ?_ ?_); rfl; conv => arg 3; whnf) | ((with_reducible refine sat_eqv ?_ ?_); rfl; conv => arg 3; whnf))))
        exact sat_ret ⟨rfl, rfl⟩
    · rw [show dg c = -1 by unfold dg; rw [if_neg h1, if_neg h2], if_neg (by omega), decide_eq_false (show ¬ (0 : Int) ≤ -1 by omega)]
      by_cases h3 : 48 ≤ c <;> by_cases h4 : c ≤ 57 <;> by_cases h5 : 97 ≤ c
      all_goals first | (exfalso; omega) | skip
      all_goals
        (conv => arg 3; whnf); repeat (first | ((with_reducible refine sat_brT ?_ ?_); rfl; conv => arg 3; whnf) | ((with_reducible refine sat_brF ?_ ?_); rfl; conv => arg 3; whnf) | ((with_reducible refine sat_eqv ?_ ?_); rfl; conv => arg 3; whnf))
        repeat (first | ((with_reducible refine sat_rng ?_ ?_); (exact wrap8 (by omega) (by omega)); (conv => arg 3; whnf); repeat (first | ((with_reducible refine sat_brT ?_ ?_); rfl; conv => arg 3; whnf) | ((with_reducible refine sat_brF ?_ ?_); rfl; conv => arg 3; whnf) | ((with_reducible refine sat_eqv ?_ ?_); rfl; conv => arg 3; whnf))) | ((with_reducible refine sat_brT ?_ ?_); (exact decide_eq_true (by omega)); (conv => arg 3; whnf); repeat (first | ((with_reducible refine sat_brT ?_ ?_); rfl; conv => arg 3; whnf) | ((with_reducible refine sat_brF ?_ ?_); rfl; conv => arg 3; whnf) | ((with_reducible refine sat_eqv ?_ ?_); rfl; conv => arg 3; whnf))) | ((with_reducible refine sat_brF ?_ ?_); (exact decide_eq_false (by omega)); (conv => arg 3; whnf); repeat (first | ((with_reducible refine sat_brT ?_ ?_); rfl; conv => arg 3; whnf) | ((with_reducible refine sat_brF ?_ ?_); rfl; conv => arg 3; whnf) | ((with_reducible refine sat_eqv ?_ ?_); rfl; conv => arg 3; whnf))))
        exact sat_ret ⟨rfl, rfl⟩
structure PSt (s : ByteArray) where
  i : Nat
  im : i ≤ 32
  ok : (List.range i).all (okd s) = true
theorem pl_len (s : ByteArray) {i : Nat} (hi : i ≤ 32) : (pl s i).length = 32 := by unfold pl; simp; omega
theorem pl_get (s : ByteArray) {i : Nat} (hi : i < 32) : (pl s i)[i]? = some (u8 0) := by
  unfold pl
  rw [List.getElem?_append_right (by simp), List.length_map, List.length_range, Nat.sub_self, List.getElem?_replicate, if_pos (by omega)]
theorem pl_set (s : ByteArray) {i : Nat} (hi : i < 32) : (pl s i).set i (u8 (pv s i)) = pl s (i + 1) := by
  unfold pl
  rw [List.set_append_right _ _ (by simp)]
  rw [List.range_succ, List.map_append, List.append_assoc]
  congr 1
  rw [show 32 - i = (32 - (i + 1)) + 1 by omega, List.replicate_succ]
  simp
theorem k_parse (s : ByteArray) : ACalls PP GG F.sha_Parse [.t (.str s)] [] fun r H' => r = .tup [.t (.arr 32 (parse s).1), ti (parse s).2] ∧ H' = [] := by
  refine K.sha_Parse.callsC rfl ?_
  (conv => arg 3; whnf); repeat (first | ((with_reducible refine sat_brT ?_ ?_); rfl; conv => arg 3; whnf) | ((with_reducible refine sat_brF ?_ ?_); rfl; conv => arg 3; whnf) | ((with_reducible refine sat_eqv ?_ ?_); rfl; conv => arg 3; whnf))
  refine sat_br (fun h => ?_) (fun h => ?_)
  · have h : ¬ s.size = 64 := by have := bne_iff_ne.1 h; omega
    rw [show parse s = (List.replicate 32 (u8 0), 5) by unfold parse good; rw [decide_eq_false h]; rfl]
    (conv => arg 3; whnf); repeat (first | ((with_reducible refine sat_brT ?_ ?_); rfl; conv => arg 3; whnf) | ((with_reducible refine sat_brF ?_ ?_); rfl; conv => arg 3; whnf) | ((with_reducible refine sat_eqv ?_ ?_); rfl; conv => arg 3; whnf))
    exact sat_ret ⟨rfl, rfl⟩
  have h : s.size = 64 := by have : (s.size : Int) = 64 := by simpa using h
                             omega
  (conv => arg 3; whnf); repeat (first | ((with_reducible refine sat_brT ?_ ?_); rfl; conv => arg 3; whnf) | ((with_reducible refine sat_brF ?_ ?_); rfl; conv => arg 3; whnf) | ((with_reducible refine sat_eqv ?_ ?_); rfl; conv => arg 3; whnf))
  refine sat_loopOf mkX_ops (σ := PSt s) (fun x => [(0, .t (.str s)), (2, pt 0), (4, pt 1), (14, ti x.i)]) (fun x => [.var (.t z32), .var (.t (.arr 32 (pl s x.i)))]) (fun x => 32 - x.i)
    (fun ex fr' H' => (ex = .exit 0 ∧ fr' = [(2, pt 0), (3, .undef), (4, pt 1)] ∧ parse s = (pl s 32, 0) ∧ H' = [.var (.t z32), .var (.t (.arr 32 (pl s 32)))]) ∨
      (ex = .ret ∧ fr' = [(2, pt 0), (3, ti 5), (4, pt 1)] ∧ parse s = (List.replicate 32 (u8 0), 5) ∧ ∃ xs, H' = [.var (.t z32), .var (.t (.arr 32 xs))])) ⟨0, Nat.zero_le _, rfl⟩ ?_ ?_
  · rintro ⟨i, im, ok⟩
    dsimp only
    refine sat_br (fun hi => ?_) (fun hi => ?_)
    · have hi : i < 32 := by have := of_decide_eq_true hi; omega
      (conv => arg 3; whnf); repeat (first | ((with_reducible refine sat_brT ?_ ?_); rfl; conv => arg 3; whnf) | ((with_reducible refine sat_brF ?_ ?_); rfl; conv => arg 3; whnf) | ((with_reducible refine sat_eqv ?_ ?_); rfl; conv => arg 3; whnf))
      refine sat_rng (wrap64 (by omega) (by omega)) ?_
      (conv => arg 3; whnf); repeat (first | ((with_reducible refine sat_brT ?_ ?_); rfl; conv => arg 3; whnf) | ((with_reducible refine sat_brF ?_ ?_); rfl; conv => arg 3; whnf) | ((with_reducible refine sat_eqv ?_ ?_); rfl; conv => arg 3; whnf))
      refine sat_asrt (decide_eq_true (by omega)) ?_
      (conv => arg 3; whnf); repeat (first | ((with_reducible refine sat_brT ?_ ?_); rfl; conv => arg 3; whnf) | ((with_reducible refine sat_brF ?_ ?_); rfl; conv => arg 3; whnf) | ((with_reducible refine sat_eqv ?_ ?_); rfl; conv => arg 3; whnf))
      have e1 : ((s.data.toList.getD (2 * (i : Int)).toNat 0).toNat : Int) = cv s (2 * i) := by unfold cv; rw [show (2 * (i : Int)).toNat = 2 * i by omega]
      have e2 : ((s.data.toList.getD (2 * (i : Int) + 1).toNat 0).toNat : Int) = cv s (2 * i + 1) := by unfold cv; rw [show (2 * (i : Int) + 1).toNat = 2 * i + 1 by omega]
      rw [e1]
      refine sat_call (k_digit _ (cv_b s _)) ?_
      rintro r H' ⟨rfl, rfl⟩
      (conv => arg 3; whnf); repeat (first | ((with_reducible refine sat_brT ?_ ?_); rfl; conv => arg 3; whnf) | ((with_reducible refine sat_brF ?_ ?_); rfl; conv => arg 3; whnf) | ((with_reducible refine sat_eqv ?_ ?_); rfl; conv => arg 3; whnf))
      refine sat_rng (wrap64 (by omega) (by omega)) ?_
      (conv => arg 3; whnf); repeat (first | ((with_reducible refine sat_brT ?_ ?_); rfl; conv => arg 3; whnf) | ((with_reducible refine sat_brF ?_ ?_); rfl; conv => arg 3; whnf) | ((with_reducible refine sat_eqv ?_ ?_); rfl; conv => arg 3; whnf))
      refine sat_rng (wrap64 (by omega) (by omega)) ?_
      (conv => arg 3; whnf); repeat (first | ((with_reducible refine sat_brT ?_ ?_); rfl; conv => arg 3; whnf) | ((with_reducible refine sat_brF ?_ ?_); rfl; conv => arg 3; whnf) | ((with_reducible refine sat_eqv ?_ ?_); rfl; conv => arg 3; whnf))
      refine sat_asrt (decide_eq_true (by omega)) ?_
      (conv => arg 3; whnf); repeat (first | ((with_reducible refine sat_brT ?_ ?_); rfl; conv => arg 3; whnf) | ((with_reducible refine sat_brF ?_ ?_); rfl; conv => arg 3; whnf) | ((with_reducible refine sat_eqv ?_ ?_); rfl; conv => arg 3; whnf))
      rw [e2]
      refine sat_call (k_digit _ (cv_b s _)) ?_
      rintro r H' ⟨rfl, rfl⟩
      have hall : (List.range (i + 1)).all (okd s) = ((List.range i).all (okd s) && okd s i) := by rw [List.range_succ, List.all_append]; simp
      have hpv : pv s i = 16 * dg (cv s (2 * i)) + dg (cv s (2 * i + 1)) := rfl
      have hok : okd s i = (decide (0 ≤ dg (cv s (2 * i))) && decide (0 ≤ dg (cv s (2 * i + 1)))) := rfl
      have g1 := dg_le (cv s (2 * i))
      have g2 := dg_le (cv s (2 * i + 1))
      generalize dg (cv s (2 * i)) = x at hpv hok g1 ⊢
      generalize dg (cv s (2 * i + 1)) = y at hpv hok g2 ⊢
      have hbad : okd s i = false → parse s = (List.replicate 32 (u8 0), 5) := fun hh => by
        unfold parse
        rw [if_neg]
        intro hg
        unfold good at hg
        rw [Bool.and_eq_true] at hg
        have := List.all_eq_true.1 hg.2 i (List.mem_range.2 hi)
        rw [hh] at this; cases this
      by_cases hx : 0 ≤ x
      · by_cases hy : 0 ≤ y
        · rw [if_pos hx, if_pos hy, decide_eq_true hx, decide_eq_true hy]
          rw [decide_eq_true hx, decide_eq_true hy] at hok
          have p4 : (2 : Int) ^ min (Int.toNat 4) (IntKind.bits .u8) = 2 ^ 4 := by decide
          have hor : bitsV .or .u8 (x * 2 ^ 4) y = pv s i := by
            rw [or_comm', or_shl .u8 (by omega) hx (by show _ < (2 : Int) ^ 8; omega) (by rw [IntKind.wrap_u8]; omega), hpv]; omega
          (conv => arg 3; whnf); repeat (first | ((with_reducible refine sat_brT ?_ ?_); rfl; conv => arg 3; whnf) | ((with_reducible refine sat_brF ?_ ?_); rfl; conv => arg 3; whnf) | ((with_reducible refine sat_eqv ?_ ?_); rfl; conv => arg 3; whnf))
          refine sat_asrt rfl ?_
          rw [p4]
          refine sat_rng (wrap8 (by omega) (by omega)) ?_
          (conv => arg 3; whnf); repeat (first | ((with_reducible refine sat_brT ?_ ?_); rfl; conv => arg 3; whnf) | ((with_reducible refine sat_brF ?_ ?_); rfl; conv => arg 3; whnf) | ((with_reducible refine sat_eqv ?_ ?_); rfl; conv => arg 3; whnf))
          refine sat_asrt (decide_eq_true (by omega)) ?_
          (conv => arg 3; whnf); repeat (first | ((with_reducible refine sat_brT ?_ ?_); rfl; conv => arg 3; whnf) | ((with_reducible refine sat_brF ?_ ?_); rfl; conv => arg 3; whnf) | ((with_reducible refine sat_eqv ?_ ?_); rfl; conv => arg 3; whnf))
          repeat (first | ((with_reducible refine sat_rng ?_ ?_); (exact wrap64 (by omega) (by omega)); (conv => arg 3; whnf); repeat (first | ((with_reducible refine sat_brT ?_ ?_); rfl; conv => arg 3; whnf) | ((with_reducible refine sat_brF ?_ ?_); rfl; conv => arg 3; whnf) | ((with_reducible refine sat_eqv ?_ ?_); rfl; conv => arg 3; whnf))) | ((with_reducible refine sat_asrt ?_ ?_); (first | rfl | (exact decide_eq_true (by omega)) | (rw [pl_len s (by omega)]; exact decide_eq_true (by omega))); (conv => arg 3; whnf); repeat (first | ((with_reducible refine sat_brT ?_ ?_); rfl; conv => arg 3; whnf) | ((with_reducible refine sat_brF ?_ ?_); rfl; conv => arg 3; whnf) | ((with_reducible refine sat_eqv ?_ ?_); rfl; conv => arg 3; whnf))))
          rw [hor, Int.toNat_natCast, pl_set s hi]
          exact sat_ret ⟨⟨i + 1, hi, by rw [hall, ok, hok]; rfl⟩, rfl, rfl, by show 32 - (i + 1) < 32 - i; omega⟩
        · rw [if_pos hx, if_neg hy, decide_eq_true hx, decide_eq_false hy]
          rw [decide_eq_true hx, decide_eq_false hy] at hok
          (conv => arg 3; whnf); repeat (first | ((with_reducible refine sat_brT ?_ ?_); rfl; conv => arg 3; whnf) | ((with_reducible refine sat_brF ?_ ?_); rfl; conv => arg 3; whnf) | ((with_reducible refine sat_eqv ?_ ?_); rfl; conv => arg 3; whnf))
          exact sat_ret (.inr ⟨rfl, rfl, hbad hok, _, rfl⟩)
      · rw [if_neg hx, decide_eq_false hx]
        rw [decide_eq_false hx, Bool.false_and] at hok
        (conv => arg 3; whnf); repeat (first | ((with_reducible refine sat_brT ?_ ?_); rfl; conv => arg 3; whnf) | ((with_reducible refine sat_brF ?_ ?_); rfl; conv => arg 3; whnf) | ((with_reducible refine sat_eqv ?_ ?_); rfl; conv => arg 3; whnf))
        exact sat_ret (.inr ⟨rfl, rfl, hbad hok, _, rfl⟩)
    · have hi : i = 32 := by have := of_decide_eq_false hi; omega
      subst hi
      (conv => arg 3; whnf); repeat (first | ((with_reducible refine sat_brT ?_ ?_); rfl; conv => arg 3; whnf) | ((with_reducible refine sat_brF ?_ ?_); rfl; conv => arg 3; whnf) | ((with_reducible refine sat_eqv ?_ ?_); rfl; conv => arg 3; whnf))
      exact sat_ret (.inl ⟨rfl, rfl, by unfold parse good; rw [decide_eq_true h, ok]; rfl, rfl⟩)
  · rintro ex fr' H' (⟨rfl, rfl, hp, rfl⟩ | ⟨rfl, rfl, hp, xs, rfl⟩)
    · rw [hp]
      (conv => arg 3; whnf); repeat (first | ((with_reducible refine sat_brT ?_ ?_); rfl; conv => arg 3; whnf) | ((with_reducible refine sat_brF ?_ ?_); rfl; conv => arg 3; whnf) | ((with_reducible refine sat_eqv ?_ ?_); rfl; conv => arg 3; whnf))
      exact sat_ret ⟨rfl, rfl⟩
    · rw [hp]
      (conv => arg 3; whnf); repeat (first | ((with_reducible refine sat_brT ?_ ?_); rfl; conv => arg 3; whnf) | ((with_reducible refine sat_brF ?_ ?_); rfl; conv => arg 3; whnf) | ((with_reducible refine sat_eqv ?_ ?_); rfl; conv => arg 3; whnf))
      exact sat_ret ⟨rfl, rfl⟩
end Stk
