/- Texts as digests, by the document. -/
import Derived.Test.YtidggdjonahmkaaDoorT9
namespace Stk
open Go
set_option maxRecDepth 100000
set_option linter.unusedSimpArgs false
set_option linter.unusedVariables false
set_option maxHeartbeats 8000000
/-- What the first d digits say of a character. -/
def nd (c : Int) (d : Nat) : Int := if 0 ≤ dg c ∧ dg c < d then dg c else -1
theorem dc_iff {c : Int} (hc : 0 ≤ c ∧ c ≤ 255) {d : Nat} (hd : d < 16) : c = dc d ↔ dg c = d := by
  unfold dg dc
  constructor
  · rintro rfl
    split <;> (split <;> first | omega | (split <;> omega))
  · intro h
    split at h
    · split <;> omega
    · split at h
      · split <;> omega
      · omega
def ql (s : ByteArray) (i : Nat) : List Tr := if i % 2 = 0 then pl s (i / 2) else (pl s (i / 2)).set (i / 2) (u8 (dg (cv s (i - 1))))
theorem good_no {s : ByteArray} {i : Nat} (hi : i < 64) (h : dg (cv s i) < 0) : parse s = (List.replicate 32 (u8 0), 5) := by
  unfold parse
  rw [if_neg]
  intro hg
  unfold good at hg
  rw [Bool.and_eq_true] at hg
  have := List.all_eq_true.1 hg.2 (i / 2) (List.mem_range.2 (by omega))
  unfold okd at this
  rw [Bool.and_eq_true] at this
  have h1 := of_decide_eq_true this.1
  have h2 := of_decide_eq_true this.2
  by_cases he : i % 2 = 0
  · rw [show 2 * (i / 2) = i by omega] at h1; omega
  · rw [show 2 * (i / 2) + 1 = i by omega] at h2; omega
theorem good_yes {s : ByteArray} (hs : s.size = 64) (h : ∀ j, j < 64 → 0 ≤ dg (cv s j)) : parse s = (pl s 32, 0) := by
  unfold parse good
  rw [decide_eq_true hs, Bool.true_and, if_pos]
  rw [List.all_eq_true]
  intro j hj
  have hj := List.mem_range.1 hj
  unfold okd
  rw [decide_eq_true (h (2 * j) (by omega)), decide_eq_true (h (2 * j + 1) (by omega))]; rfl
structure QSt (s : ByteArray) where
  i : Nat
  im : i ≤ 64
  ok : ∀ j, j < i → 0 ≤ dg (cv s j)
  xs : List Tr
  e : xs = ql s i
structure DSt (c : Int) where
  d : Nat
  im : d ≤ 16
  n : Int
  e : n = nd c d
theorem r_parse (s : ByteArray) : ACalls PP GG F.ref17_Parse [.t (.str s)] [] fun r H' => r = .tup [.t (.arr 32 (parse s).1), ti (parse s).2] ∧ H' = [] := by
  refine K.ref17_Parse.callsC rfl ?_
  (conv => arg 3; whnf); repeat (first | ((with_reducible refine sat_brT ?_ ?_); rfl; conv => arg 3; whnf) | ((with_reducible refine sat_brF ?_ ?_); rfl; conv => arg 3; whnf) | ((with_reducible refine sat_eqv ?_ ?_); rfl; conv => arg 3; whnf))
  refine sat_br (fun h => ?_) (fun h => ?_)
  · have h : ¬ s.size = 64 := by have := bne_iff_ne.1 h; omega
    rw [show parse s = (List.replicate 32 (u8 0), 5) by unfold parse good; rw [decide_eq_false h]; rfl]
    (conv => arg 3; whnf); repeat (first | ((with_reducible refine sat_brT ?_ ?_); rfl; conv => arg 3; whnf) | ((with_reducible refine sat_brF ?_ ?_); rfl; conv => arg 3; whnf) | ((with_reducible refine sat_eqv ?_ ?_); rfl; conv => arg 3; whnf))
    exact sat_ret ⟨rfl, rfl⟩
  have h : s.size = 64 := by have : (s.size : Int) = 64 := by simpa using h
                             omega
  (conv => arg 3; whnf); repeat (first | ((with_reducible refine sat_brT ?_ ?_); rfl; conv => arg 3; whnf) | ((with_reducible refine sat_brF ?_ ?_); rfl; conv => arg 3; whnf) | ((with_reducible refine sat_eqv ?_ ?_); rfl; conv => arg 3; whnf))
  refine sat_loopOf mkX_ops (σ := QSt s) (fun x => [(0, .t (.str s)), (2, pt 0), (4, pt 1), (5, ti x.i)]) (fun x => [.var (.t z32), .var (.t (.arr 32 x.xs))]) (fun x => 64 - x.i)
    (fun ex fr' H' => (ex = .exit 0 ∧ fr' = [(2, pt 0), (3, .undef), (4, pt 1)] ∧ parse s = (pl s 32, 0) ∧ H' = [.var (.t z32), .var (.t (.arr 32 (pl s 32)))]) ∨
      (ex = .ret ∧ fr' = [(2, pt 0), (3, ti 5), (4, pt 1)] ∧ parse s = (List.replicate 32 (u8 0), 5) ∧ ∃ xs, H' = [.var (.t z32), .var (.t (.arr 32 xs)), .gone, .gone])) ⟨0, Nat.zero_le _, (fun j hj => by omega), List.replicate 32 (u8 0), rfl⟩ ?_ ?_
  · rintro ⟨i, im, ok, xs, hxs⟩
    dsimp only
    refine sat_br (fun hi => ?_) (fun hi => ?_)
    · have hi : i < 64 := by have := of_decide_eq_true hi; omega
      have hcb := cv_b s i
      have e1 : ((s.data.toList.getD ((i : Int)).toNat 0).toNat : Int) = cv s i := by unfold cv; rw [show (i : Int).toNat = i by omega]
      generalize hc : cv s i = c at hcb e1
      have hdl := dg_le c
      (conv => arg 3; whnf); repeat (first | ((with_reducible refine sat_brT ?_ ?_); rfl; conv => arg 3; whnf) | ((with_reducible refine sat_brF ?_ ?_); rfl; conv => arg 3; whnf) | ((with_reducible refine sat_eqv ?_ ?_); rfl; conv => arg 3; whnf))
      refine sat_loopOf mkX_ops (σ := DSt c) (fun x => [(0, .t (.str s)), (2, pt 0), (4, pt 1), (5, ti i), (6, ti x.n), (7, ti x.d)]) (fun x => [.var (.t z32), .var (.t (.arr 32 xs))]) (fun x => 16 - x.d)
        (fun ex fr' H' => ex = .exit 2 ∧ fr' = [(0, .t (.str s)), (2, pt 0), (4, pt 1), (5, ti i), (6, ti (dg c))] ∧ H' = [.var (.t z32), .var (.t (.arr 32 xs))]) ⟨0, Nat.zero_le _, -1, by unfold nd; rw [if_neg (by omega)]⟩ ?_ ?_
      · rintro ⟨d, dm, n, hn⟩
        dsimp only
        refine sat_br (fun hd => ?_) (fun hd => ?_)
        · have hd : d < 16 := by have := of_decide_eq_true hd; omega
          have e2 : ((digs.data.toList.getD ((d : Int)).toNat 0).toNat : Int) = dc d := digs_at (by omega)
          have hiff := dc_iff hcb hd
          (conv => arg 3; whnf); repeat (first | ((with_reducible refine sat_brT ?_ ?_); rfl; conv => arg 3; whnf) | ((with_reducible refine sat_brF ?_ ?_); rfl; conv => arg 3; whnf) | ((with_reducible refine sat_eqv ?_ ?_); rfl; conv => arg 3; whnf))
          refine sat_asrt (decide_eq_true (by omega)) ?_
          (conv => arg 3; whnf); repeat (first | ((with_reducible refine sat_brT ?_ ?_); rfl; conv => arg 3; whnf) | ((with_reducible refine sat_brF ?_ ?_); rfl; conv => arg 3; whnf) | ((with_reducible refine sat_eqv ?_ ?_); rfl; conv => arg 3; whnf))
          refine sat_asrt (decide_eq_true ⟨by omega, by show (d : Int) < 16; omega⟩) ?_
          (conv => arg 3; whnf); repeat (first | ((with_reducible refine sat_brT ?_ ?_); rfl; conv => arg 3; whnf) | ((with_reducible refine sat_brF ?_ ?_); rfl; conv => arg 3; whnf) | ((with_reducible refine sat_eqv ?_ ?_); rfl; conv => arg 3; whnf))
          rw [e1, e2]
          refine sat_br (fun hq => ?_) (fun hq => ?_)
          · have hq := hiff.1 (eq_of_beq hq)
            (conv => arg 3; whnf); repeat (first | ((with_reducible refine sat_brT ?_ ?_); rfl; conv => arg 3; whnf) | ((with_reducible refine sat_brF ?_ ?_); rfl; conv => arg 3; whnf) | ((with_reducible refine sat_eqv ?_ ?_); rfl; conv => arg 3; whnf))
            refine sat_rng (wrap64 (by omega) (by omega)) ?_
            exact sat_ret ⟨⟨d + 1, hd, d, by unfold nd; rw [if_pos (by omega), hq]⟩, rfl, rfl, by show 16 - (d + 1) < 16 - d; omega⟩
          · have hq : ¬ dg c = d := fun hh => by
              have := hiff.2 hh
              rw [this] at hq
              simp at hq
            (conv => arg 3; whnf); repeat (first | ((with_reducible refine sat_brT ?_ ?_); rfl; conv => arg 3; whnf) | ((with_reducible refine sat_brF ?_ ?_); rfl; conv => arg 3; whnf) | ((with_reducible refine sat_eqv ?_ ?_); rfl; conv => arg 3; whnf))
            refine sat_rng (wrap64 (by omega) (by omega)) ?_
            exact sat_ret ⟨⟨d + 1, hd, n, by rw [hn]; unfold nd; by_cases hx : 0 ≤ dg c ∧ dg c < d
                                             · rw [if_pos hx, if_pos (by omega)]
                                             · rw [if_neg hx, if_neg (by omega)]⟩, rfl, rfl, by show 16 - (d + 1) < 16 - d; omega⟩
        · have hd : d = 16 := by have := of_decide_eq_false hd; omega
          subst hd
          have hn : n = dg c := by
            rw [hn]; unfold nd
            by_cases hx : 0 ≤ dg c
            · rw [if_pos (by omega)]
            · rw [if_neg (by omega)]; omega
          subst hn
          (conv => arg 3; whnf); repeat (first | ((with_reducible refine sat_brT ?_ ?_); rfl; conv => arg 3; whnf) | ((with_reducible refine sat_brF ?_ ?_); rfl; conv => arg 3; whnf) | ((with_reducible refine sat_eqv ?_ ?_); rfl; conv => arg 3; whnf))
          exact sat_ret ⟨rfl, rfl, rfl⟩
      · rintro ex fr' H' ⟨rfl, rfl, rfl⟩
        (conv => arg 3; whnf); repeat (first | ((with_reducible refine sat_brT ?_ ?_); rfl; conv => arg 3; whnf) | ((with_reducible refine sat_brF ?_ ?_); rfl; conv => arg 3; whnf) | ((with_reducible refine sat_eqv ?_ ?_); rfl; conv => arg 3; whnf))
        refine sat_br (fun hn => ?_) (fun hn => ?_)
        · have hn := of_decide_eq_true hn
          (conv => arg 3; whnf); repeat (first | ((with_reducible refine sat_brT ?_ ?_); rfl; conv => arg 3; whnf) | ((with_reducible refine sat_brF ?_ ?_); rfl; conv => arg 3; whnf) | ((with_reducible refine sat_eqv ?_ ?_); rfl; conv => arg 3; whnf))
          exact sat_ret (.inr ⟨rfl, rfl, good_no hi (by rw [hc]; exact hn), xs, rfl⟩)
        · have hn := of_decide_eq_false hn
          have hdv : Int.tdiv (i : Int) 2 = ((i / 2 : Nat) : Int) := by rw [Int.tdiv_eq_ediv_of_nonneg (by omega)]; omega
          have hw := wrap8 (n := dg c) (by omega) (by omega)
          have hok : ∀ j, j < i + 1 → 0 ≤ dg (cv s j) := fun j hj => by
            by_cases hji : j = i
            · rw [hji, hc]; omega
            · exact ok j (by omega)
          have hxl : xs.length = 32 := by
            rw [hxs]; unfold ql
            split
            · exact pl_len s (by omega)
            · rw [List.length_set]; exact pl_len s (by omega)
          have old : ∃ x, xs[i / 2]? = some (u8 x) ∧ 0 ≤ x ∧ x ≤ 15 ∧ xs.set (i / 2) (u8 (16 * x + dg c)) = ql s (i + 1) := by
            by_cases he : i % 2 = 0
            · have hxe : xs = pl s (i / 2) := by rw [hxs]; unfold ql; rw [if_pos he]
              refine ⟨0, by rw [hxe]; exact pl_get s (by omega), by omega, by omega, ?_⟩
              unfold ql
              rw [if_neg (by omega), show (i + 1) / 2 = i / 2 by omega, show i + 1 - 1 = i by omega, hc, hxe, Int.mul_zero, Int.zero_add]
            · have hxe : xs = (pl s (i / 2)).set (i / 2) (u8 (dg (cv s (i - 1)))) := by rw [hxs]; unfold ql; rw [if_neg he]
              have h1 := ok (i - 1) (by omega)
              have h2 := dg_le (cv s (i - 1))
              have hp := pl_len s (i := i / 2) (by omega)
              refine ⟨dg (cv s (i - 1)), by rw [hxe, List.getElem?_set_self (by omega)], h1, h2.2, ?_⟩
              unfold ql
              have hpv : pv s (i / 2) = 16 * dg (cv s (i - 1)) + dg c := by
                unfold pv
                rw [show 2 * (i / 2) = i - 1 by omega, show i - 1 + 1 = i by omega, hc]
              rw [if_pos (by omega), hxe, List.set_set, ← hpv, pl_set s (by omega)]
              congr 1
              omega
          obtain ⟨x, o1, o2, o3, o4⟩ := old
          have hlt : i / 2 < 32 := by omega
          generalize hii : i / 2 = k at hdv o1 o4 hlt
          (conv => arg 3; whnf); repeat (first | ((with_reducible refine sat_brT ?_ ?_); rfl; conv => arg 3; whnf) | ((with_reducible refine sat_brF ?_ ?_); rfl; conv => arg 3; whnf) | ((with_reducible refine sat_eqv ?_ ?_); rfl; conv => arg 3; whnf))
          refine sat_asrt rfl ?_
          rw [hdv]
          repeat (first | (rw [hdv]) | (rw [hw]) | ((with_reducible refine sat_rng ?_ ?_); (first | (exact wrap8 (by omega) (by omega)) | (exact wrap64 (by omega) (by omega)) | (exact hw)); (conv => arg 3; whnf); repeat (first | ((with_reducible refine sat_brT ?_ ?_); rfl; conv => arg 3; whnf) | ((with_reducible refine sat_brF ?_ ?_); rfl; conv => arg 3; whnf) | ((with_reducible refine sat_eqv ?_ ?_); rfl; conv => arg 3; whnf))) | ((with_reducible refine sat_asrt ?_ ?_); (first | rfl | (exact decide_eq_true (by omega))); (conv => arg 3; whnf); repeat (first | ((with_reducible refine sat_brT ?_ ?_); rfl; conv => arg 3; whnf) | ((with_reducible refine sat_brF ?_ ?_); rfl; conv => arg 3; whnf) | ((with_reducible refine sat_eqv ?_ ?_); rfl; conv => arg 3; whnf))) | ((with_reducible refine sat_idx (u8 x) ?_ ?_ ?_); omega; (rw [Int.toNat_natCast, Int.toNat_natCast]; exact o1); (conv => arg 3; whnf); repeat (first | ((with_reducible refine sat_brT ?_ ?_); rfl; conv => arg 3; whnf) | ((with_reducible refine sat_brF ?_ ?_); rfl; conv => arg 3; whnf) | ((with_reducible refine sat_eqv ?_ ?_); rfl; conv => arg 3; whnf))))
          rw [Int.toNat_natCast, o4]
          exact sat_ret ⟨⟨i + 1, hi, hok, ql s (i + 1), rfl⟩, rfl, rfl, by show 64 - (i + 1) < 64 - i; omega⟩
    · have hi : i = 64 := by have := of_decide_eq_false hi; omega
      subst hi
      (conv => arg 3; whnf); repeat (first | ((with_reducible refine sat_brT ?_ ?_); rfl; conv => arg 3; whnf) | ((with_reducible refine sat_brF ?_ ?_); rfl; conv => arg 3; whnf) | ((with_reducible refine sat_eqv ?_ ?_); rfl; conv => arg 3; whnf))
      rw [show ql s 64 = pl s 32 from rfl] at hxs
      subst hxs
      exact sat_ret (.inl ⟨rfl, rfl, good_yes h ok, rfl⟩)
  · rintro ex fr' H' (⟨rfl, rfl, hp, rfl⟩ | ⟨rfl, rfl, hp, ys, rfl⟩)
    · rw [hp]
      (conv => arg 3; whnf); repeat (first | ((with_reducible refine sat_brT ?_ ?_); rfl; conv => arg 3; whnf) | ((with_reducible refine sat_brF ?_ ?_); rfl; conv => arg 3; whnf) | ((with_reducible refine sat_eqv ?_ ?_); rfl; conv => arg 3; whnf))
      exact sat_ret ⟨rfl, rfl⟩
    · rw [hp]
      (conv => arg 3; whnf); repeat (first | ((with_reducible refine sat_brT ?_ ?_); rfl; conv => arg 3; whnf) | ((with_reducible refine sat_brF ?_ ?_); rfl; conv => arg 3; whnf) | ((with_reducible refine sat_eqv ?_ ?_); rfl; conv => arg 3; whnf))
      exact sat_ret ⟨rfl, rfl⟩
end Stk
